/- The words of 64 bytes. -/
import Derived.Test.YtfjglhhandjahaaDoorShaB
namespace Go.Proofs.YtfjglhhandjahaaDoor.Sha
open Go.RowKit Go.Proofs.YtfjglhhandjahaaDoorW.PrintWords Go.Proofs.YtfjglhhandjahaaDoor.PShaOf
set_option linter.unusedVariables false

/-- A word of four bytes, as the program makes it. -/
def w4 (b0 b1 b2 b3 : Int) : Int := Go.bits .or .u32 (Go.bits .or .u32 (Go.bits .or .u32 (Go.bits .or .u32 0 (shl .u32 (b0 % 4294967296) 24)) (shl .u32 (b1 % 4294967296) 16)) (shl .u32 (b2 % 4294967296) 8)) (shl .u32 (b3 % 4294967296) 0)
/-- And as the document does. -/
def v4 (b0 b1 b2 b3 : Int) : Int := ((((((((((0 * 256) % 4294967296) + b0 % 4294967296) % 4294967296 * 256) % 4294967296) + b1 % 4294967296) % 4294967296 * 256) % 4294967296 + b2 % 4294967296) % 4294967296 * 256) % 4294967296 + b3 % 4294967296) % 4294967296
set_option maxRecDepth 100000 in
theorem pack_lit (b0 b1 b2 b3 b4 b5 b6 b7 b8 b9 b10 b11 b12 b13 b14 b15 b16 b17 b18 b19 b20 b21 b22 b23 b24 b25 b26 b27 b28 b29 b30 b31 b32 b33 b34 b35 b36 b37 b38 b39 b40 b41 b42 b43 b44 b45 b46 b47 b48 b49 b50 b51 b52 b53 b54 b55 b56 b57 b58 b59 b60 b61 b62 b63 : Int) : word_Pack.f 65 [b0, b1, b2, b3, b4, b5, b6, b7, b8, b9, b10, b11, b12, b13, b14, b15, b16, b17, b18, b19, b20, b21, b22, b23, b24, b25, b26, b27, b28, b29, b30, b31, b32, b33, b34, b35, b36, b37, b38, b39, b40, b41, b42, b43, b44, b45, b46, b47, b48, b49, b50, b51, b52, b53, b54, b55, b56, b57, b58, b59, b60, b61, b62, b63] = some [w4 b0 b1 b2 b3, w4 b4 b5 b6 b7, w4 b8 b9 b10 b11, w4 b12 b13 b14 b15, w4 b16 b17 b18 b19, w4 b20 b21 b22 b23, w4 b24 b25 b26 b27, w4 b28 b29 b30 b31, w4 b32 b33 b34 b35, w4 b36 b37 b38 b39, w4 b40 b41 b42 b43, w4 b44 b45 b46 b47, w4 b48 b49 b50 b51, w4 b52 b53 b54 b55, w4 b56 b57 b58 b59, w4 b60 b61 b62 b63] := by kernel_rfl
set_option maxRecDepth 100000 in
theorem pack1_lit (b0 b1 b2 b3 b4 b5 b6 b7 b8 b9 b10 b11 b12 b13 b14 b15 b16 b17 b18 b19 b20 b21 b22 b23 b24 b25 b26 b27 b28 b29 b30 b31 b32 b33 b34 b35 b36 b37 b38 b39 b40 b41 b42 b43 b44 b45 b46 b47 b48 b49 b50 b51 b52 b53 b54 b55 b56 b57 b58 b59 b60 b61 b62 b63 : Int) : instarref01_Pack.f 200 [b0, b1, b2, b3, b4, b5, b6, b7, b8, b9, b10, b11, b12, b13, b14, b15, b16, b17, b18, b19, b20, b21, b22, b23, b24, b25, b26, b27, b28, b29, b30, b31, b32, b33, b34, b35, b36, b37, b38, b39, b40, b41, b42, b43, b44, b45, b46, b47, b48, b49, b50, b51, b52, b53, b54, b55, b56, b57, b58, b59, b60, b61, b62, b63] = some [v4 b0 b1 b2 b3, v4 b4 b5 b6 b7, v4 b8 b9 b10 b11, v4 b12 b13 b14 b15, v4 b16 b17 b18 b19, v4 b20 b21 b22 b23, v4 b24 b25 b26 b27, v4 b28 b29 b30 b31, v4 b32 b33 b34 b35, v4 b36 b37 b38 b39, v4 b40 b41 b42 b43, v4 b44 b45 b46 b47, v4 b48 b49 b50 b51, v4 b52 b53 b54 b55, v4 b56 b57 b58 b59, v4 b60 b61 b62 b63] := by kernel_rfl
end Go.Proofs.YtfjglhhandjahaaDoor.Sha
