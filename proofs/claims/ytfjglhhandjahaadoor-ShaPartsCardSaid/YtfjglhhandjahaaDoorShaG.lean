/- awake. -/
import Derived.Test.YtfjglhhandjahaaDoorShaF
namespace Go.Proofs.YtfjglhhandjahaaDoor.Sha
open Go.RowKit Go.Proofs.YtfjglhhandjahaaDoorW.PrintWords Go.Proofs.YtfjglhhandjahaaDoor.PShaOf
set_option linter.unusedVariables false

def firstL : List Int := [1779033703, 3144134277, 1013904242, 2773480762, 1359893119, 2600822924, 528734635, 1541459225]
def roundL : List Int := [1116352408, 1899447441, 3049323471, 3921009573, 961987163, 1508970993, 2453635748, 2870763221, 3624381080, 310598401, 607225278, 1426881987, 1925078388, 2162078206, 2614888103, 3248222580, 3835390401, 4022224774, 264347078, 604807628, 770255983, 1249150122, 1555081692, 1996064986, 2554220882, 2821834349, 2952996808, 3210313671, 3336571891, 3584528711, 113926993, 338241895, 666307205, 773529912, 1294757372, 1396182291, 1695183700, 1986661051, 2177026350, 2456956037, 2730485921, 2820302411, 3259730800, 3345764771, 3516065817, 3600352804, 4094571909, 275423344, 430227734, 506948616, 659060556, 883997877, 958139571, 1322822218, 1537002063, 1747873779, 1955562222, 2024104815, 2227730452, 2361852424, 2428436474, 2756734187, 3204031479, 3329325298]
theorem abc : (digest roundL firstL [97, 98, 99]).getD 0 0 = 3128432319 ∧ (digest roundL firstL [97, 98, 99]).getD 7 0 = 4060091821 := by decide +kernel
theorem digest_length (rs fs l : List Int) (h : fs.length = 8) : (digest rs fs l).length = 8 := blkL_length _ _ h _ _

theorem of_is (m : List Int) (A : Option Addr) (c : Nat) (w : World) (hF : TB w 0 firstL) (hK : TB w 1 roundL)
    (hm : Kd.C (Kd.int .u8) w A m.length m) (hc : m.length ≤ c) (hlen : m.length ≤ 900000) :
    Calls Tryd.prog 12 #[.slice A m.length c] w fun e w' => e = .returned (.agg (nums .u32 (digest roundL firstL m)).toArray) ∧ Below w.heap.size w w' :=
  of_calls roundL _ _ _ _ _ _ _ _ m A c w hF hK rfl hm hc hlen

theorem lit_C (W : World) (xs : List Int) (hx : xs.length ≤ 1000000) (T : TypeId) : Kd.C (Kd.int .u8) (W.alloc (.cells (nums .u8 xs).toArray T)) (some ⟨W.heap.size, 0, none⟩) xs.length xs := by
  refine Kd.C_of_reads (d := 0) ⟨rfl, by omega, fun _ => ⟨_, rfl, fun j hj => ?_⟩⟩
  rw [add_plain, blk_cell (blk_new W _) j]
  simp [nums, hj]

set_option maxHeartbeats 1000000 in
set_option maxRecDepth 100000 in
theorem awake_calls (w : World) (hF : TB w 0 firstL) (hK : TB w 1 roundL) : Calls Tryd.prog 7 #[] w fun e w' => e = .returned (.bool true) ∧ Below w.heap.size w w' := by
  have HF := Aside0.mk hF
  have HK := Aside0.mk hK
  clear hF hK
  have z2 := zeroV29
  obtain ⟨d0, d1, d2, d3, d4, d5, d6, d7, hd⟩ := eight _ (digest_length roundL firstL [97, 98, 99] rfl)
  have h0 := abc.1
  have h7 := abc.2
  rw [hd] at h0 h7
  obtain rfl : d0 = 3128432319 := h0
  obtain rfl : d7 = 4060091821 := h7
  have HD := Aside0.mk hd
  clear hd
  have HO : Aside0 (∀ W, Below w.heap.size w W → Calls Tryd.prog 12 #[.slice (some ⟨W.heap.size, 0, none⟩) 3 3] (W.alloc (.cells #[.int .u8 97, .int .u8 98, .int .u8 99] 5)) fun e w' => e = .returned (.agg #[.int .u32 3128432319, .int .u32 d1, .int .u32 d2, .int .u32 d3, .int .u32 d4, .int .u32 d5, .int .u32 d6, .int .u32 4060091821]) ∧ Below w.heap.size w w') := ⟨fun W hB => by
    have hB2 : Below w.heap.size w (W.alloc (.cells #[.int .u8 97, .int .u8 98, .int .u8 99] 5)) := below_alloc hB _
    have h := of_is [97, 98, 99] (some ⟨W.heap.size, 0, none⟩) 3 (W.alloc (.cells #[.int .u8 97, .int .u8 98, .int .u8 99] 5)) (TB.below HF.out hB2) (TB.below HK.out hB2) (lit_C W [97, 98, 99] (by simp) 5) (Nat.le_refl _) (by simp)
    rw [HD.out] at h
    exact h.mono fun e w' k => ⟨k.1, hB2.trans (k.2.mono hB2.size)⟩⟩
  go_enter Tryd.func7, Tryd.ntmps7
  go_wp2_with ((go_at_call 12; refine (HO.out _ (Below.refl _ _)).mono ?_; rintro e w1 ⟨rfl, hB⟩; have S1 := Aside0.mk hB; clear hB))
  go_ret
  exact ⟨rfl, below_alloc S1.out _⟩

end Go.Proofs.YtfjglhhandjahaaDoor.Sha
