/- ip.get's number reader. -/
import Derived.Test.YtfkkjhfncmfahaaDoorProg
import Derived.Test.YtfkkjhfncmfahaaDoorA0
import Derived.Test.YtfkkjhfncmfahaaDoorB0
import Derived.Test.YtfkkjhfncmfahaaDoorB1
import Derived.Test.YtfkkjhfncmfahaaDoorS1
import Derived.Test.YtfkkjhfncmfahaaDoorB2
namespace Go.Proofs.YtfkkjhfncmfahaaDoor
open Go.RowKit Go.Deep

theorem bytes_part {w : World} {B b o n : Nat} {bs : List UInt8} (h : Reads w B 1 (some ⟨b, o, none⟩) n (bytesV bs)) (hl : bs.length = n) (at_ m : Nat) (hm : at_ + m ≤ n) :
    Reads w B 1 (some ⟨b, o + at_, none⟩) m (bytesV ((bs.drop at_).take m)) := by
  refine ⟨by simp; omega, fun hp => ?_⟩
  obtain ⟨ad, e, hb, hc⟩ := h.2 (by omega)
  injection e with e
  subst e
  refine ⟨_, rfl, hb, fun j u hj => ?_⟩
  rw [← bytesV_take, ← bytesV_drop, List.getElem?_take] at hj
  split at hj
  · rw [List.getElem?_drop] at hj
    have := hc _ _ hj
    rw [add_at] at this ⊢
    rw [Nat.add_assoc]
    exact this
  · cases hj

set_option maxRecDepth 100000 in
set_option maxHeartbeats 1000000 in
theorem getnum_any (gb b o n c : Nat) (bs : List UInt8) (at_ m : Nat) (at' m' : Int) (w : World) (ha : at' = at_) (hm : m' = m) (hl : bs.length = n) (hc : n ≤ c) (hn : n ≤ 140737488355328) (hr : Reads w w.heap.size 1 (some ⟨b, o, none⟩) n (bytesV bs))
    (hbox : w.cell? ⟨gb, 0, none⟩ = some (.slice (some ⟨b, o, none⟩) n c)) (hle : at_ + m ≤ n) (hm0 : 0 < m) (hm8 : m ≤ 4) :
    Calls Tryd.prog 31 #[.int .i64 at', .int .i64 m', .pointer (some ⟨gb, 0, none⟩)] w fun e w' => e = .returned (.int .i64 (beN ((bs.drop at_).take m) : Nat)) ∧ w = w' := by
  subst ha hm
  have hlen : ((bs.drop at_).take m).length = m := by simp; omega
  have hlt := beN_lt ((bs.drop at_).take m)
  rw [hlen] at hlt
  have h32 : 2 ^ (8 * m) ≤ 2 ^ 32 := Nat.pow_le_pow_right (by omega) (by omega)
  have HG := Lib.hid (get_any (some ⟨b, o + at_, none⟩) m (c - at_) ((bs.drop at_).take m) w hlen (by omega) (by omega) (bytes_part hr hl at_ m hle))
  obtain ⟨v, hv⟩ : ∃ v, beN ((bs.drop at_).take m) = v := ⟨_, rfl⟩
  rw [hv] at HG hlt ⊢
  have hv2 : v < 4294967296 := Nat.lt_of_lt_of_le hlt h32
  have hcat : ¬ c = at_ := by omega
  have hi1 : (0 : Int) ≤ (at_ : Int) := by omega
  have hi2 : (at_ : Int) + m ≤ n := by omega
  clear hv hlt h32 hlen hr hl
  go_enter Tryd.func31, Tryd.ntmps31
  go_wp2_with fail
  refine HG.out.mono ?_
  rintro e w1 ⟨rfl, rfl⟩
  go_wp2_with fail
  go_ret
  exact ⟨rfl, rfl⟩
theorem getnum_call (args : Array Value) (W : World) : (callFunc 31 args).run Tryd.prog W = .ok (.enter 31 args) W := by kernel_rfl
end Go.Proofs.YtfkkjhfncmfahaaDoor
