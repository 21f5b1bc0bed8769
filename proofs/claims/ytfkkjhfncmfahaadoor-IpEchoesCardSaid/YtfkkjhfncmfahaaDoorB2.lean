/- bits.Get, the most significant byte first: what it answers. -/
import Derived.Test.YtfkkjhfncmfahaaDoorProg
import Derived.Test.YtfkkjhfncmfahaaDoorA0
import Derived.Test.YtfkkjhfncmfahaaDoorB0
import Derived.Test.YtfkkjhfncmfahaaDoorB1
import Derived.Test.YtfkkjhfncmfahaaDoorS1
namespace Go.Proofs.YtfkkjhfncmfahaaDoor
open Go.RowKit Go.Deep

/-- The number of some bytes, the greatest first. -/
def beN : List UInt8 → Nat
  | [] => 0
  | b :: r => b.toNat * 2 ^ (8 * r.length) + beN r
theorem beN_lt (bs : List UInt8) : beN bs < 2 ^ (8 * bs.length) := by
  induction bs with
  | nil => simp [beN]
  | cons b r ih =>
    have hb := b.toNat_lt
    simp only [beN, List.length_cons]
    have e : 2 ^ (8 * (r.length + 1)) = 256 * 2 ^ (8 * r.length) := by
      rw [show 8 * (r.length + 1) = 8 * r.length + 8 by omega, Nat.pow_add]; omega
    rw [e]
    have h2 : b.toNat * 2 ^ (8 * r.length) ≤ 255 * 2 ^ (8 * r.length) := Nat.mul_le_mul_right _ (by omega)
    omega
theorem beN_drop (bs : List UInt8) (k : Nat) (hk : k < bs.length) : beN (bs.drop (bs.length - (k + 1))) = (bs.getD (bs.length - 1 - k) 0).toNat * 2 ^ (8 * k) + beN (bs.drop (bs.length - k)) := by
  have e : bs.length - (k + 1) < bs.length := by omega
  rw [List.drop_eq_getElem_cons e]
  simp only [beN, List.length_drop]
  have e2 : bs.length - (k + 1) + 1 = bs.length - k := by omega
  rw [e2, show bs.length - (bs.length - k) = k by omega]
  congr 2
  simp [List.getD, show bs.length - 1 - k = bs.length - (k + 1) by omega, e]
theorem or_add64 (a b i : Nat) (ha : a < 2 ^ i) (h : b * 2 ^ i + a < 18446744073709551616) : bits .or .u64 (a : Int) ((b * 2 ^ i : Nat) : Int) = ((b * 2 ^ i + a : Nat) : Int) := by
  have h1 : a ||| b * 2 ^ i = b * 2 ^ i + a := by
    have h2 := Nat.two_pow_add_eq_or_of_lt ha b
    rw [Nat.or_comm, Nat.mul_comm b]
    exact h2.symm
  generalize b * 2 ^ i = c at h h1
  show IntKind.u64.wrap ((BitVec.ofInt 64 (a : Int) ||| BitVec.ofInt 64 (c : Int)).toNat : Int) = _
  rw [BitVec.toNat_or, BitVec.ofInt_natCast, BitVec.ofInt_natCast, BitVec.toNat_ofNat, BitVec.toNat_ofNat, Nat.mod_eq_of_lt (by omega), Nat.mod_eq_of_lt (by omega), h1]
  exact IntWalk.u64_in _ (by omega)

theorem or_step (x m k : Nat) (h : x * 2 ^ (8 * k) + m < 2 ^ 64) (hm : m < 2 ^ (8 * k)) : bits .or .u64 (m : Int) (IntKind.u64.wrap ((x : Int) * 2 ^ (8 * k))) = ((x * 2 ^ (8 * k) + m : Nat) : Int) := by
  have e : ((x : Int) * 2 ^ (8 * k)) = ((x * 2 ^ (8 * k) : Nat) : Int) := by simp
  have h' : x * 2 ^ (8 * k) + m < 18446744073709551616 := h
  rw [e, IntWalk.u64_in _ (by omega)]
  exact or_add64 m x (8 * k) hm h'

set_option maxRecDepth 100000 in
set_option maxHeartbeats 1000000 in
theorem get_any (A : Option Addr) (n c : Nat) (bs : List UInt8) (w : World) (hl : bs.length = n) (hc : n ≤ c) (hn : n ≤ 8) (hr : Reads w w.heap.size 1 A n (bytesV bs)) :
    Calls Tryd.prog 32 #[.slice A n c, .bool true] w fun e w' => e = .returned (.int .u64 (beN bs : Nat)) ∧ w = w' := by
  have HL := Lib.hid hl
  clear hl
  go_enter Tryd.func32, Tryd.ntmps32
  go_wp2_with fail
  go_loop [13, 7, 8, 5] (fun i _ _ x => ∃ k : Nat, k ≤ n ∧ i = .int .i64 k ∧ ∃ m : Nat, Hid (m = beN (bs.drop (n - k))) ∧ x = .int .u64 m) (fun i _ _ _ => n - (intOf i).toNat)
  case atStart => exact ⟨0, by omega, rfl, 0, Lib.hid (by rw [List.drop_of_length_le (by have := HL.out; omega)]; rfl), rfl⟩
  case round =>
    obtain ⟨k, hk, rfl, m, hm, rfl⟩ := hrel
    by_cases hlt : k < n
    · obtain ⟨b, o, rfl, hab, hcell⟩ := hr.opn (by omega)
      obtain ⟨x, hx⟩ : ∃ x, x = (bs.getD (n - 1 - k) 0).toNat := ⟨_, rfl⟩
      have hc0 := byte_at hcell HL.out (show n - 1 - k < n by omega)
      have hx2 : x < 256 := by rw [hx]; exact UInt8.toNat_lt _
      rw [← hx] at hc0
      have hlt2 : m < 2 ^ (8 * k) := by
        have := beN_lt (bs.drop (n - k))
        rw [← hm.out, List.length_drop, HL.out, show n - (n - k) = k by omega] at this
        exact this
      have hst : beN (bs.drop (n - (k + 1))) = x * 2 ^ (8 * k) + m := by
        have := beN_drop bs k (by rw [HL.out]; exact hlt)
        rw [HL.out, ← hx, ← hm.out] at this
        exact this
      have HX := Lib.hid hx
      have HST := Lib.hid hst
      have HLT := Lib.hid hlt2
      clear hx hst hcell hlt2
      go_wp2_with fail
      go_round
      case rel =>
        refine ⟨k + 1, by omega, by go_num, x * 2 ^ (8 * k) + m, Lib.hid HST.out.symm, ?_⟩
        have h1 := beN_lt (bs.drop (n - (k + 1)))
        rw [HST.out, List.length_drop, HL.out] at h1
        have h2 : 2 ^ (8 * (n - (n - (k + 1)))) ≤ 2 ^ 64 := Nat.pow_le_pow_right (by omega) (by omega)
        exact congrArg (Value.int .u64) (or_step x m k (Nat.lt_of_lt_of_le h1 h2) HLT.out)
      case measure => simp [intOf]; omega
    · go_wp2_with fail
      go_ret
      obtain rfl : k = n := by omega
      have h := hm.out
      rw [Nat.sub_self, List.drop_zero] at h
      refine ⟨?_, rfl⟩
      rw [h]
      rfl
end Go.Proofs.YtfkkjhfncmfahaaDoor
