/- sum.Sum, Right, Patch: what they answer. -/
import Derived.Test.YtfkkjhfncmfahaaDoorProg
import Derived.Test.YtfkkjhfncmfahaaDoorA0
import Derived.Test.YtfkkjhfncmfahaaDoorB0
import Derived.Test.YtfkkjhfncmfahaaDoorB1
import Derived.Laws.CopyOwn
import Derived.IntWalk
import Derived.Deep.RegionLaw
import Derived.Laws.BitsAllLaws
import Derived.Laws.BitsLemmas
namespace Go.Proofs.YtfkkjhfncmfahaaDoor
open Go.RowKit Go.Deep

/-- The sum of the first k pairs. -/
def totTo (bs : List UInt8) : Nat → Nat
  | 0 => 0
  | k + 1 => totTo bs k + (256 * (bs.getD (2 * k) 0).toNat + (bs.getD (2 * k + 1) 0).toNat)
def total (bs : List UInt8) : Nat := totTo bs ((bs.length + 1) / 2)
theorem totTo_le (bs : List UInt8) (k : Nat) : totTo bs k ≤ 65535 * k := by
  induction k with
  | zero => simp [totTo]
  | succ k ih =>
    have h1 := (bs.getD (2 * k) 0).toNat_lt
    have h2 := (bs.getD (2 * k + 1) 0).toNat_lt
    simp only [totTo]
    omega
theorem or_bytes (x y : Nat) (hx : x < 256) (hy : y < 256) : bits .or .i64 ((x : Int) * 256) (y : Int) = (x : Int) * 256 + y := by
  have e : ((x : Int) * 256) = ((x * 256 : Nat) : Int) := by omega
  have h : x * 256 ||| y = x * 256 + y := by
    have h2 := Nat.two_pow_add_eq_or_of_lt (i := 8) (b := y) (by omega) x
    rw [Nat.mul_comm x 256]
    exact h2.symm
  rw [e]
  show IntKind.i64.wrap ((BitVec.ofInt 64 ((x * 256 : Nat) : Int) ||| BitVec.ofInt 64 (y : Int)).toNat : Int) = _
  rw [BitVec.toNat_or, BitVec.ofInt_natCast, BitVec.ofInt_natCast, BitVec.toNat_ofNat, BitVec.toNat_ofNat, Nat.mod_eq_of_lt (by omega), Nat.mod_eq_of_lt (by omega), h, IntKind.wrap_i64]
  omega

theorem splice_pair (bs : List UInt8) (k : Nat) (h : 2 * k < bs.length) : splice [Value.int .u8 0, Value.int .u8 0] 0 (((bytesV bs).drop (2 * k)).take 2) =
    [.int .u8 ((bs.getD (2 * k) 0).toNat : Int), .int .u8 ((bs.getD (2 * k + 1) 0).toNat : Int)] := by
  have e : (bytesV bs).drop (2 * k) = byteV (bs.getD (2 * k) 0) :: (bytesV bs).drop (2 * k + 1) := by
    rw [bytesV_drop, bytesV_drop, List.drop_eq_getElem_cons h]
    simp only [bytesV, List.map_cons]
    simp [List.getD, h]
  rw [e]
  by_cases h2 : 2 * k + 1 < bs.length
  · have e2 : (bytesV bs).drop (2 * k + 1) = byteV (bs.getD (2 * k + 1) 0) :: (bytesV bs).drop (2 * k + 2) := by
      rw [bytesV_drop, bytesV_drop, List.drop_eq_getElem_cons h2]
      simp only [bytesV, List.map_cons]
      simp [List.getD, h2]
    rw [e2]
    simp [splice, byteV]
  · have e2 : (bytesV bs).drop (2 * k + 1) = [] := List.drop_eq_nil_of_le (by simp; omega)
    rw [e2]
    simp [splice, byteV, List.getD, List.getElem?_eq_none (show bs.length ≤ 2 * k + 1 by omega)]

/-- The sum in sixteen bits, the carries added again. -/
def canon (m : Nat) : Nat := if m = 0 then 0 else (m - 1) % 65535 + 1
theorem canon_step (m : Nat) (h : 65536 ≤ m) : canon (m % 65536 + m / 65536) = canon m := by
  unfold canon
  rw [if_neg (by omega), if_neg (by omega)]
  omega
theorem canon_small (m : Nat) (h : m < 65536) : canon m = m := by
  unfold canon
  split <;> omega
/-- What sum.Sum answers. -/
def sumF (bs : List UInt8) : Nat := 65535 - canon (total bs)
theorem canon_le (m : Nat) : canon m ≤ 65535 := by unfold canon; split <;> omega
theorem and_low (m : Nat) (hm : m < 9223372036854775808) : bits .and .i64 (m : Int) 65535 = (m : Int) % 65536 := by
  have h : m &&& 65535 = m % 65536 := Nat.and_two_pow_sub_one_eq_mod m 16
  show IntKind.i64.wrap ((BitVec.ofInt 64 (m : Int) &&& BitVec.ofInt 64 ((65535 : Nat) : Int)).toNat : Int) = _
  rw [BitVec.toNat_and, BitVec.ofInt_natCast, BitVec.ofInt_natCast, BitVec.toNat_ofNat, BitVec.toNat_ofNat, Nat.mod_eq_of_lt (by omega), Nat.mod_eq_of_lt (by omega), h, IntKind.wrap_i64]
  omega
theorem xor_low (m : Nat) (hm : m ≤ 65535) : bits .xor .i64 (m : Int) 65535 = 65535 - (m : Int) := by
  have h : m ^^^ 65535 = 65535 - m := by
    have h1 : (BitVec.ofNat 16 m ^^^ BitVec.allOnes 16).toNat = (~~~(BitVec.ofNat 16 m)).toNat := by rw [BitVec.xor_allOnes]
    rw [BitVec.toNat_xor, BitVec.toNat_not, BitVec.toNat_ofNat, BitVec.toNat_allOnes, Nat.mod_eq_of_lt (by omega)] at h1
    exact h1
  show IntKind.i64.wrap ((BitVec.ofInt 64 (m : Int) ^^^ BitVec.ofInt 64 ((65535 : Nat) : Int)).toNat : Int) = _
  rw [BitVec.toNat_xor, BitVec.ofInt_natCast, BitVec.ofInt_natCast, BitVec.toNat_ofNat, BitVec.toNat_ofNat, Nat.mod_eq_of_lt (by omega), Nat.mod_eq_of_lt (by omega), h, IntKind.wrap_i64]
  omega

set_option maxRecDepth 100000 in
set_option maxHeartbeats 1000000 in
theorem sum_any (A : Option Addr) (n c : Nat) (bs : List UInt8) (w : World) (hl : bs.length = n) (hc : n ≤ c) (hn : n ≤ 140737488355328) (hr : Reads w w.heap.size 1 A n (bytesV bs)) :
    Calls Tryd.prog 29 #[.slice A n c] w fun e w' => e = .returned (.int .i64 (sumF bs : Nat)) ∧ Below w.heap.size w w' := by
  have HL := Lib.hid hl
  clear hl
  go_enter Tryd.func29, Tryd.ntmps29
  go_wp2_with fail
  go_loopw [10, 4, 5, 3] (fun i _ _ s wr => ∃ k : Nat, k ≤ (n + 1) / 2 ∧ i = .int .i64 k ∧ s = .int .i64 (totTo bs k) ∧ Below w.heap.size w wr) (fun i _ _ _ _ => n - (intOf i).toNat)
  case atStart => exact ⟨0, by omega, rfl, rfl, Below.refl _ _⟩
  case round =>
    obtain ⟨k, hk, rfl, rfl, hbel⟩ := hrel
    by_cases hlt : k < (n + 1) / 2
    · obtain ⟨ad, rfl, hab, hc0⟩ := RB.at_ ((hr.below hbel).more hbel.size) HL.out (show 2 * k < n by omega)
      have hck : ¬ c = 2 * k := by omega
      have hck2 : (2 * (k : Int)) ≤ n := by omega
      go_wp2_with fail
      obtain ⟨cs, hcs⟩ : ∃ cs, cs = ((bytesV bs).drop (2 * k)).take 2 := ⟨_, rfl⟩
      have hbl := HL.out
      have hcl : cs.length = Nat.min (n - 2 * k) 2 := by
        rw [hcs, List.length_take, List.length_drop, bytesV_length, hbl, Nat.min_comm]
      have hcut : ∀ j v, cs[j]? = some v → wr.cell? ((ad.add (2 * k)).add j) = some v := by
        obtain ⟨ad', e, _, h⟩ := (hr.below hbel).2 (by omega)
        injection e with e
        subst e
        intro j v hj
        rw [add_of_add]
        refine h _ _ ?_
        rw [hcs, List.getElem?_take] at hj
        split at hj
        · rw [← hj, List.getElem?_drop]
        · cases hj
      have hco : ∀ v ∈ cs, v.oneCell' = true := by
        intro v hv
        rw [hcs] at hv
        exact bytesV_one bs v (List.mem_of_mem_drop (List.mem_of_mem_take hv))
      have hfit : 0 + cs.length ≤ [Value.int .u8 0, Value.int .u8 0].length := by
        rw [hcl]; have := Nat.min_le_right (n - 2 * k) 2; simp; omega
      have HC := Lib.hid hcs
      have HCL := Lib.hid hcl
      clear hcs hcl hbl
      have hu8 : (Tryd.prog.info? 5).map (·.size) = some 1 := by kernel_rfl
      have HU := Lib.hid hu8
      clear hu8
      have hcut' : ∀ j v, cs[j]? = some v → (wr.alloc (.cells #[.int .u8 0, .int .u8 0] 72)).drew.cell? ((ad.add (2 * k)).add j) = some v := fun j v hj =>
        (World.cell?_alloc_lt wr _ _ (by rw [block_of_add, block_of_add]; exact Nat.lt_of_lt_of_le hab (Nat.le_refl _))).trans (hcut j v hj)
      have hw1 : IntKind.i64.wrap (2 * (k : Int)) = 2 * (k : Int) := IntWalk.i64_in _ (by omega)
      have hw2 : (2 * (k : Int)).toNat = 2 * k := by omega
      have hw3 : (0 : Int) ≤ 2 * (k : Int) := by omega
      go_region_law (refine step_copy_splice rfl (.tmp 14) (.tmp 18) 23 23 rfl 5 Tryd.underlying23 HU.out _ _ _ _ _ _ rfl rfl wr.heap.size 0 [.int .u8 0, .int .u8 0] 72 (heap_alloc_new wr _) cs HCL.out (fun _ => ⟨rfl, _, rfl, fun j v hj => hcut' j v hj⟩) hfit hco w.heap.size w (hbel.alloc hbel.size _).drew hbel.size ?_; intro w4 hg4 hb4)
      have hp : splice [Value.int .u8 0, Value.int .u8 0] 0 cs = [.int .u8 ((bs.getD (2 * k) 0).toNat : Int), .int .u8 ((bs.getD (2 * k + 1) 0).toNat : Int)] := by
        rw [HC.out]; exact splice_pair bs k (by have := HL.out; omega)
      have hb : Blk w4 wr.heap.size 72 #[.int .u8 ((bs.getD (2 * k) 0).toNat : Int), .int .u8 ((bs.getD (2 * k + 1) 0).toNat : Int)] := by
        have := hg4.out; rw [hp] at this; exact this
      obtain ⟨x, hx⟩ : ∃ x, x = (bs.getD (2 * k) 0).toNat := ⟨_, rfl⟩
      obtain ⟨y, hy⟩ : ∃ y, y = (bs.getD (2 * k + 1) 0).toNat := ⟨_, rfl⟩
      have hx2 : x < 256 := by rw [hx]; exact UInt8.toNat_lt _
      have hy2 : y < 256 := by rw [hy]; exact UInt8.toNat_lt _
      rw [← hx, ← hy] at hb
      have h0 := hb.cell 0
      have h1 := hb.cell 1
      have hor := or_bytes x y hx2 hy2
      have HX := Lib.hid hx
      have HY := Lib.hid hy
      have hs := totTo_le bs k
      clear hx hy hp hg4 hw1 hw2 hw3 hcut hcut' hco hfit HC HCL HU hc0 hab
      go_wp2_with fail
      go_roundw
      case rel => exact ⟨k + 1, by omega, by go_num, by simp only [totTo, ← HX.out, ← HY.out]; go_num, hb4⟩
      case measure => simp [intOf]; omega
    · obtain rfl : k = (n + 1) / 2 := by omega
      have htot : totTo bs ((n + 1) / 2) = total bs := by unfold total; rw [HL.out]
      have hle := totTo_le bs ((n + 1) / 2)
      rw [htot] at hle ⊢
      clear htot hr
      go_wp2_with fail
      go_loop [3] (fun s => ∃ m : Nat, m ≤ 65535 * ((n + 1) / 2) ∧ s = .int .i64 m ∧ Hid (canon m = canon (total bs))) (fun s => (intOf s).toNat)
      case atStart => exact ⟨_, hle, rfl, Lib.hid rfl⟩
      case round =>
        obtain ⟨m, hm, rfl, hcan⟩ := hrel
        have hand := and_low m (by omega)
        by_cases hbig : 65536 ≤ m
        · go_wp2_with fail
          go_round
          case rel =>
            have hst := canon_step m hbig
            exact ⟨m % 65536 + m / 65536, by omega, by go_num, Lib.hid (by rw [hst]; exact hcan.out)⟩
          case measure => simp [intOf]; omega
        · have hxor := xor_low m (by omega)
          go_wp2_with fail
          go_ret
          have h1 := hcan.out
          rw [canon_small m (by omega)] at h1
          exact ⟨ret_int (by unfold sumF; omega), hbel⟩
theorem or_add (a b i : Nat) (hb : b < 2 ^ i) (h : a * 2 ^ i + b < 9223372036854775808) : bits .or .i64 ((a * 2 ^ i : Nat) : Int) (b : Int) = ((a * 2 ^ i + b : Nat) : Int) := by
  have h1 : a * 2 ^ i ||| b = a * 2 ^ i + b := by
    have h2 := Nat.two_pow_add_eq_or_of_lt hb a
    rw [Nat.mul_comm a]
    exact h2.symm
  generalize a * 2 ^ i = c at h h1
  show IntKind.i64.wrap ((BitVec.ofInt 64 (c : Int) ||| BitVec.ofInt 64 (b : Int)).toNat : Int) = _
  rw [BitVec.toNat_or, BitVec.ofInt_natCast, BitVec.ofInt_natCast, BitVec.toNat_ofNat, BitVec.toNat_ofNat, Nat.mod_eq_of_lt (by omega), Nat.mod_eq_of_lt (by omega), h1, IntKind.wrap_i64]
  omega
set_option maxRecDepth 10000 in
theorem or_flags (f o : Int) (hf : 0 ≤ f ∧ f < 8) (ho : 0 ≤ o ∧ o < 8192) : bits .or .i64 (f * 8192) o = f * 8192 + o := by
  obtain ⟨f, rfl⟩ := Int.eq_ofNat_of_zero_le hf.1
  obtain ⟨o, rfl⟩ := Int.eq_ofNat_of_zero_le ho.1
  have h := or_add f o 13 (by omega) (by omega)
  simpa using h
set_option maxRecDepth 10000 in
theorem or_64 (m : Nat) (hm : m < 64) : bits .or .i64 64 (m : Int) = 64 + (m : Int) := by
  have h := or_add 1 m 6 (by omega) (by omega)
  simpa using h
theorem or_head (n1 : Nat) (h : n1 ≤ 40) : bits .or .i64 64 (IntKind.i64.wrap ((20 + (n1 : Int)).tdiv 4)) = 64 + ((20 + n1 : Nat) : Int) / 4 := by
  have e : (20 + (n1 : Int)).tdiv 4 = (((20 + n1) / 4 : Nat) : Int) := by
    rw [Int.tdiv_eq_ediv_of_nonneg (by omega)]
    omega
  rw [e, IntWalk.i64_in _ (by omega), or_64 _ (by omega)]
  omega
end Go.Proofs.YtfkkjhfncmfahaaDoor
