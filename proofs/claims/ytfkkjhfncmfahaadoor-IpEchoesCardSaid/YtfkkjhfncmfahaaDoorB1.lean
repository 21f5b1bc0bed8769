/- bits.Put, bits.Get, slices.Concat at bytes: what they make. -/
import Derived.Test.YtfkkjhfncmfahaaDoorProg
import Derived.Test.YtfkkjhfncmfahaaDoorA0
import Derived.Test.YtfkkjhfncmfahaaDoorB0
namespace Go.Proofs.YtfkkjhfncmfahaaDoor
open Go.RowKit Go.Deep

def M64 : Int := 18446744073709551616
/-- The bytes of a number, the least first. -/
def leB (x : Int) (n : Nat) : List UInt8 := (List.range n).map fun i => UInt8.ofNat (x / 2 ^ (8 * i) % 256).toNat
/-- The bytes of a number, the least last. -/
def beB (x : Int) (n : Nat) : List UInt8 := (leB x n).reverse
theorem leB_length (x : Int) (n : Nat) : (leB x n).length = n := by simp [leB]
theorem beB_length (x : Int) (n : Nat) : (beB x n).length = n := by simp [beB, leB]
theorem byteV_ofInt (m : Int) (h0 : 0 ≤ m) (h1 : m < 256) : byteV (UInt8.ofNat m.toNat) = .int .u8 m := by
  simp only [byteV, UInt8.toNat_ofNat']
  congr 1
  omega
/-- The same with what has not been written yet. -/
def leTo (x : Int) (n k : Nat) : List Value := (List.range n).map fun i => if i < k then .int .u8 (x / 2 ^ (8 * i) % 256) else .int .u8 0
theorem leTo_length (x : Int) (n k : Nat) : (leTo x n k).length = n := by simp [leTo]
theorem leTo_zero (x : Int) (n : Nat) : (leTo x n 0).toArray = madeCells #[.int .u8 0] n := by
  simp only [leTo, madeCells]
  apply Array.toList_inj.1
  simp
  intro a ha
  rw [Nat.mod_one]
  rfl
theorem leTo_all (x : Int) (n : Nat) : leTo x n n = bytesV (leB x n) := by
  simp only [leTo, bytesV, leB, List.map_map]
  refine List.map_congr_left fun i hi => ?_
  rw [if_pos (by simpa using hi)]
  simp only [Function.comp]
  rw [byteV_ofInt _ (Int.emod_nonneg _ (by omega)) (Int.emod_lt_of_pos _ (by omega))]
theorem leTo_get (x : Int) (n k : Nat) (hk : k < n) : (leTo x n k)[k]? = some (.int .u8 0) := by
  simp [leTo, hk]
theorem leTo_set (x : Int) (n k : Nat) (hk : k < n) : (leTo x n k).toArray.setIfInBounds k (.int .u8 (x / 2 ^ (8 * k) % 256)) = (leTo x n (k + 1)).toArray := by
  rw [List.setIfInBounds_toArray]
  congr 1
  refine List.ext_getElem? fun i => ?_
  simp only [leTo, List.getElem?_set, List.length_map, List.length_range, List.getElem?_map]
  by_cases hi : i < n
  · rw [List.getElem?_range hi]
    by_cases e : k = i
    · subst e; simp [hk]
    · simp only [e, if_false, Option.map_some, Option.some.injEq]
      by_cases h1 : i < k
      · rw [if_pos h1, if_pos (by omega)]
      · rw [if_neg h1, if_neg (by omega)]
  · simp [show ¬ (i < n) from hi, show ¬ (k = i) from by omega]
theorem own_of_blk {w : World} {base g n : Nat} {e : TypeId} {cs : List Value} (h : Blk w g e cs.toArray) (hb : base ≤ g) (hl : cs.length = n) (hm : n ≤ maxLen) : w.ownsRow base e 1 (.slice (some ⟨g, 0, none⟩) n n) n cs :=
  ⟨by omega, .inr ⟨g, n, cs.toArray, rfl, hb, h, Nat.le_refl _, hm, by simp [hl], by simp [← hl]⟩⟩

/-- What bits.Put makes. -/
def putB (x : Int) (n : Nat) (big : Bool) : List UInt8 := if big then beB x n else leB x n
theorem putB_length (x : Int) (n : Nat) (big : Bool) : (putB x n big).length = n := by unfold putB; split <;> simp [leB_length, beB_length]

set_option maxRecDepth 100000 in
set_option maxHeartbeats 400000 in
theorem put_any (x : Int) (n : Nat) (big : Bool) (w : World) (h0 : 0 ≤ x) (h1 : x < M64) (hn : n ≤ 8) (hn1 : 0 < n) :
    Calls Tryd.prog 17 #[.int .u64 x, .int .i64 n, .bool big] w fun e w' => ∃ v, e = .returned v ∧ w'.ownsRow w.heap.size 5 1 v n (bytesV (putB x n big)) ∧ Below w.heap.size w w' := by
  have hmk : ∀ W : World, (Instr.makeSlice 23 (.int .i64 (n : Int)) (.int .i64 (n : Int))).run Tryd.prog W = .ok (.slice (some ⟨W.heap.size, 0, none⟩) n n) (W.alloc (.cells (madeCells #[.int .u8 0] n) 5)) :=
    fun W => run_make_row' _ _ _ 1 Tryd.underlying23 u8_info rfl .i64 .i64 n (by omega) (by omega) W
  go_enter Tryd.func17, Tryd.ntmps17
  go_wp2_with fail
  clear hmk
  go_loopw [15, 8] (fun i _ wr => ∃ k : Nat, k ≤ n ∧ i = .int .i64 k ∧ Blk wr w.heap.size 5 (leTo x n k).toArray ∧ Below w.heap.size w wr) (fun i _ _ => n - (intOf i).toNat)
  case atStart => exact ⟨0, by omega, rfl, by rw [leTo_zero]; exact Blk.new _ _ _, (Below.refl _ _).alloc (Nat.le_refl _) _⟩
  case round =>
    obtain ⟨k, hk, rfl, hblk, hbel⟩ := hrel
    have hf : wr.frozen? ⟨w.heap.size, k, none⟩ = false := hblk.frozen k
    by_cases hlt : k < n
    · have hc : wr.cell? ⟨w.heap.size, k, none⟩ = some (.int .u8 0) := by
        rw [hblk.cell]; simp only [List.getElem?_toArray, leTo_get x n k hlt]
      go_wp2_with fail
      go_roundw
      case rel => exact ⟨k + 1, by omega, by go_num, by rw [← leTo_set x n k hlt]; exact hblk.set_ _ _, hbel.setCell (Nat.le_refl _) _⟩
      case measure => simp [intOf]; omega
    · obtain rfl : k = n := by omega
      rw [leTo_all] at hblk
      have hm : k ≤ maxLen := by simp only [maxLen]; omega
      have hl := leB_length x k
      cases big
      · go_wp2_with fail
        go_ret
        exact ⟨_, rfl, own_of_blk hblk (Nat.le_refl _) (by simp [putB_length]) hm, hbel⟩
      · have hrv := reverse_any w.heap.size (leB x k) k wr hblk (by omega)
        rw [hl] at hrv
        have HL := Lib.hid hl
        have HR := Lib.hid hrv
        clear hl hrv
        go_wp2_with (go_at_call 27; refine HR.out.mono ?_; rintro e w1 ⟨rfl, hb1, hg1⟩)
        go_ret
        exact ⟨_, rfl, own_of_blk hb1 (Nat.le_refl _) (by simp [putB_length]) hm, hbel.grown hg1 hbel.size (fun j hj => by injection hj with hj; omega)⟩
theorem put_1 (x : Int) (w : World) (h0 : 0 ≤ x) (h1 : x < M64) :
    Calls Tryd.prog 17 #[.int .u64 x, .int .i64 1, .bool true] w fun e w' => ∃ v, e = .returned v ∧ w'.ownsRow w.heap.size 5 1 v 1 (bytesV (beB x 1)) ∧ Below w.heap.size w w' := put_any x 1 true w h0 h1 (by omega) (by omega)
theorem beB_1 (x : Int) : beB x 1 = [UInt8.ofNat (x % 256).toNat] := by
  simp [beB, leB, List.range_succ]
theorem put_2 (x : Int) (w : World) (h0 : 0 ≤ x) (h1 : x < M64) :
    Calls Tryd.prog 17 #[.int .u64 x, .int .i64 2, .bool true] w fun e w' => ∃ v, e = .returned v ∧ w'.ownsRow w.heap.size 5 1 v 2 (bytesV (beB x 2)) ∧ Below w.heap.size w w' := put_any x 2 true w h0 h1 (by omega) (by omega)
theorem beB_2 (x : Int) : beB x 2 = [UInt8.ofNat (x / 256 % 256).toNat, UInt8.ofNat (x % 256).toNat] := by
  simp [beB, leB, List.range_succ]
theorem put_4 (x : Int) (w : World) (h0 : 0 ≤ x) (h1 : x < M64) :
    Calls Tryd.prog 17 #[.int .u64 x, .int .i64 4, .bool true] w fun e w' => ∃ v, e = .returned v ∧ w'.ownsRow w.heap.size 5 1 v 4 (bytesV (beB x 4)) ∧ Below w.heap.size w w' := put_any x 4 true w h0 h1 (by omega) (by omega)
theorem beB_4 (x : Int) : beB x 4 = [UInt8.ofNat (x / 16777216 % 256).toNat, UInt8.ofNat (x / 65536 % 256).toNat, UInt8.ofNat (x / 256 % 256).toNat, UInt8.ofNat (x % 256).toNat] := by
  simp [beB, leB, List.range_succ]

/-- How many bytes the first k rows have. -/
def flatN (bss : List (List UInt8)) (k : Nat) : Nat := (bss.take k).flatten.length
theorem take_flat' (bss : List (List UInt8)) (k : Nat) (bs : List UInt8) (h : bss[k]? = some bs) : (bss.take (k + 1)).flatten = (bss.take k).flatten ++ bs := by
  rw [List.take_add_one, h]
  simp
theorem flatN_succ (bss : List (List UInt8)) (k : Nat) (bs : List UInt8) (h : bss[k]? = some bs) : flatN bss (k + 1) = flatN bss k + bs.length := by
  simp only [flatN, take_flat' bss k bs h, List.length_append]
theorem flatN_le (bss : List (List UInt8)) (k : Nat) : flatN bss k ≤ bss.flatten.length := by
  unfold flatN
  conv => rhs; rw [← List.take_append_drop k bss, List.flatten_append, List.length_append]
  omega
set_option maxRecDepth 100000 in
set_option maxHeartbeats 1000000 in
theorem concat_u8 (A : Option Addr) (m c : Nat) (vs : List Value) (bss : List (List UInt8)) (w : World) (hr : Reads w w.heap.size 1 A m vs) (hv : RBs w vs bss) (hn : bss.flatten.length ≤ 140737488355328) (hm9 : m ≤ 1000000) :
    Calls Tryd.prog 18 #[.slice A m c] w fun e w' => ∃ v, e = .returned v ∧ w'.ownsRow w.heap.size 5 1 v bss.flatten.length (bytesV bss.flatten) ∧ Below w.heap.size w w' := by
  obtain ⟨i0, hi0, hz0, hz1, hz2⟩ := info_parts u8_info
  have hvl : vs.length = m := by have := hr.1; omega
  have hbl : bss.length = m := by have := hv.1; omega
  have HBL := Lib.hid hbl
  have HVL := Lib.hid hvl
  clear hbl hvl
  go_enter Tryd.func18, Tryd.ntmps18
  go_wp2_with fail
  go_loop [11, 5, 3] (fun i _ s => ∃ k : Nat, k ≤ m ∧ i = .int .i64 k ∧ s = .int .i64 (flatN bss k)) (fun i _ _ => m - (intOf i).toNat)
  case atStart => exact ⟨0, by omega, rfl, rfl⟩
  case round =>
    obtain ⟨k, hk, rfl, rfl⟩ := hrel
    by_cases hlt : k < m
    · obtain ⟨ad, v, rfl, hbb, hvk, hcell⟩ := hr.at_ hlt
      obtain ⟨bs, hbk⟩ : ∃ bs, bss[k]? = some bs := ⟨_, List.getElem?_eq_getElem (by have := HBL.out; omega)⟩
      obtain ⟨A', n', c', rfl, hlen, hnc, hcm, hrd⟩ := hv.2 k v bs hvk hbk
      have hs := flatN_succ bss k bs hbk
      have hle := flatN_le bss (k + 1)
      rw [hs, hlen] at hle
      have HS := Lib.hid hs
      have HL := Lib.hid hlen
      clear hs hlen hvk hbk
      have hneg : decide ((flatN bss k : Int) + n' < 0) = false := by simp; omega
      go_wp2_with fail
      go_round
      case rel => exact ⟨k + 1, by omega, by go_num, by rw [HS.out, HL.out]; go_num⟩
      case measure => simp [intOf]; omega
    · obtain rfl : k = m := by omega
      have hfl := flatN_le bss k
      have hgrow := grow_u8 (flatN bss k) w (by omega)
      have HG := Lib.hid hgrow
      clear hgrow
      go_wp2_with (go_at_call 28; refine HG.out.mono ?_; rintro e w1 ⟨v1, rfl, hown1, hb1⟩)
      clear HG
      go_loopw [27, 8, 6] (fun i _ v wr => ∃ j : Nat, j ≤ k ∧ i = .int .i64 j ∧ wr.ownsRow w.heap.size 5 1 v (flatN bss j) (bytesV (bss.take j).flatten) ∧ Below w.heap.size w wr) (fun i _ _ _ => k - (intOf i).toNat)
      case atStart => exact ⟨0, by omega, rfl, hown1, hb1⟩
      case round =>
        obtain ⟨j, hj, rfl, hown, hbel⟩ := hrel
        by_cases hlt : j < k
        · obtain ⟨ad, v, rfl, hbb, hvk, hcell⟩ := (hr.below hbel).at_ hlt
          obtain ⟨bs, hbk⟩ : ∃ bs, bss[j]? = some bs := ⟨_, List.getElem?_eq_getElem (by have := HBL.out; omega)⟩
          obtain ⟨A', n', c', rfl, hlen, hnc, hcm, hrd⟩ := (hv.below hbel).2 j v bs hvk hbk
          have hs := flatN_succ bss j bs hbk
          have hs' := take_flat' bss j bs hbk
          have hle := flatN_le bss (j + 1)
          rw [hs, hlen] at hle
          have HS := Lib.hid hs
          have HS' := Lib.hid hs'
          have HL := Lib.hid hlen
          clear hs hlen hvk hbk hs'
          have hmx : flatN bss j + n' ≤ maxLen := by simp only [maxLen]; omega
          go_wp2_with
            (at_builtin
             refine wpList_append_any _ rfl (.tmp 31) (.tmp 32) _ rfl w.heap.size 5 i0 _ 1 1 Tryd.underlying23 hi0 hz0 hz1 hz2 rfl (by omega) _ (flatN bss j) _ rfl hown _ A' n' c' (bytesV bs) rfl hrd (bytesV_one bs) hmx (by omega) hbel.size ?_
             intro v2 w2 hown2 hg2 hat2)
          go_roundw
          case rel =>
            refine ⟨j + 1, by omega, by go_num, ?_, hbel.grown hg2 hbel.size (fun q hq => own_base hown q hq)⟩
            rw [HS.out, HL.out, HS'.out, bytesV_append]
            exact hown2
          case measure => simp [intOf]; omega
        · obtain rfl : j = k := by omega
          go_wp2_with fail
          go_ret
          refine ⟨_, rfl, ?_, hbel⟩
          have h1 : flatN bss j = bss.flatten.length := by have := HBL.out; simp only [flatN]; rw [List.take_of_length_le (by omega)]
          rw [List.take_of_length_le (by have := HBL.out; omega), h1] at hown
          exact hown
/-- slices.Concat of slices that are named one by one. -/
theorem concat_lit (m : Nat) (m' : Nat) (vs : List Value) (bss : List (List UInt8)) (W : World) (hv : RBs W vs bss) (hm : vs.length = m) (hm' : m' = m) (hn : bss.flatten.length ≤ 140737488355328) (hm9 : m ≤ 1000000) :
    Calls Tryd.prog 18 #[.slice (some ⟨W.heap.size, 0, none⟩) m m'] (W.alloc (.cells vs.toArray 23)) fun e w' => ∃ v, e = .returned v ∧ w'.ownsRow W.heap.size 5 1 v bss.flatten.length (bytesV bss.flatten) ∧ Below W.heap.size W w' := by
  subst hm'
  have hb : Below W.heap.size W (W.alloc (.cells vs.toArray 23)) := (Below.refl _ _).alloc (Nat.le_refl _) _
  refine (concat_u8 _ m' m' vs bss _ ((Blk.new W _ _).reads hm) (hv.below hb) hn hm9).mono ?_
  rintro e w' ⟨v, rfl, hown, hb2⟩
  exact ⟨v, rfl, own_lower hown hb.size, below_then hb hb.size hb2⟩
end Go.Proofs.YtfkkjhfncmfahaaDoor
