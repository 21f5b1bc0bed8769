/- slices.Reverse, slices.Clone and slices.Grow at bytes: what they make. -/
import Derived.Test.YtfkkjhfncmfahaaDoorProg
import Derived.Test.YtfkkjhfncmfahaaDoorA0
import Derived.Laws.MakeOwn
import Derived.Deep.LoopGhost
import Derived.Deep.OwnRows
import Derived.Lib.AppendZeros
import Derived.Lib.SliceRun
namespace Go.Proofs.YtfkkjhfncmfahaaDoor
open Go.RowKit Go.Deep

theorem u8_info : (Tryd.prog.info? 5).map (fun i => (i.zero, i.size, i.bytes)) = some (some (.int .u8 0), 1, 1) := by kernel_rfl

/-- The first i and the last i have changed places. -/
def revTo (l : List UInt8) (i : Nat) : List UInt8 := (List.range l.length).map fun p => if p < i ∨ l.length ≤ p + i then l.getD (l.length - 1 - p) 0 else l.getD p 0
theorem revTo_length (l : List UInt8) (i : Nat) : (revTo l i).length = l.length := by simp [revTo]
theorem revTo_zero (l : List UInt8) : revTo l 0 = l := by
  refine List.ext_getElem? fun p => ?_
  by_cases h : p < l.length
  · simp [revTo, h, List.getElem?_range, show ¬ (l.length ≤ p) from by omega]
  · simp [revTo, List.getElem?_eq_none, Nat.le_of_not_lt h]
theorem revTo_end (l : List UInt8) (i : Nat) (h : l.length ≤ 2 * i + 1) (h2 : i ≤ l.length) : revTo l i = l.reverse := by
  refine List.ext_getElem? fun p => ?_
  by_cases hp : p < l.length
  · rw [List.getElem?_reverse hp]
    simp only [revTo, List.getElem?_map, List.getElem?_range hp, Option.map_some]
    have h1 : l.length - 1 - p < l.length := by omega
    rw [List.getElem?_eq_getElem h1]
    by_cases c : p < i ∨ l.length ≤ p + i
    · rw [if_pos c]; simp [List.getD, h1]
    · rw [if_neg c]
      have : p = l.length - 1 - p := by omega
      simp [List.getD, hp]
      congr 1
  · simp [revTo, List.getElem?_eq_none, Nat.le_of_not_lt hp]
theorem revTo_get (l : List UInt8) (i p : Nat) (hp : p < l.length) (h : i ≤ p) (h2 : p + i < l.length) : (revTo l i)[p]? = some (l.getD p 0) := by
  simp only [revTo, List.getElem?_map, List.getElem?_range hp, Option.map_some]
  rw [if_neg (by omega)]
theorem revTo_step (l : List UInt8) (i : Nat) (h : 2 * i + 1 < l.length) :
    ((bytesV (revTo l i)).toArray.setIfInBounds i (byteV (l.getD (l.length - 1 - i) 0))).setIfInBounds (l.length - 1 - i) (byteV (l.getD i 0)) = (bytesV (revTo l (i + 1))).toArray := by
  rw [List.setIfInBounds_toArray, List.setIfInBounds_toArray]
  congr 1
  refine List.ext_getElem? fun p => ?_
  simp only [List.getElem?_set, List.length_set, bytesV_length, revTo_length, bytesV_getElem?]
  by_cases hp : p < l.length
  · simp only [revTo, List.getElem?_map, List.getElem?_range hp, Option.map_some]
    by_cases e1 : l.length - 1 - i = p
    · subst e1
      rw [if_pos rfl, if_pos (by omega), if_pos (by omega)]
      congr 2
      congr 1
      omega
    · rw [if_neg e1]
      by_cases e2 : i = p
      · subst e2
        rw [if_pos rfl, if_pos (by omega), if_pos (by omega)]
      · rw [if_neg e2]
        by_cases c : p < i ∨ l.length ≤ p + i
        · rw [if_pos c, if_pos (by omega)]
        · rw [if_neg c, if_neg (by omega)]
  · rw [if_neg (by omega), if_neg (by omega)]
    simp [revTo, List.getElem?_eq_none, Nat.le_of_not_lt hp]

set_option maxRecDepth 100000 in
set_option maxHeartbeats 400000 in
theorem reverse_any (g : Nat) (l : List UInt8) (c : Nat) (w : World) (hb : Blk w g 5 (bytesV l).toArray) (hl : l.length ≤ 140737488355328) :
    Calls Tryd.prog 27 #[.slice (some ⟨g, 0, none⟩) l.length c] w fun e w' => e = .returned (.tuple #[]) ∧ Blk w' g 5 (bytesV l.reverse).toArray ∧ w.grownBy w' (some g) := by
  go_enter Tryd.func27, Tryd.ntmps27
  go_wp2_with fail
  go_loopw [2, 3] (fun i j wr => ∃ k : Nat, 2 * k ≤ l.length + 1 ∧ i = .int .i64 k ∧ j = .int .i64 ((l.length : Int) - 1 - k) ∧ Blk wr g 5 (bytesV (revTo l k)).toArray ∧ w.grownBy wr (some g)) (fun i _ _ => l.length - (intOf i).toNat)
  case atStart => exact ⟨0, by omega, rfl, by simp, by rw [revTo_zero]; exact hb, World.grownBy.refl _ _⟩
  case round =>
    obtain ⟨k, hk, rfl, rfl, hblk, hgr⟩ := hrel
    by_cases hlt : 2 * k + 1 < l.length
    · have f1 : wr.frozen? ⟨g, k, none⟩ = false := hblk.frozen k
      have f2 : wr.frozen? ⟨g, l.length - 1 - k, none⟩ = false := hblk.frozen _
      obtain ⟨x, hx⟩ : ∃ x : UInt8, l.getD k 0 = x := ⟨_, rfl⟩
      obtain ⟨y, hy⟩ : ∃ y : UInt8, l.getD (l.length - 1 - k) 0 = y := ⟨_, rfl⟩
      have c1 : wr.cell? ⟨g, k, none⟩ = some (.int .u8 (x.toNat : Int)) := by
        rw [hblk.cell]; simp only [List.getElem?_toArray, bytesV_getElem?, revTo_get l k k (by omega) (by omega) (by omega), hx]; rfl
      have c2 : wr.cell? ⟨g, l.length - 1 - k, none⟩ = some (.int .u8 (y.toNat : Int)) := by
        rw [hblk.cell]; simp only [List.getElem?_toArray, bytesV_getElem?, revTo_get l k (l.length - 1 - k) (by omega) (by omega) (by omega), hy]; rfl
      have HX := Lib.hid hx
      have HY := Lib.hid hy
      clear hx hy
      go_wp2_with fail
      go_region
      all_goals (go_wp2_with fail)
      go_roundw
      case rel =>
        refine ⟨k + 1, by omega, by go_num, by go_num, ?_, ?_⟩
        · have h := ((hblk.drew.set_ k (.int .u8 (y.toNat : Int))).set_ (l.length - 1 - k) (.int .u8 (x.toNat : Int)))
          rw [← revTo_step l k hlt, HX.out, HY.out]
          exact h
        · exact only_setCell (only_setCell (only_drew hgr) (.inl rfl) _) (.inl rfl) _
      case measure => simp [intOf]; omega
    · go_wp2_with fail
      go_end0
      exact ⟨rfl, by rw [← revTo_end l k (by omega) (by omega)]; exact hblk, hgr⟩
theorem clone_u8 (A : Option Addr) (n c : Nat) (xs : List Value) (w : World) (hr : Reads w w.heap.size 1 A n xs) (h1 : ∀ u ∈ xs, u.oneCell' = true) (hn : n * 1 ≤ 140737488355328) :
    Calls Tryd.prog 15 #[.slice A n c] w fun e w' => ∃ v, e = .returned v ∧ w'.ownsRow w.heap.size 5 1 v n xs ∧ Below w.heap.size w w' := by
  obtain ⟨i0, hi0, hz0, hz1, hz2⟩ := info_parts u8_info
  have hm : n ≤ maxLen := by simp only [maxLen]; omega
  rcases A with _ | ad
  · have h0 : n = 0 := by
      rcases Nat.eq_zero_or_pos n with h | h
      · exact h
      · obtain ⟨_, h, _⟩ := hr.2 h; cases h
    subst h0
    have hx : xs = [] := List.eq_nil_of_length_eq_zero (by simpa using hr.1)
    subst hx
    have he : ∀ W : World, (binOp .eql 23 (.slice none 0 c) (.slice none 0 0)).run Tryd.prog W = .ok (.bool true) W := fun W => Lib.run_eql_slice_nil W _ _ _ _ _ _ _ Tryd.underlying23
    go_enter Tryd.func15, Tryd.ntmps15
    go_wp2_with fail
    go_ret
    exact ⟨_, rfl, own_nil _ _ _ _, Below.refl _ _⟩
  · have he : ∀ W : World, (binOp .eql 23 (.slice (some ad) n c) (.slice none 0 0)).run Tryd.prog W = .ok (.bool false) W := fun W => Lib.run_eql_slice_nil W _ _ _ _ _ _ _ Tryd.underlying23
    go_enter Tryd.func15, Tryd.ntmps15
    go_wp2_with
      (at_builtin
       refine wpList_append_any _ rfl (.tmp 5) (.tmp 6) _ rfl w.heap.size 5 i0 _ 1 1 Tryd.underlying23 hi0 hz0 hz1 hz2 rfl (by omega) _ 0 [] rfl (own_empty _ _ _ _ (Nat.le_refl _)) w.heap.size (some ad) n c xs rfl (hr.alloc (Nat.le_refl _) _) h1 (by omega) (by omega) (by simp) ?_
       intro v1 w1 hown1 hg1 hat1)
    go_ret
    refine ⟨v1, rfl, by simpa using hown1, ((Below.refl _ _).alloc (Nat.le_refl _) _).grown hg1 (by simp) (fun k hk => ?_)⟩
    have hk' : w.heap.size = k := Option.some.inj hk
    omega
theorem grow_u8 (n : Nat) (w : World) (hn : n * 1 ≤ 140737488355328) :
    Calls Tryd.prog 28 #[.slice none 0 0, .int .i64 n] w fun e w' => ∃ v, e = .returned v ∧ w'.ownsRow w.heap.size 5 1 v 0 [] ∧ Below w.heap.size w w' := by
  obtain ⟨i0, hi0, hz0, hz1, hz2⟩ := info_parts u8_info
  by_cases h0 : 0 < n
  · have hap : ∀ W : World, (Builtin.append_ #[23, 3] 23 #[.slice none 0 0, .int .i64 n]).run Tryd.prog W =
      .ok (.slice (some ⟨W.heap.size, 0, none⟩) n (grownCap W n 0 5)) (W.drew.alloc (.cells (Builtin.zeroCells (Value.int .u8 0).cells n ++ Builtin.zeroCells (Value.int .u8 0).cells (grownCap W n 0 5 - n)) 5)) :=
      fun W => Lib.run_append_nil_zeros W _ _ _ _ i0 _ _ _ Tryd.underlying23 Tryd.underlying3 hi0 hz0 n h0 (by omega) (by omega) (by rw [hz2]; omega)
    have hneg : decide ((n : Int) < 0) = false := by simp
    go_enter Tryd.func28, Tryd.ntmps28
    go_wp2_with (at_builtin; refine Lib.wpList_append_run _ rfl _ _ _ _ rfl _ _ rfl rfl _ _ (hap _) ?_)
    go_ret
    have hcap := grownCap_ge w n 0 5
    have hcm := grownCap_le_maxLen w n 0 5 (by simp only [maxLen]; omega)
    refine ⟨_, rfl, ⟨by simp, .inr ⟨w.heap.size, grownCap w n 0 5, _, rfl, Nat.le_refl _, heap_alloc_new w _, Nat.zero_le _, hcm, ?_, by simp⟩⟩, ((Below.refl _ _).alloc (Nat.le_refl _) _).drew⟩
    rw [Array.size_append, size_zeroCells, size_zeroCells, ← Nat.add_mul, Nat.add_sub_cancel' hcap]
    rfl
  · obtain rfl : n = 0 := by omega
    go_enter Tryd.func28, Tryd.ntmps28
    go_wp2_with fail
    go_ret
    exact ⟨_, rfl, own_nil _ _ _ _, Below.refl _ _⟩
end Go.Proofs.YtfkkjhfncmfahaaDoor
