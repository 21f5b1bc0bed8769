/- sum.Right, sum.Patch, layer 15's page, and layer 1's Same: what they answer. -/
import Derived.Test.YtfkkjhfncmfahaaDoorProg
import Derived.Test.YtfkkjhfncmfahaaDoorA0
import Derived.Test.YtfkkjhfncmfahaaDoorB0
import Derived.Test.YtfkkjhfncmfahaaDoorB1
import Derived.Test.YtfkkjhfncmfahaaDoorS1
import Derived.Laws.CopyOwn
import Derived.Deep.RegionLaw
namespace Go.Proofs.YtfkkjhfncmfahaaDoor
open Go.RowKit Go.Deep

/-- What sum.Right answers. -/
def rightB (bs : List UInt8) : Bool := decide ((sumF bs : Int) = 0)
theorem right_any (A : Option Addr) (n c : Nat) (bs : List UInt8) (w : World) (hl : bs.length = n) (hc : n ≤ c) (hn : n ≤ 140737488355328) (hr : Reads w w.heap.size 1 A n (bytesV bs)) :
    Calls Tryd.prog 20 #[.slice A n c] w fun e w' => e = .returned (.bool (rightB bs)) ∧ Below w.heap.size w w' := by
  have HS := Lib.hid (sum_any A n c bs w hl hc hn hr)
  clear hl hr
  go_enter Tryd.func20, Tryd.ntmps20
  go_wp2_with (go_at_call 29; refine HS.out.mono ?_; rintro e w1 ⟨rfl, hb1⟩)
  go_ret
  refine ⟨ret_bool ?_, hb1⟩
  unfold rightB
  exact Bool.eq_iff_iff.2 (by simp)

/-- What sum.Patch makes. -/
def patchF (bs : List UInt8) (at_ : Nat) : List UInt8 :=
  let z := (bs.set at_ 0).set (at_ + 1) 0
  let s := beB (sumF z) 2
  (z.set at_ (s.getD 0 0)).set (at_ + 1) (s.getD 1 0)
theorem splice_take {α : Type} (L : List α) (off n : Nat) (cs : List α) (h : off + cs.length ≤ n) : (splice L off cs).take n = splice (L.take n) off cs := by
  unfold splice
  rw [List.take_append, List.take_append, List.take_take, List.length_take, List.drop_take]
  have e1 : (L.take n).take off = L.take off := by rw [List.take_take, Nat.min_eq_left (by omega)]
  by_cases hL : off ≤ L.length
  · rw [e1, Nat.min_eq_left hL, Nat.min_eq_right (by omega), List.take_of_length_le (l := cs) (by omega), show n - off - cs.length = n - (off + cs.length) by omega]
  · rw [e1, Nat.min_eq_right (by omega : L.length ≤ off), Nat.min_eq_right (by omega : off ≤ n), List.take_of_length_le (l := cs) (by omega), List.drop_eq_nil_of_le (by omega : L.length ≤ off + cs.length)]
    simp
theorem splice_two (zs : List UInt8) (i : Nat) (a b : UInt8) (h : i + 2 ≤ zs.length) : splice (bytesV zs) i (bytesV [a, b]) = bytesV ((zs.set i a).set (i + 1) b) := by
  refine List.ext_getElem? fun j => ?_
  rw [bytesV_getElem?, List.getElem?_set, List.getElem?_set, List.length_set]
  unfold splice
  rw [List.getElem?_append, List.length_take, bytesV_length, Nat.min_eq_left (by omega), List.getElem?_take, List.getElem?_append, bytesV_length, List.getElem?_drop]
  simp only [bytesV_getElem?, List.length_cons, List.length_nil]
  by_cases h1 : j < i
  · rw [if_pos h1, if_pos h1, if_neg (by omega), if_neg (by omega)]
  · rw [if_neg h1]
    by_cases h2 : j = i
    · subst h2
      rw [if_pos (by omega), if_neg (by omega), if_pos rfl, if_pos (by omega)]
      simp
    · by_cases h3 : j = i + 1
      · subst h3
        rw [if_pos (by omega), if_pos rfl, if_pos (by omega)]
        simp
      · rw [if_neg (by omega), if_neg (by omega), if_neg (by omega)]
        rw [show i + (0 + 1 + 1) + (j - i - (0 + 1 + 1)) = j by omega]
theorem u8_zero (w : World) : (zeroValue 5).run Tryd.prog w = .ok (.int .u8 0) w := by kernel_rfl
theorem bytesV_set (bs : List UInt8) (i : Nat) (b : UInt8) : (bytesV bs).set i (byteV b) = bytesV (bs.set i b) := by simp [bytesV, List.map_set]

set_option maxRecDepth 100000 in
set_option maxHeartbeats 1000000 in
theorem patch_any (A : Option Addr) (n c : Nat) (bs : List UInt8) (at_ : Nat) (w : World) (hl : bs.length = n) (hc : n ≤ c) (hn : n ≤ 140737488355328) (hr : Reads w w.heap.size 1 A n (bytesV bs)) (hat : at_ + 2 ≤ n) (hev : bits .and .i64 (at_ : Int) 1 = 0) :
    Calls Tryd.prog 19 #[.slice A n c, .int .i64 at_] w fun e w' => ∃ v, e = .returned v ∧ w'.ownsRow w.heap.size 5 1 v n (bytesV (patchF bs at_)) ∧ Below w.heap.size w w' := by
  have HC := Lib.hid (clone_u8 A n c (bytesV bs) w hr (bytesV_one bs) (by omega))
  have HL := Lib.hid hl
  clear hl hr
  go_enter Tryd.func19, Tryd.ntmps19
  go_wp2_with (go_at_call 15; refine HC.out.mono ?_; rintro e w1 ⟨v1, rfl, hown1, hb1⟩; obtain ⟨g, cap, cur, rfl, hg, hblk, hnc, hcm, hcs, hct⟩ := own_open hown1 (by omega))
  have hclr := Lib.run_clear_slice (P := Tryd.prog) w1 23 5 0 (.int .u8 0) Tryd.underlying23 u8_zero rfl rfl g at_ 2 (cap - at_) (by omega)
    (fun j hj => by rw [hblk.cell, Array.getElem?_eq_getElem (by omega)]; rfl) (fun j hj => hblk.frozen _)
  rw [hclr]
  simp only [Result.andThen, List.replicate, World.setCells]
  have hb2 := (hb1.setCell (p := ⟨g, at_, none⟩) hg (.int .u8 0)).setCell (p := ⟨g, at_ + 1, none⟩) hg (.int .u8 0)
  have hblk2 := (hblk.set_ at_ (.int .u8 0)).set_ (at_ + 1) (.int .u8 0)
  generalize (w1.setCell ⟨g, at_, none⟩ (.int .u8 0)).setCell ⟨g, at_ + 1, none⟩ (.int .u8 0) = w2 at hb2 hblk2 ⊢
  clear hclr hblk hb1 HC
  obtain ⟨zs, hzs⟩ : ∃ zs : List UInt8, (bs.set at_ 0).set (at_ + 1) 0 = zs := ⟨_, rfl⟩
  obtain ⟨cur2, hcur2⟩ : ∃ cur2 : Array Value, (cur.setIfInBounds at_ (.int .u8 0)).setIfInBounds (at_ + 1) (.int .u8 0) = cur2 := ⟨_, rfl⟩
  rw [hcur2] at hblk2
  have hzl : zs.length = n := by rw [← hzs, List.length_set, List.length_set]; exact HL.out
  have hcs2 : cur2.size = cap * 1 := by rw [← hcur2]; simpa using hcs
  have hct2 : cur2.toList.take (n * 1) = bytesV zs := by
    rw [← hcur2, Array.toList_setIfInBounds, Array.toList_setIfInBounds, List.take_set, List.take_set, hct, ← hzs]
    exact (congrArg (fun l => List.set l (at_ + 1) (Value.int .u8 0)) (bytesV_set bs at_ 0)).trans (bytesV_set _ _ 0)
  have hown2 : w2.ownsRow w.heap.size 5 1 (.slice (some ⟨g, 0, none⟩) n cap) n (bytesV zs) := own_close hg hblk2 hnc hcm hcs2 hct2
  have hrd2 := Reads.of_own hown2
  have HSUM : Hid (∀ W : World, Below w2.heap.size w2 W → Calls Tryd.prog 29 #[.slice (some ⟨g, 0, none⟩) n cap] W fun e w' => e = .returned (.int .i64 (sumF zs : Nat)) ∧ Below W.heap.size W w') :=
    fun W hW => sum_any (some ⟨g, 0, none⟩) n cap zs W hzl hnc hn ((hrd2.below hW).more hW.size)
  have HZ := Lib.hid hzs
  have HZL := Lib.hid hzl
  have HCS := Lib.hid hcs2
  have HCT := Lib.hid hct2
  clear hzs hzl hcs2 hct2 hcur2 hcs hct hown1 hown2 hrd2
  have hcap : ¬ cap = at_ := by omega
  have hat1 : (at_ : Int) ≤ n := by omega
  have hu8 : (Tryd.prog.info? 5).map (·.size) = some 1 := by kernel_rfl
  have HU := Lib.hid hu8
  have hcv : ∀ k : Nat, (k : Int) % 18446744073709551616 = k → True := fun _ _ => trivial
  clear hu8 hcv
  obtain ⟨s, hs⟩ : ∃ s, sumF zs = s := ⟨_, rfl⟩
  rw [hs] at HSUM
  have HS := Lib.hid hs
  have hs65 : s ≤ 65535 := by rw [← hs]; unfold sumF; omega
  clear hs
  have hs0 : (0 : Int) ≤ (s : Int) := by omega
  have hs1 : (s : Int) < M64 := by unfold M64; omega
  have hw : IntKind.u64.wrap (s : Int) = (s : Int) := IntWalk.u64_in _ (by omega)
  go_wp2_with fail
  go_region_held3 (fun _ => True) (trivial)
    (first
      | (go_at_call 29; (with_reducible refine (HSUM.out _ ?_).mono ?_); exact (Below.refl _ _).drew; rintro e w3 ⟨rfl, hb3⟩)
      | (go_at_call 17; (with_reducible refine (put_2 _ w3 hs0 hs1).mono ?_); rintro e w4 ⟨v4, rfl, hown4, hb4⟩
         obtain ⟨g4, cap4, cur4, rfl, hg4, hblk4, hnc4, hcm4, hcs4, hct4⟩ := own_open hown4 (by omega))
      | (refine step_copy_splice rfl (.tmp 30) (.tmp 34) 23 23 rfl 5 Tryd.underlying23 HU.out _ _ _ _ _ _ rfl rfl g at_ cur2.toList 5 (by exact blk_list ((hblk2.drew.below hb3 hblk2.lt).below hb4 (Nat.lt_of_lt_of_le hblk2.lt hb3.size))) (bytesV (beB s 2)) (by simp [beB_length]; exact (Nat.min_eq_left (by omega)).symm)
          (fun _ => ⟨rfl, _, rfl, (Reads.of_own hown4).cells_⟩) (by have := HCS.out; simp [beB_length]; omega) (bytesV_one _) w.heap.size w (by exact below_then (below_then hb2.drew hb2.size hb3) (Nat.le_trans hb2.size hb3.size) hb4) hg ?_
         intro w5 hg5 hb5))
  go_wp2_with fail
  go_ret
  have hblk5 : Blk w5 g 5 (splice cur2.toList at_ (bytesV (beB s 2))).toArray := hg5.out
  refine ⟨_, rfl, own_close hg hblk5 hnc hcm ?_ ?_, hb5⟩
  · have := HCS.out
    simp [splice, beB_length]
    omega
  · have hct := HCT.out
    have hzl := HZL.out
    rw [splice_take _ _ _ _ (by simp [beB_length]; omega), hct, beB_2, splice_two _ _ _ _ (by omega)]
    unfold patchF
    simp only [HZ.out, HS.out, beB_2]
    rfl
theorem patch_lit (A : Option Addr) (n c : Nat) (bs : List UInt8) (at_ : Nat) (m : Int) (hm : m = at_) (w : World) (hl : bs.length = n) (hc : n ≤ c) (hn : n ≤ 140737488355328) (hr : Reads w w.heap.size 1 A n (bytesV bs)) (hat : at_ + 2 ≤ n) (hev : bits .and .i64 (at_ : Int) 1 = 0) :
    Calls Tryd.prog 19 #[.slice A n c, .int .i64 m] w fun e w' => ∃ v, e = .returned v ∧ w'.ownsRow w.heap.size 5 1 v n (bytesV (patchF bs at_)) ∧ Below w.heap.size w w' := by
  subst hm
  exact patch_any A n c bs at_ w hl hc hn hr hat hev
end Go.Proofs.YtfkkjhfncmfahaaDoor
