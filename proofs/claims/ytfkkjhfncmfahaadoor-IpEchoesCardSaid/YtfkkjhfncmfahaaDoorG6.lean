/- ip.get: a right packet. -/
import Derived.Test.YtfkkjhfncmfahaaDoorProg
import Derived.Test.YtfkkjhfncmfahaaDoorA0
import Derived.Test.YtfkkjhfncmfahaaDoorB0
import Derived.Test.YtfkkjhfncmfahaaDoorB1
import Derived.Test.YtfkkjhfncmfahaaDoorS1
import Derived.Test.YtfkkjhfncmfahaaDoorS2
import Derived.Test.YtfkkjhfncmfahaaDoorB2
import Derived.Test.YtfkkjhfncmfahaaDoorG1
import Derived.Test.YtfkkjhfncmfahaaDoorG2
import Derived.Test.YtfkkjhfncmfahaaDoorG3
import Derived.Test.YtfkkjhfncmfahaaDoorG4
import Derived.Laws.ResultCell
import Derived.Deep.DeepCutAuto
namespace Go.Proofs.YtfkkjhfncmfahaaDoor
open Go.RowKit Go.Deep

theorem and_8191 (x : Nat) (hx : x < 65536) : bits .and .i64 (x : Int) 8191 = (x : Int) % 8192 := by
  have h : x &&& 8191 = x % 8192 := Nat.and_two_pow_sub_one_eq_mod x 13
  show IntKind.i64.wrap ((BitVec.ofInt 64 (x : Int) &&& BitVec.ofInt 64 ((8191 : Nat) : Int)).toNat : Int) = _
  rw [BitVec.toNat_and, BitVec.ofInt_natCast, BitVec.ofInt_natCast, BitVec.toNat_ofNat, BitVec.toNat_ofNat, Nat.mod_eq_of_lt (by omega), Nat.mod_eq_of_lt (by omega), h, IntWalk.i64_in _ (by omega)]
  omega

theorem cell_far {w : World} {g g' i j : Nat} {u v : Value} (h : w.cell? ⟨g, i, none⟩ = some v) (hne : g ≠ g') : (w.setCell ⟨g', j, none⟩ u).cell? ⟨g, i, none⟩ = some v :=
  (World.cell?_setCell_other w _ _ u (fun e => by injection e with e1; exact hne e1.symm)).trans h
theorem own_only {w w1 : World} {base g : Nat} {e : TypeId} {size n : Nat} {v : Value} {xs : List Value} (h : w.ownsRow base e size v n xs) (hb : w.grownBy w1 (some g)) (hg : g < base) : w1.ownsRow base e size v n xs :=
  h.kept hb (by
    rcases e : v.ownBlock with _ | k
    · exact .inl rfl
    · refine .inr fun e' => ?_
      have := own_base h k e
      injection e' with e'
      omega)
theorem only_setRow {a w : World} {g : Nat} (h : a.grownBy w (some g)) (cs : Array Value) : a.grownBy (w.setRow g cs) (some g) :=
  ⟨h.os, h.tape, h.output, by simpa using h.size, fun i hi hne => (setRow_other w g i cs (fun e => hne (by rw [e]))).trans (h.block i hi hne)⟩

/-- A number of the packet's. -/
def numF (bs : List UInt8) (k m : Nat) : Nat := beN ((bs.drop k).take m)
theorem numF_lt (bs : List UInt8) (k m : Nat) (h : k + m ≤ bs.length) : numF bs k m < 2 ^ (8 * m) := by
  have := beN_lt ((bs.drop k).take m)
  have hl : ((bs.drop k).take m).length = m := by simp; omega
  rwa [hl] at this

theorem getnum_hid (b o n c : Nat) (bs : List UInt8) (w : World) (hl : bs.length = n) (hc : n ≤ c) (hn : n ≤ 140737488355328) (hr : Reads w w.heap.size 1 (some ⟨b, o, none⟩) n (bytesV bs))
    (k m : Nat) (k' m' : Int) (v : Nat) (ha : k' = k) (hm : m' = m) (hv : numF bs k m = v) (hle : k + m ≤ n) (hm0 : 0 < m) (hm8 : m ≤ 4) :
    Hid (∀ W, Below w.heap.size w W → W.cell? ⟨w.heap.size, 0, none⟩ = some (.slice (some ⟨b, o, none⟩) n c) → Calls Tryd.prog 31 #[.int .i64 k', .int .i64 m', .pointer (some ⟨w.heap.size, 0, none⟩)] W fun e w' => e = .returned (.int .i64 (v : Nat)) ∧ W = w') := fun W hW hbx => by
  subst hv
  exact getnum_any w.heap.size b o n c bs k m k' m' W ha hm hl hc hn ((hr.below hW).more hW.size) hbx hle hm0 hm8

set_option maxRecDepth 100000 in
set_option maxHeartbeats 2000000 in
theorem ipget_good (b o n c : Nat) (bs : List UInt8) (w : World) (hl : bs.length = n) (hc : n ≤ c) (hcm : c ≤ maxLen) (hn : n ≤ 140737488355328) (h20 : 20 ≤ n) (hr : Reads w w.heap.size 1 (some ⟨b, o, none⟩) n (bytesV bs))
    (hok : (bs.getD 0 0).toNat / 16 = 4) (hh : 20 ≤ ipH bs) (hlt : ipH bs ≤ n) (hs : rightB (bs.take (ipH bs)) = true) (hall : ipH bs ≤ ipAll bs) (hall2 : ipAll bs ≤ n) :
    Calls Tryd.prog 22 #[.slice (some ⟨b, o, none⟩) n c] w fun e w' => ∃ v8 v9, e = .returned (.tuple #[.agg #[.int .i64 (numF bs 1 1 : Nat), .int .i64 (numF bs 4 2 : Nat), .int .i64 ((numF bs 6 1 : Nat) / 32), .int .i64 ((numF bs 6 2 : Nat) % 8192), .int .i64 (numF bs 8 1 : Nat), .int .i64 (numF bs 9 1 : Nat), .int .u32 (numF bs 12 4 : Nat), .int .u32 (numF bs 16 4 : Nat), v8, v9], .nilIface]) ∧
      w'.ownsRow w.heap.size 5 1 v8 (ipH bs - 20) (bytesV ((bs.drop 20).take (ipH bs - 20))) ∧ w'.ownsRow w.heap.size 5 1 v9 (ipAll bs - ipH bs) (bytesV ((bs.drop (ipH bs)).take (ipAll bs - ipH bs))) ∧ Below w.heap.size w w' := by
  obtain ⟨b', o', e, hbb, hcell⟩ := hr.opn (by omega)
  injection e with e
  injection e with e1 e2
  subst e1 e2
  have hc0 := byte_at hcell hl (show 0 < n by omega)
  simp only [Nat.add_zero] at hc0
  obtain ⟨h, hhd⟩ : ∃ h, ipH bs = h := ⟨_, rfl⟩
  rw [hhd] at hh hlt hs hall
  have HR : Hid (∀ W, Below w.heap.size w W → Calls Tryd.prog 20 #[.slice (some ⟨b, o, none⟩) h c] W fun e w' => e = .returned (.bool true) ∧ Below W.heap.size W w') := fun W hW => by
    have := right_any (some ⟨b, o, none⟩) h c (bs.take h) W (by simp; omega) (by omega) (by omega) (((take_reads hr hlt).below hW).more hW.size)
    rwa [hs] at this
  obtain ⟨al, hal⟩ : ∃ al, ipAll bs = al := ⟨_, rfl⟩
  obtain ⟨n1, hn1⟩ : ∃ v, numF bs 1 1 = v := ⟨_, rfl⟩
  obtain ⟨n2, hn2⟩ : ∃ v, numF bs 4 2 = v := ⟨_, rfl⟩
  obtain ⟨n3, hn3⟩ : ∃ v, numF bs 6 1 = v := ⟨_, rfl⟩
  obtain ⟨n4, hn4⟩ : ∃ v, numF bs 6 2 = v := ⟨_, rfl⟩
  obtain ⟨n5, hn5⟩ : ∃ v, numF bs 8 1 = v := ⟨_, rfl⟩
  obtain ⟨n6, hn6⟩ : ∃ v, numF bs 9 1 = v := ⟨_, rfl⟩
  obtain ⟨n7, hn7⟩ : ∃ v, numF bs 12 4 = v := ⟨_, rfl⟩
  obtain ⟨n8, hn8⟩ : ∃ v, numF bs 16 4 = v := ⟨_, rfl⟩
  have HN := getnum_hid b o n c bs w hl hc hn hr 2 2 2 2 al rfl rfl hal (by omega) (by omega) (by omega)
  have HN1 := getnum_hid b o n c bs w hl hc hn hr 1 1 1 1 n1 rfl rfl hn1 (by omega) (by omega) (by omega)
  have HN2 := getnum_hid b o n c bs w hl hc hn hr 4 2 4 2 n2 rfl rfl hn2 (by omega) (by omega) (by omega)
  have HN3 := getnum_hid b o n c bs w hl hc hn hr 6 1 6 1 n3 rfl rfl hn3 (by omega) (by omega) (by omega)
  have HN4 := getnum_hid b o n c bs w hl hc hn hr 6 2 6 2 n4 rfl rfl hn4 (by omega) (by omega) (by omega)
  have HN5 := getnum_hid b o n c bs w hl hc hn hr 8 1 8 1 n5 rfl rfl hn5 (by omega) (by omega) (by omega)
  have HN6 := getnum_hid b o n c bs w hl hc hn hr 9 1 9 1 n6 rfl rfl hn6 (by omega) (by omega) (by omega)
  have HN7 := getnum_hid b o n c bs w hl hc hn hr 12 4 12 4 n7 rfl rfl hn7 (by omega) (by omega) (by omega)
  have HN8 := getnum_hid b o n c bs w hl hc hn hr 16 4 16 4 n8 rfl rfl hn8 (by omega) (by omega) (by omega)
  have h3lt := numF_lt bs 6 1 (by omega)
  have h4lt := numF_lt bs 6 2 (by omega)
  have h7lt := numF_lt bs 12 4 (by omega)
  have h8lt := numF_lt bs 16 4 (by omega)
  rw [hn3] at h3lt
  rw [hn4] at h4lt
  rw [hn7] at h7lt
  rw [hn8] at h8lt
  have hand4 := and_8191 n4 h4lt
  have hw7 : IntKind.u32.wrap (n7 : Int) = (n7 : Int) := IntWalk.u32_in _ (by omega)
  have hw8 : IntKind.u32.wrap (n8 : Int) = (n8 : Int) := IntWalk.u32_in _ (by omega)
  have hd3 : (n3 : Int).tdiv 32 = (n3 : Int) / 32 := Int.tdiv_eq_ediv_of_nonneg (by omega)
  rw [hal] at hall hall2
  simp only [hn1, hn2, hn3, hn4, hn5, hn6, hn7, hn8, hhd, hal]
  have HCL : ∀ (k m : Nat) (A : Option Addr), (if m = k then some (⟨b, o, none⟩ : Addr) else some ⟨b, o + k, none⟩) = A → k ≤ m → m ≤ n → Hid (∀ W, Below w.heap.size w W → Calls Tryd.prog 15 #[.slice A (m - k) (m - k)] W fun e w' => ∃ v, e = .returned v ∧ w'.ownsRow W.heap.size 5 1 v (m - k) (bytesV ((bs.drop k).take (m - k))) ∧ Below W.heap.size W w') := fun k m A hA hkm hmn W hW => by
    subst hA
    by_cases e : m = k
    · subst e
      rw [if_pos rfl, Nat.sub_self]
      refine clone_u8 _ 0 0 _ W ⟨by simp [bytesV], fun h => absurd h (by omega)⟩ (bytesV_one _) (by omega)
    · rw [if_neg e]
      exact clone_u8 (some ⟨b, o + k, none⟩) (m - k) (m - k) (bytesV ((bs.drop k).take (m - k))) W (((bytes_part hr hl k (m - k) (by omega)).below hW).more hW.size) (bytesV_one _) (by omega)
  obtain ⟨A20, hA20⟩ : ∃ A, (if h = 20 then some (⟨b, o, none⟩ : Addr) else some ⟨b, o + 20, none⟩) = A := ⟨_, rfl⟩
  obtain ⟨Aal, hAal⟩ : ∃ A, (if al = h then some (⟨b, o, none⟩ : Addr) else some ⟨b, o + h, none⟩) = A := ⟨_, rfl⟩
  have HC1 := HCL 20 h A20 hA20 (by omega) (by omega)
  have HC2 := HCL h al Aal hAal (by omega) (by omega)
  have HA20 := Lib.hid hA20
  have HAal := Lib.hid hAal
  clear hA20 hAal HCL
  clear hn1 hn2 hn3 hn4 hn5 hn6 hn7 hn8 hal h3lt h4lt h7lt h8lt
  have hcf := getnum_call
  unfold ipH at hhd
  obtain ⟨x, hx⟩ : ∃ x, (bs.getD 0 0).toNat = x := ⟨_, rfl⟩
  have hx2 : x < 256 := by rw [← hx]; exact UInt8.toNat_lt _
  rw [hx] at hc0 hok hhd
  have hand := and_15 x hx2
  have hmul : (x : Int) % 16 * 4 = (h : Int) := by omega
  have h6 : ((x : Int) / 16 == 4) = true := by rw [beq_iff_eq]; omega
  have h7 : ((x : Int) / 16 != 4) = false := by rw [bne_eq_false_iff_eq]; omega
  clear hx hcell hr hl hok hhd hs
  have hgb := getbox w (.slice (some ⟨b, o, none⟩) n c)
  have HGB := Lib.hid hgb
  clear hgb
  have hd1 : decide (al < h) = false := by simp; omega
  have hd2 : decide (n < al) = false := by simp; omega
  go_enter Tryd.func22, Tryd.ntmps22
  go_wp2_with fail
  refine (HR.out _ HGB.out).mono ?_
  rintro e w1 ⟨rfl, hb1⟩
  have hB1 := below_then HGB.out HGB.out.size hb1
  have HB1 := Lib.hid hB1
  have hblk := (Blk.new' (t := 25) (cs := #[.int .i64 0, .int .i64 0, .int .i64 0, .int .i64 0, .int .i64 0, .int .i64 0, .int .u32 0, .int .u32 0, .slice none 0 0, .slice none 0 0]) (w := w.alloc (.cells #[.slice (some ⟨b, o, none⟩) n c] 23)) (g := w.heap.size + 1) (by simp)).below hb1 (by simp)
  have HBLK := Lib.hid hblk
  have hbx : Blk w1 w.heap.size 23 #[.slice (some ⟨b, o, none⟩) n c] := ((Blk.new w 23 #[.slice (some ⟨b, o, none⟩) n c]).alloc _).below hb1 (by simp; omega)
  have hbx0 : w1.cell? ⟨w.heap.size, 0, none⟩ = some (.slice (some ⟨b, o, none⟩) n c) := hbx.cell 0
  clear hB1 hb1 hblk
  clear HR HGB hand hmul h6 h7 hc0
  go_upto_region 16 with (go_at_call 31; ((with_reducible refine (HN.out _ HB1.out hbx0).mono ?_); rintro e w2 ⟨rfl, rfl⟩; clear HN))
  go_cut [7] (fun s7 wx => ∃ g7, s7 = .pointer (some ⟨g7, 0, none⟩) ∧ w1.heap.size ≤ g7 ∧ Blk wx g7 25 #[.int .i64 n1, .int .i64 n2, .int .i64 ((n3 : Int) / 32), .int .i64 ((n4 : Int) % 8192), .int .i64 n5, .int .i64 n6, .int .u32 n7, .int .u32 n8, .slice none 0 0, .slice none 0 0] ∧ Below w1.heap.size w1 wx)
  case first =>
--FIRST
    go_wp2_with (go_at_call 31; first
    | ((with_reducible refine (HN1.out _ HB1.out hbx0).mono ?_); rintro e w2 ⟨rfl, rfl⟩; clear HN1)
    | ((with_reducible refine (HN2.out _ HB1.out hbx0).mono ?_); rintro e w2 ⟨rfl, rfl⟩; clear HN2)
    | ((with_reducible refine (HN3.out _ HB1.out hbx0).mono ?_); rintro e w2 ⟨rfl, rfl⟩; clear HN3)
    | ((with_reducible refine (HN4.out _ HB1.out hbx0).mono ?_); rintro e w2 ⟨rfl, rfl⟩; clear HN4)
    | ((with_reducible refine (HN5.out _ HB1.out hbx0).mono ?_); rintro e w2 ⟨rfl, rfl⟩; clear HN5)
    | ((with_reducible refine (HN6.out _ HB1.out hbx0).mono ?_); rintro e w2 ⟨rfl, rfl⟩; clear HN6)
    | ((with_reducible refine (HN7.out _ HB1.out hbx0).mono ?_); rintro e w2 ⟨rfl, rfl⟩; clear HN7)
    | ((with_reducible refine (HN8.out _ HB1.out hbx0).mono ?_); rintro e w2 ⟨rfl, rfl⟩; clear HN8))
    go_meet
    exact ⟨_, rfl, Nat.le_refl _, Blk.new _ _ _, (Below.refl _ _).alloc (Nat.le_refl _) _⟩
--ENDFIRST
  case rest =>
    obtain ⟨g7, rfl, hg7, hb7, hB7⟩ := hcut
    have hbxc : wc.cell? ⟨w.heap.size, 0, none⟩ = some (.slice (some ⟨b, o, none⟩) n c) := (hB7.cell (p := ⟨w.heap.size, 0, none⟩) hbx.lt).trans hbx0
    have hbxlt := Nat.lt_of_lt_of_le hbx.lt hB7.size
    have hblk2 := HBLK.out.below hB7 HBLK.out.lt
    have hlt1 := HBLK.out.lt
    have hB7w := below_then HB1.out HB1.out.size hB7
    have hg7lt := hb7.lt
    have HB7W := Lib.hid hB7w
    have HBLK2 := Lib.hid hblk2
    have HB7 := Lib.hid hb7
    have hHc : (h : Int) ≤ c := by omega
    have hac : (al : Int) ≤ c := by omega
    clear hcf hand4 hw7 hw8 hd3 HB1 HBLK hbx hbx0 hb7 hblk2 hB7 hB7w HN1 HN2 HN3 HN4 HN5 HN6 HN7 HN8
    go_wp2_with fail
    have hA20 := HA20.out
    have hAal := HAal.out
    go_region_held3 (fun W => W.cell? ⟨w.heap.size, 0, none⟩ = some (.slice (some ⟨b, o, none⟩) n c))
      (first | (with_reducible assumption) | go_keep | exact cell_far (by first | assumption | exact cell_far (by assumption) (by assumption)) (by assumption))
      (first
        | (go_at_call 15
           (with_reducible refine (HC1.out _ HB7W.out.drew).mono ?_)
           rintro e W1 ⟨v1, rfl, hown1, hb1⟩
           have hB1 : Below wc.heap.size wc W1 := below_then (Below.refl wc.heap.size wc).drew (Nat.le_refl _) hb1
           have hbx1 : W1.cell? ⟨w.heap.size, 0, none⟩ = some (.slice (some ⟨b, o, none⟩) n c) := (hB1.cell (p := ⟨w.heap.size, 0, none⟩) hbxlt).trans hbxc
           obtain ⟨A8, c8, rfl, _, _, _, _⟩ := own_slice hown1
           clear hb1)
        | (go_at_call 15
           (with_reducible refine (HC2.out _ (below_then HB7W.out HB7W.out.size hB1)).mono ?_)
           rintro e W2 ⟨v2, rfl, hown2, hb2⟩
           have hB2 : Below wc.heap.size wc W2 := below_then hB1 hB1.size hb2
           have hbx2 : W2.cell? ⟨w.heap.size, 0, none⟩ = some (.slice (some ⟨b, o, none⟩) n c) := (hB2.cell (p := ⟨w.heap.size, 0, none⟩) hbxlt).trans hbxc
           obtain ⟨A9, c9, rfl, _, _, _, _⟩ := own_slice hown2
           have hb72 := HB7.out.below hB2 hg7lt
           have hc8 : W2.cell? ⟨g7, 8, none⟩ = some (.slice none 0 0) := hb72.cell 8
           have hc9 : W2.cell? ⟨g7, 9, none⟩ = some (.slice none 0 0) := hb72.cell 9
           have hf8 : W2.frozen? ⟨g7, 8, none⟩ = false := hb72.frozen 8
           have hf9 : W2.frozen? ⟨g7, 9, none⟩ = false := hb72.frozen 9
           have hne : w.heap.size ≠ g7 := by omega
           have HB72 := Lib.hid hb72
           clear hb72))
    obtain ⟨W9, hW9⟩ : ∃ W9, ((W2.setCell ⟨g7, 8, none⟩ (.slice A8 (h - 20) c8)).setCell ⟨g7, 9, none⟩ (.slice A9 (al - h) c9)) = W9 := ⟨_, rfl⟩
    have hblk9 : Blk W9 g7 25 #[.int .i64 n1, .int .i64 n2, .int .i64 ((n3 : Int) / 32), .int .i64 ((n4 : Int) % 8192), .int .i64 n5, .int .i64 n6, .int .u32 n7, .int .u32 n8, .slice A8 (h - 20) c8, .slice A9 (al - h) c9] := by rw [← hW9]; exact (HB72.out.set_ 8 _).set_ 9 _
    have hz9 : Blk W9 (w.heap.size + 1) 25 #[.int .i64 0, .int .i64 0, .int .i64 0, .int .i64 0, .int .i64 0, .int .i64 0, .int .u32 0, .int .u32 0, .slice none 0 0, .slice none 0 0] := by rw [← hW9]; exact ((HBLK2.out.below hB2 (by omega)).far (p := ⟨g7, 8, none⟩) (by simp; omega) _).far (p := ⟨g7, 9, none⟩) (by simp; omega) _
    have hg9 : W2.grownBy W9 (some g7) := by rw [← hW9]; exact only_setCell (p := ⟨g7, 9, none⟩) (only_setCell (p := ⟨g7, 8, none⟩) (World.grownBy.refl W2 (some g7)) (.inl rfl) _) (.inl rfl) _
    rw [hW9]
    have HO1 : Hid (W9.ownsRow wc.heap.size 5 1 (.slice A8 (h - 20) c8) (h - 20) (bytesV ((bs.drop 20).take (h - 20)))) := own_only (own_below hown1 hb2) hg9 hg7lt
    have HO2 : Hid (W9.ownsRow wc.heap.size 5 1 (.slice A9 (al - h) c9) (al - h) (bytesV ((bs.drop h).take (al - h)))) := own_only (own_lower hown2 hB1.size) hg9 hg7lt
    have HBW : Hid (Below w.heap.size w W9) := (below_then HB7W.out HB7W.out.size hB2).grown hg9 (Nat.le_trans HB7W.out.size hB2.size) (fun k hk => by injection hk with hk; omega)
    have HBLK9 := Lib.hid hblk9
    have HZ9 := Lib.hid hz9
    clear hblk9 hz9 hB1 hB2 hW9 hA20 hAal hg9 hown1 hown2 hb2 hc8 hc9 hf8 hf9 hbx1 hbx2 hbxc HB72 HB7
    go_wp2_with (first
      | (refine wpList_load_row rfl 25 (.tmp 7) rfl g7 rfl _ _ _ _ HBLK9.out Tryd.underlying25 rfl ip_info ?_)
      | (refine wpList_store_row rfl 25 (.tmp 2) (.tmp 96) rfl (w.heap.size + 1) _ rfl rfl _ _ HZ9.out ip_info rfl (by simp [Value.oneCell']) ?_))
    have hb3 : Blk (W9.setRow (w.heap.size + 1) #[.int .i64 n1, .int .i64 n2, .int .i64 ((n3 : Int) / 32), .int .i64 ((n4 : Int) % 8192), .int .i64 n5, .int .i64 n6, .int .u32 n7, .int .u32 n8, .slice A8 (h - 20) c8, .slice A9 (al - h) c9]) (w.heap.size + 1) 25 _ := setRow_heap _ _ _ _ _ _ HZ9.out
    have hgr : W9.grownBy (W9.setRow (w.heap.size + 1) #[.int .i64 n1, .int .i64 n2, .int .i64 ((n3 : Int) / 32), .int .i64 ((n4 : Int) % 8192), .int .i64 n5, .int .i64 n6, .int .u32 n7, .int .u32 n8, .slice A8 (h - 20) c8, .slice A9 (al - h) c9]) (some (w.heap.size + 1)) := only_setRow (World.grownBy.refl _ _) _
    refine bodyPost_ret (ipget_res _ _ _ _ _ rfl rfl rfl hb3) rfl ⟨_, _, rfl, ?_, ?_, ?_⟩
    · exact own_lower (own_only HO1.out hgr (by omega)) (by omega)
    · exact own_lower (own_only HO2.out hgr (by omega)) (by omega)
    · exact below_setRow HBW.out (by omega) _
end Go.Proofs.YtfkkjhfncmfahaaDoor
