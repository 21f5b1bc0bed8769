/- The plain law of an echo's answer: its checksum is right; the same bytes but the first and the checksum. -/
import Derived.Test.YtfkkjhfncmfahaaDoorProg
import Derived.Test.YtfkkjhfncmfahaaDoorA0
import Derived.Test.YtfkkjhfncmfahaaDoorB0
import Derived.Test.YtfkkjhfncmfahaaDoorB1
import Derived.Test.YtfkkjhfncmfahaaDoorS1
import Derived.Test.YtfkkjhfncmfahaaDoorS2
import Derived.Test.YtfkkjhfncmfahaaDoorE1
namespace Go.Proofs.YtfkkjhfncmfahaaDoor
open Go.RowKit Go.Deep

theorem getD_set (l : List UInt8) (i j : Nat) (a : UInt8) (h : i < l.length) : (l.set i a).getD j 0 = if i = j then a else l.getD j 0 := by
  rw [List.getD_eq_getElem?_getD, List.getElem?_set, List.getD_eq_getElem?_getD]
  by_cases e : i = j
  · rw [if_pos e, if_pos e, if_pos (by omega)]; rfl
  · rw [if_neg e, if_neg e]
/-- The total with two bytes put in. -/
theorem totTo_put (z : List UInt8) (a b : UInt8) (h : 4 ≤ z.length) (h2 : z.getD 2 0 = 0) (h3 : z.getD 3 0 = 0) (k : Nat) :
    totTo ((z.set 2 a).set 3 b) k = totTo z k + if 2 ≤ k then 256 * a.toNat + b.toNat else 0 := by
  have hg : ∀ j, ((z.set 2 a).set 3 b).getD j 0 = if 3 = j then b else if 2 = j then a else z.getD j 0 := fun j => by
    rw [getD_set _ _ _ _ (by simp; omega), getD_set _ _ _ _ (by omega)]
  induction k with
  | zero => simp [totTo]
  | succ k ih =>
    simp only [totTo]
    rw [ih, hg, hg]
    by_cases e : k = 1
    · subst e
      have e2 : z.getD (2 * 1) 0 = 0 := h2
      have e3 : z.getD (2 * 1 + 1) 0 = 0 := h3
      rw [e2, e3, if_neg (by omega : ¬ (2 ≤ 1)), if_neg (by omega : ¬ (3 = 2 * 1)), if_pos (by omega : 2 = 2 * 1), if_pos (by omega : 3 = 2 * 1 + 1), if_pos (by omega : 2 ≤ 1 + 1)]
      have : (0 : UInt8).toNat = 0 := rfl
      omega
    · rw [if_neg (by omega : ¬ (3 = 2 * k)), if_neg (by omega : ¬ (2 = 2 * k)), if_neg (by omega : ¬ (3 = 2 * k + 1)), if_neg (by omega : ¬ (2 = 2 * k + 1))]
      by_cases e2 : 2 ≤ k
      · rw [if_pos e2, if_pos (by omega)]; omega
      · rw [if_neg e2, if_neg (by omega)]; omega
theorem canon_full (T : Nat) : canon (T + (65535 - canon T)) = 65535 := by
  unfold canon
  by_cases h : T = 0
  · subst h; rfl
  · rw [if_neg h]
    have h1 := Nat.mod_lt (T - 1) (show 0 < 65535 by omega)
    rw [if_neg (by omega)]
    have h2 := Nat.div_add_mod (T - 1) 65535
    omega
theorem sum_patch (zs : List UInt8) (h : 4 ≤ zs.length) : sumF (patchF zs 2) = 0 := by
  have hz2 : ((zs.set 2 0).set 3 0).getD 2 0 = 0 := by rw [getD_set _ _ _ _ (by simp; omega), if_neg (by omega), getD_set _ _ _ _ (by omega), if_pos rfl]
  have hz3 : ((zs.set 2 0).set 3 0).getD 3 0 = 0 := by rw [getD_set _ _ _ _ (by simp; omega), if_pos rfl]
  obtain ⟨z, hz⟩ : ∃ z, (zs.set 2 0).set 3 0 = z := ⟨_, rfl⟩
  have hl : z.length = zs.length := by rw [← hz]; simp
  have hp : patchF zs 2 = (z.set 2 ((beB (sumF z) 2).getD 0 0)).set 3 ((beB (sumF z) 2).getD 1 0) := by rw [← hz]; rfl
  rw [hz] at hz2 hz3
  have hs : sumF z ≤ 65535 := by unfold sumF; omega
  have hb := beB_2 (sumF z)
  have ha : ((beB (sumF z) 2).getD 0 0).toNat = sumF z / 256 := by
    rw [hb]
    show (UInt8.ofNat ((sumF z : Int) / 256 % 256).toNat).toNat = _
    rw [UInt8.toNat_ofNat']
    omega
  have hb2 : ((beB (sumF z) 2).getD 1 0).toNat = sumF z % 256 := by
    rw [hb]
    show (UInt8.ofNat ((sumF z : Int) % 256).toNat).toNat = _
    rw [UInt8.toNat_ofNat']
    omega
  rw [hp]
  have ht : total ((z.set 2 ((beB (sumF z) 2).getD 0 0)).set 3 ((beB (sumF z) 2).getD 1 0)) = total z + sumF z := by
    unfold total
    rw [List.length_set, List.length_set, totTo_put z _ _ (by omega) hz2 hz3, if_pos (by omega), ha, hb2]
    omega
  unfold sumF at ht ⊢
  rw [ht, canon_full]
theorem echoF_len (bs : List UInt8) : (echoF bs).length = bs.length := by unfold echoF patchF; simp
theorem echoF_right (bs : List UInt8) (h : 8 ≤ bs.length) : rightB (echoF bs) = true := by
  unfold rightB echoF
  rw [sum_patch _ (by simp; omega)]
  rfl
theorem echoF_getD (bs : List UInt8) (h : 8 ≤ bs.length) (j : Nat) (h2 : j ≠ 2) (h3 : j ≠ 3) : (echoF bs).getD j 0 = if 0 = j then 0 else bs.getD j 0 := by
  unfold echoF patchF
  simp only []
  rw [getD_set _ _ _ _ (by simp; omega), if_neg (by omega), getD_set _ _ _ _ (by simp; omega), if_neg (by omega), getD_set _ _ _ _ (by simp; omega), if_neg (by omega), getD_set _ _ _ _ (by simp; omega), if_neg (by omega), getD_set _ _ _ _ (by omega)]
theorem echoF_drop (bs : List UInt8) (h : 8 ≤ bs.length) : (echoF bs).drop 4 = bs.drop 4 := by
  refine List.ext_getElem? fun i => ?_
  rw [List.getElem?_drop, List.getElem?_drop]
  have hl := echoF_len bs
  by_cases hi : 4 + i < bs.length
  · have := echoF_getD bs h (4 + i) (by omega) (by omega)
    rw [if_neg (by omega)] at this
    rw [List.getD_eq_getElem?_getD, List.getD_eq_getElem?_getD, List.getElem?_eq_getElem (by omega), List.getElem?_eq_getElem hi] at this
    rw [List.getElem?_eq_getElem (by omega), List.getElem?_eq_getElem hi]
    simpa using this
  · rw [List.getElem?_eq_none (by omega), List.getElem?_eq_none (by omega)]
theorem echoF_not (bs : List UInt8) (h : 8 ≤ bs.length) : ¬ EchoOk (echoF bs) := by
  rintro ⟨_, h0, _⟩
  rw [echoF_getD bs h 0 (by omega) (by omega), if_pos rfl] at h0
  exact absurd h0 (by decide)
end Go.Proofs.YtfkkjhfncmfahaaDoor
