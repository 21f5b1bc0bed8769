/- IpEchoes: the law's walk. -/
import Derived.Test.YtfkkjhfncmfahaaDoorProg
import Derived.Test.YtfkkjhfncmfahaaDoorA0
import Derived.Test.YtfkkjhfncmfahaaDoorS3
import Derived.Test.YtfkkjhfncmfahaaDoorE1
import Derived.Test.YtfkkjhfncmfahaaDoorL0
import Derived.Test.YtfkkjhfncmfahaaDoorG1
import Derived.Test.YtfkkjhfncmfahaaDoorH2
import Derived.Deep.RegionHeld3
namespace Go.Proofs.YtfkkjhfncmfahaaDoor
open Go.RowKit Go.Deep

set_option maxRecDepth 100000 in
set_option maxHeartbeats 4000000 in
theorem echoes_true (A : Option Addr) (n c : Nat) (bs : List UInt8) (w : World) (hl : bs.length = n) (hc : n ≤ c) (hcm : c ≤ maxLen) (hn : n ≤ 140737488355328) (hr : Reads w w.heap.size 1 A n (bytesV bs)) (hv : ErrVar w) :
    Calls Tryd.prog 4 #[.slice A n c] w fun e w' => e = .returned (.bool true) ∧ Below w.heap.size w w' := by
  have hH : ∀ W, Below w.heap.size w W → Calls Tryd.prog 5 #[] W fun e w' => e = .returned (.bool true) ∧ Below W.heap.size W w' := fun W hW => heads_true W (hv.below hW)
  have HH := Lib.hid hH
  clear hH
  by_cases h20 : 20000 < n
  · have HH0 := Lib.hid (HH.out w (Below.refl _ _))
    clear hl hr hv
    go_enter Tryd.func4, Tryd.ntmps4
    go_wp2_with fail
    refine HH0.out.mono ?_
    rintro e w1 ⟨rfl, hb1⟩
    go_wp2_with fail
    go_ret
    exact ⟨rfl, hb1⟩
  by_cases hok : EchoOk bs
  · obtain ⟨h8, _⟩ := id hok
    rw [hl] at h8
    have HE := Lib.hid (echo_yes A n c bs w hl hc hn hr hok)
    obtain ⟨b, o, rfl, hbb, hcell⟩ := hr.opn (by omega)
    have hb1c := byte_at hcell hl (show 1 < n by omega)
    have H8 := Lib.hid (show 8 ≤ bs.length by omega)
    have HL := Lib.hid hl
    have HR := Lib.hid hr
    have HOK := Lib.hid hok
    clear hl hr hv hok hcell
    go_enter Tryd.func4, Tryd.ntmps4
    go_wp2_with fail
    refine HE.out.mono ?_
    rintro e w1 ⟨v1, rfl, hown1, hb1⟩
    obtain ⟨g1, cap1, cur1, rfl, hg1, _⟩ := own_open hown1 (by omega)
    obtain ⟨hnc1, hcm1⟩ := own_cap hown1
    have HO1 := Lib.hid hown1
    have HB1 := Lib.hid hb1
    clear hown1 hb1
    go_wp2_with fail
    have hlE : (echoF bs).length = n := by rw [echoF_len]; exact HL.out
    refine (echo_no (some ⟨g1, 0, none⟩) n cap1 (echoF bs) w1 hlE hnc1 hn (Reads.of_own HO1.out) (echoF_not bs H8.out)).mono ?_
    rintro e w2 ⟨rfl, hb2⟩
    have HB2 := Lib.hid (below_then HB1.out HB1.out.size hb2)
    have HO2 := Lib.hid (own_below HO1.out hb2)
    have e0 : ((echoF bs).getD 0 0).toNat = 0 := by rw [echoF_getD bs H8.out 0 (by omega) (by omega), if_pos rfl]; rfl
    have e1 : ((echoF bs).getD 1 0).toNat = (bs.getD 1 0).toNat := by rw [echoF_getD bs H8.out 1 (by omega) (by omega), if_neg (by omega)]
    have c0 := own_byte HO2.out hlE (show 0 < n by omega)
    have c1 := own_byte HO2.out hlE (show 1 < n by omega)
    rw [e0] at c0
    rw [e1] at c1
    have d1 : w2.cell? ⟨b, o + 1, none⟩ = some (.int .u8 ((bs.getD 1 0).toNat : Int)) := (HB2.out.cell (p := ⟨b, o + 1, none⟩) hbb).trans hb1c
    obtain ⟨x, hx⟩ : ∃ x, (bs.getD 1 0).toNat = x := ⟨_, rfl⟩
    rw [hx] at c1 d1
    have hsame : ∀ W, Below w.heap.size w W → W.ownsRow w.heap.size 5 1 (.slice (some ⟨g1, 0, none⟩) n cap1) n (bytesV (echoF bs)) → Calls Tryd.prog 8 #[.slice (some ⟨g1, 4, none⟩) (n - 4) (cap1 - 4), .slice (some ⟨b, o + 4, none⟩) (n - 4) (c - 4)] W fun e w' => e = .returned (.bool true) ∧ W = w' := fun W hW hO => by
      have q1 : Reads W W.heap.size 1 (some ⟨g1, 4, none⟩) (n - 4) (bytesV ((echoF bs).drop 4)) := by
        have h := (Reads.of_own hO).cut (k := 4) (cap := n + 1) (by omega) (by omega)
        rw [if_neg (by omega), Nat.mul_one, bytesV_drop] at h
        exact h
      have q2 : Reads W W.heap.size 1 (some ⟨b, o + 4, none⟩) (n - 4) (bytesV (bs.drop 4)) := by
        have h := ((HR.out.below hW).more hW.size).cut (k := 4) (cap := n + 1) (by omega) (by omega)
        rw [if_neg (by omega), Nat.mul_one, bytesV_drop] at h
        exact h
      have h := same_any _ _ (n - 4) (cap1 - 4) (n - 4) (c - 4) _ _ W (by rw [List.length_drop, hlE]) q1 (by rw [List.length_drop, HL.out]) q2
      rw [echoF_drop bs H8.out] at h
      simpa using h
    have hright : ∀ W, W.ownsRow w.heap.size 5 1 (.slice (some ⟨g1, 0, none⟩) n cap1) n (bytesV (echoF bs)) → Calls Tryd.prog 10 #[.slice (some ⟨g1, 0, none⟩) n cap1] W fun e w' => e = .returned (.bool true) ∧ W = w' := fun W hO => by
      have h := refright_any (some ⟨g1, 0, none⟩) n cap1 (echoF bs) W hlE hnc1 hn (Reads.of_own hO)
      rwa [echoF_right bs H8.out] at h
    have hq : ∀ w3, Below w2.heap.size w2 w3 → w3.cell? ⟨g1, 0, none⟩ = some (.int .u8 0) ∧ w3.cell? ⟨g1, 1, none⟩ = some (.int .u8 x) ∧ w3.cell? ⟨b, o + 1, none⟩ = some (.int .u8 x) ∧ Below w.heap.size w w3 := fun w3 h =>
      ⟨(h.cell (p := ⟨g1, 0, none⟩) (World.block_lt_of_cell? w2 ⟨g1, 0, none⟩ c0)).trans c0, (h.cell (p := ⟨g1, 1, none⟩) (World.block_lt_of_cell? w2 ⟨g1, 0, none⟩ c0)).trans c1, (h.cell (p := ⟨b, o + 1, none⟩) (World.block_lt_of_cell? w2 ⟨b, o + 1, none⟩ d1)).trans d1, below_then HB2.out HB2.out.size h⟩
    have HQ := Lib.hid hq
    clear hq
    have HS := Lib.hid hsame
    have HRT := Lib.hid hright
    have hd8 : decide ((8 : Int) ≤ (n : Int)) = true := by simp; omega
    have i0 : (0 : Int) < (n : Int) := by omega
    have i1 : (1 : Int) < (n : Int) := by omega
    have hn4 : (4 : Int) ≤ (n : Int) := by omega
    have hcc : (n : Int) ≤ (c : Int) := by omega
    have hcc1 : (n : Int) ≤ (cap1 : Int) := by omega
    have hne1 : ¬ cap1 = 4 := by omega
    have hne2 : ¬ c = 4 := by omega
    clear hb2 hlE e0 e1 hx hsame hright hb1c
    go_wp2_with fail
    go_region_held3 (fun W => W.cell? ⟨g1, 0, none⟩ = some (.int .u8 0) ∧ W.cell? ⟨g1, 1, none⟩ = some (.int .u8 x) ∧ W.cell? ⟨b, o + 1, none⟩ = some (.int .u8 x))
      (first | (with_reducible exact ⟨c0, c1, d1⟩) | go_keep)
      (first
        | (go_at_call 8; refine (HS.out w2.drew HB2.out.drew HO2.out).mono ?_; rintro e w3 ⟨rfl, rfl⟩)
        | (go_at_call 10; refine (HRT.out w2.drew HO2.out).mono ?_; rintro e w3 ⟨rfl, rfl⟩)
        | (go_at_call 5
           refine (HH.out w2.drew HB2.out.drew).mono ?_
           rintro e w3 ⟨rfl, hb3⟩
           have hb4 : Below w2.heap.size w2 w3 := below_then (Below.refl w2.heap.size w2).drew (Nat.le_refl _) hb3
           obtain ⟨q0, q1, q2, hB3⟩ := HQ.out w3 hb4))
    go_wp2_with fail
    go_ret
    exact ⟨rfl, hB3⟩
  · have HE := Lib.hid (echo_no A n c bs w hl hc hn hr hok)
    clear hl hr hv hok
    go_enter Tryd.func4, Tryd.ntmps4
    go_wp2_with fail
    refine HE.out.mono ?_
    rintro e w1 ⟨rfl, hb1⟩
    have HB1 := Lib.hid hb1
    clear hb1
    go_wp2_with fail
    refine (HH.out w1 HB1.out).mono ?_
    rintro e w2 ⟨rfl, hb2⟩
    have hB2 := below_then HB1.out HB1.out.size hb2
    go_wp2_with fail
    go_ret
    exact ⟨rfl, hB2⟩
end Go.Proofs.YtfkkjhfncmfahaaDoor
