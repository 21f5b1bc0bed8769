/- Layer 17's heads: they come. -/
import Derived.Test.YtfkkjhfncmfahaaDoorProg
import Derived.Test.YtfkkjhfncmfahaaDoorA0
import Derived.Test.YtfkkjhfncmfahaaDoorB0
import Derived.Test.YtfkkjhfncmfahaaDoorB1
import Derived.Test.YtfkkjhfncmfahaaDoorS1
import Derived.Test.YtfkkjhfncmfahaaDoorS2
import Derived.Test.YtfkkjhfncmfahaaDoorS3
import Derived.Test.YtfkkjhfncmfahaaDoorS4
import Derived.Test.YtfkkjhfncmfahaaDoorE1
import Derived.Test.YtfkkjhfncmfahaaDoorB2
import Derived.Test.YtfkkjhfncmfahaaDoorI1
import Derived.Test.YtfkkjhfncmfahaaDoorP1
import Derived.Test.YtfkkjhfncmfahaaDoorG1
import Derived.Test.YtfkkjhfncmfahaaDoorG2
import Derived.Test.YtfkkjhfncmfahaaDoorG3
import Derived.Test.YtfkkjhfncmfahaaDoorG4
import Derived.Test.YtfkkjhfncmfahaaDoorG5
import Derived.Test.YtfkkjhfncmfahaaDoorG6
import Derived.Test.YtfkkjhfncmfahaaDoorG7
import Derived.Test.YtfkkjhfncmfahaaDoorC1
import Derived.Test.YtfkkjhfncmfahaaDoorC2
import Derived.Test.YtfkkjhfncmfahaaDoorC3
import Derived.Test.YtfkkjhfncmfahaaDoorH0
namespace Go.Proofs.YtfkkjhfncmfahaaDoor
open Go.RowKit Go.Deep

/-- ip.Put of the heads' packet. -/
theorem hd_put (b : Nat) (W : World) (hr : Reads W W.heap.size 1 (some ⟨b, 0, none⟩) 100 (bytesV hd0)) :
    Calls Tryd.prog 7 #[.agg #[.int .i64 0, .int .i64 5, .int .i64 0, .int .i64 0, .int .i64 64, .int .i64 17, .int .u32 1, .int .u32 2, .slice none 0 0, .slice (some ⟨b, 0, none⟩) 100 100]] W fun e w' => ∃ g cap, e = .returned (.tuple #[.slice (some ⟨g, 0, none⟩) 120 cap, .int .i64 0]) ∧ w'.ownsRow W.heap.size 5 1 (.slice (some ⟨g, 0, none⟩) 120 cap) 120 (bytesV hdB) ∧ Below W.heap.size W w' := by
  refine (ipput_yes 0 5 0 0 64 17 1 2 none (some ⟨b, 0, none⟩) 0 0 100 100 [] hd0 W rfl rfl Reads.none_ hr (Nat.le_refl _) (Nat.le_refl _) (by simp [maxLen]) (by simp [maxLen]) (by decide) (by decide) (by decide)).mono ?_
  rintro e w' ⟨v, rfl, hown, hb⟩
  obtain ⟨g, cap, cur, rfl, _⟩ := own_open hown (by omega)
  exact ⟨g, cap, rfl, hown, hb⟩
/-- ip.Get of its bytes, and one more. -/
theorem hd_get (g cap : Nat) (W : World) (hv : ErrVar W) (hc : 121 ≤ cap) (hcm : cap ≤ maxLen) (hr : Reads W W.heap.size 1 (some ⟨g, 0, none⟩) 121 (bytesV (hdB ++ [9]))) :
    Calls Tryd.prog 11 #[.slice (some ⟨g, 0, none⟩) 121 cap] W fun e w' => ∃ A8 k8 A9 k9, e = .returned (.tuple #[.agg #[.int .i64 0, .int .i64 5, .int .i64 0, .int .i64 0, .int .i64 64, .int .i64 17, .int .u32 1, .int .u32 2, .slice A8 0 k8, .slice A9 100 k9], .int .i64 0]) ∧ w'.ownsRow W.heap.size 5 1 (.slice A8 0 k8) 0 (bytesV []) ∧ w'.ownsRow W.heap.size 5 1 (.slice A9 100 k9) 100 (bytesV hd0) ∧ Below W.heap.size W w' := by
  refine ipGet_good (some ⟨g, 0, none⟩) 121 cap 0 5 0 0 64 17 1 2 [] hd0 W hv (fun W' hW => ?_)
  have h := ipget_good g 0 121 cap (hdB ++ [9]) W' hdC_len hc hcm (by omega) (by omega) ((hr.below hW).more hW.size) (by rw [hdC_first]) (by rw [hdC_h]; exact Nat.le_refl _) (by rw [hdC_h]; omega) (by rw [hdC_h]; exact hdC_right) (by rw [hdC_h, hdC_all]; omega) (by rw [hdC_all]; omega)
  refine h.mono ?_
  rintro e w' ⟨v8, v9, rfl, h8, h9, hb⟩
  have hn := hdC_nums
  injection hn with q1 hn
  injection hn with q2 hn
  injection hn with q3 hn
  injection hn with q4 hn
  injection hn with q5 hn
  injection hn with q6 hn
  injection hn with q7 hn
  injection hn with q8 hn
  rw [hdC_h] at h8 h9
  rw [hdC_all] at h9
  have e8 : ((hdB ++ [9]).drop 20).take (20 - 20) = [] := hdC_opt
  have e9 : ((hdB ++ [9]).drop 20).take (120 - 20) = hd0 := hdC_data
  rw [e8] at h8
  rw [e9] at h9
  refine ⟨v8, v9, ?_, h8, h9, hb⟩
  rw [q1, q2, q3, q4, q5, q6, q7, q8]
  rfl
/-- ip.Get of half of them. -/
theorem hd_half (g cap : Nat) (W : World) (hv : ErrVar W) (hc : 60 ≤ cap) (hr : Reads W W.heap.size 1 (some ⟨g, 0, none⟩) 60 (bytesV (hdB.take 60))) :
    Calls Tryd.prog 11 #[.slice (some ⟨g, 0, none⟩) 60 cap] W fun e w' => e = .returned (.tuple #[.agg #[.int .i64 0, .int .i64 0, .int .i64 0, .int .i64 0, .int .i64 0, .int .i64 0, .int .u32 0, .int .u32 0, .slice none 0 0, .slice none 0 0], .int .i64 160]) ∧ Below W.heap.size W w' := by
  refine ipGet_bad (some ⟨g, 0, none⟩) 60 cap 160 W hv (fun W' hW => ?_)
  exact ipget_all2 g 0 60 cap (hdB.take 60) W' hdH_len hc (by omega) (by omega) ((hr.below hW).more hW.size) (by rw [hdH_first]) (by rw [hdH_h]; exact Nat.le_refl _) (by rw [hdH_h]; omega) (by rw [hdH_h]; exact hdH_right) (by rw [hdH_h, hdH_all]; omega) (by rw [hdH_all]; omega)
/-- Three pieces. -/
theorem hd_cut (b : Nat) (W : World) (hr : Reads W W.heap.size 1 (some ⟨b, 0, none⟩) 100 (bytesV hd0)) :
    Calls Tryd.prog 6 #[.agg #[.int .i64 0, .int .i64 5, .int .i64 0, .int .i64 0, .int .i64 64, .int .i64 17, .int .u32 1, .int .u32 2, .slice none 0 0, .slice (some ⟨b, 0, none⟩) 100 100], .int .i64 68] W fun e w' => ∃ g cap A c, e = .returned (.tuple #[.slice (some ⟨g, 0, none⟩) 3 cap, .int .i64 0]) ∧ w'.cell? ⟨g, 2, none⟩ = some (.int .i64 1) ∧ w'.cell? ⟨g, 22, none⟩ = some (.int .i64 0) ∧ w'.cell? ⟨g, 23, none⟩ = some (.int .i64 12) ∧ w'.cell? ⟨g, 29, none⟩ = some (.slice A 4 c) ∧ g < w'.heap.size ∧ Below W.heap.size W w' := by
  refine (cut_pieces 0 5 0 0 64 17 1 2 none b 0 0 0 100 100 48 [] hd0 68 W rfl hr (Nat.le_refl _) (by decide) (by decide) (by decide) (by decide) (by decide) (by decide)).mono ?_
  rintro e w' ⟨g, cap, rfl, hp, hg, hc, hb⟩
  have hK : pcK 48 100 = 3 := rfl
  rw [hK] at hp hc
  obtain ⟨V0, _, h0⟩ := hp 0 (by omega)
  obtain ⟨V2, hV2, h2⟩ := hp 2 (by omega)
  obtain ⟨A, c, rfl, _⟩ := own_slice hV2
  exact ⟨g, cap, A, c, rfl, h0 2 _ rfl, h2 2 _ rfl, h2 3 _ rfl, h2 9 _ rfl, hg, hb⟩
end Go.Proofs.YtfkkjhfncmfahaaDoor
