/- ip.Echo: which echoes are answered, and by what. -/
import Derived.Test.YtfkkjhfncmfahaaDoorProg
import Derived.Test.YtfkkjhfncmfahaaDoorA0
import Derived.Test.YtfkkjhfncmfahaaDoorB0
import Derived.Test.YtfkkjhfncmfahaaDoorB1
import Derived.Test.YtfkkjhfncmfahaaDoorS1
import Derived.Test.YtfkkjhfncmfahaaDoorS2
import Derived.Test.YtfkkjhfncmfahaaDoorS3
namespace Go.Proofs.YtfkkjhfncmfahaaDoor
open Go.RowKit Go.Deep

/-- Which bytes are an echo that is answered. -/
def EchoOk (bs : List UInt8) : Prop := 8 ≤ bs.length ∧ bs.getD 0 0 = 8 ∧ bs.getD 1 0 = 0 ∧ rightB bs = true
/-- The answer. -/
def echoF (bs : List UInt8) : List UInt8 := patchF (bs.set 0 0) 2

theorem u8_ne {b : UInt8} {k : Nat} (h : b ≠ UInt8.ofNat k) (hk : k < 256) : (b.toNat : Int) ≠ (k : Int) := by
  intro e
  apply h
  have e' : b.toNat = k := by omega
  rw [← e']
  simp

set_option maxRecDepth 100000 in
set_option maxHeartbeats 1000000 in
theorem echo_no (A : Option Addr) (n c : Nat) (bs : List UInt8) (w : World) (hl : bs.length = n) (hc : n ≤ c) (hn : n ≤ 140737488355328) (hr : Reads w w.heap.size 1 A n (bytesV bs)) (hno : ¬ EchoOk bs) :
    Calls Tryd.prog 9 #[.slice A n c] w fun e w' => e = .returned (.tuple #[.slice none 0 0, .bool false]) ∧ Below w.heap.size w w' := by
  by_cases h8 : 8 ≤ n
  · obtain ⟨b, o, rfl, hbb, hcell⟩ := hr.opn (by omega)
    have hc0 := byte_at hcell hl (show 0 < n by omega)
    have hc1 := byte_at hcell hl (show 1 < n by omega)
    have HR := Lib.hid (right_any (some ⟨b, o, none⟩) n c bs w hl hc hn hr)
    have HN := Lib.hid hno
    obtain ⟨x, hx⟩ : ∃ x, x = bs.getD 0 0 := ⟨_, rfl⟩
    obtain ⟨y, hy⟩ : ∃ y, y = bs.getD 1 0 := ⟨_, rfl⟩
    rw [← hx] at hc0
    rw [← hy] at hc1
    have HX := Lib.hid hx
    have HY := Lib.hid hy
    have HL := Lib.hid hl
    clear hx hy hno hr hcell hl
    simp only [Nat.add_zero] at hc0
    by_cases e0 : x = 8
    · subst e0
      by_cases e1 : y = 0
      · subst e1
        have hrt : rightB bs = false := by
          rcases hb : rightB bs with _ | _
          · rfl
          · exact absurd ⟨by rw [HL.out]; exact h8, HX.out.symm, HY.out.symm, hb⟩ HN.out
        rw [hrt] at HR
        clear hrt
        go_enter Tryd.func9, Tryd.ntmps9
        go_wp2_with (go_at_call 20; refine HR.out.mono ?_; rintro e w1 ⟨rfl, hb1⟩)
        go_ret2
        exact ⟨rfl, hb1⟩
      · have h1 := u8_ne (k := 0) e1 (by omega)
        have h2 : ((y.toNat : Int) != 0) = true := by simpa using h1
        have h3 : ((y.toNat : Int) == 0) = false := by simpa using h1
        clear e1
        go_enter Tryd.func9, Tryd.ntmps9
        go_wp2_with fail
        go_ret2
        exact ⟨rfl, Below.refl _ _⟩
    · have h1 := u8_ne (k := 8) e0 (by omega)
      have h2 : ((x.toNat : Int) != 8) = true := by simpa using h1
      have h3 : ((x.toNat : Int) == 8) = false := by simpa using h1
      clear e0
      go_enter Tryd.func9, Tryd.ntmps9
      go_wp2_with fail
      go_ret2
      exact ⟨rfl, Below.refl _ _⟩
  · clear hl hr hno
    go_enter Tryd.func9, Tryd.ntmps9
    go_wp2_with fail
    go_ret2
    exact ⟨rfl, Below.refl _ _⟩

set_option maxRecDepth 100000 in
set_option maxHeartbeats 1000000 in
theorem echo_yes (A : Option Addr) (n c : Nat) (bs : List UInt8) (w : World) (hl : bs.length = n) (hc : n ≤ c) (hn : n ≤ 140737488355328) (hr : Reads w w.heap.size 1 A n (bytesV bs)) (hok : EchoOk bs) :
    Calls Tryd.prog 9 #[.slice A n c] w fun e w' => ∃ v, e = .returned (.tuple #[v, .bool true]) ∧ w'.ownsRow w.heap.size 5 1 v n (bytesV (echoF bs)) ∧ Below w.heap.size w w' := by
  obtain ⟨h8, h0, h1, h2⟩ := hok
  rw [hl] at h8
  obtain ⟨b, o, rfl, hbb, hcell⟩ := hr.opn (by omega)
  have hc0 := byte_at hcell hl (show 0 < n by omega)
  have hc1 := byte_at hcell hl (show 1 < n by omega)
  rw [h0] at hc0
  rw [h1] at hc1
  simp only [Nat.add_zero] at hc0
  have HR := Lib.hid (right_any (some ⟨b, o, none⟩) n c bs w hl hc hn hr)
  rw [h2] at HR
  have HCL : Hid (∀ W, Below w.heap.size w W → _) := Lib.hid fun W (hW : Below w.heap.size w W) => clone_u8 (some ⟨b, o, none⟩) n c (bytesV bs) W ((hr.below hW).more hW.size) (bytesV_one bs) (by omega)
  have HL := Lib.hid hl
  clear h0 h1 h2 hcell hr hl
  go_enter Tryd.func9, Tryd.ntmps9
  go_wp2_with (go_at_call 20; refine HR.out.mono ?_; rintro e w1 ⟨rfl, hb1⟩)
  refine (HCL.out w1 hb1).mono ?_
  rintro e w2 ⟨v2, rfl, hown2, hb2⟩
  obtain ⟨g, cap, cur, rfl, hg, hblk, hnc, hcm, hcs, hct⟩ := own_open hown2 (by omega)
  have hcg := own_byte hown2 HL.out (show 0 < n by omega)
  have hfg := hblk.frozen 0
  have hblk' := hblk.set_ 0 (.int .u8 0)
  have hown' : (w2.setCell ⟨g, 0, none⟩ (.int .u8 0)).ownsRow w1.heap.size 5 1 (.slice (some ⟨g, 0, none⟩) n cap) n (bytesV (bs.set 0 0)) :=
    own_close hg hblk' hnc hcm (by simpa using hcs) (by rw [Array.toList_setIfInBounds, List.take_set, hct]; exact bytesV_set bs 0 0)
  have hrd' := Reads.of_own hown'
  have HP := Lib.hid (patch_any (some ⟨g, 0, none⟩) n cap (bs.set 0 0) 2 (w2.setCell ⟨g, 0, none⟩ (.int .u8 0)) (by simpa using HL.out) hnc hn hrd' (by omega) (by decide))
  clear hown2 hblk hown' hrd' hct hcs hblk'
  go_wp2_with (go_at_call 19; refine HP.out.mono ?_; rintro e w3 ⟨v3, rfl, hown3, hb3⟩)
  go_ret2
  have hb12 : Below w.heap.size w (w2.setCell ⟨g, 0, none⟩ (.int .u8 0)) := (below_then hb1 hb1.size hb2).setCell (Nat.le_trans hb1.size hg) _
  exact ⟨v3, rfl, own_lower hown3 hb12.size, below_then hb12 hb12.size hb3⟩
end Go.Proofs.YtfkkjhfncmfahaaDoor
