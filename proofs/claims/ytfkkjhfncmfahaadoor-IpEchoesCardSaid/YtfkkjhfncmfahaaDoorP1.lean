/- ip.Put: which bytes packets are. -/
import Derived.Test.YtfkkjhfncmfahaaDoorProg
import Derived.Test.YtfkkjhfncmfahaaDoorA0
import Derived.Test.YtfkkjhfncmfahaaDoorB0
import Derived.Test.YtfkkjhfncmfahaaDoorB1
import Derived.Test.YtfkkjhfncmfahaaDoorS1
import Derived.Test.YtfkkjhfncmfahaaDoorS2
import Derived.Test.YtfkkjhfncmfahaaDoorI1
import Derived.Deep.DeepCutAuto
namespace Go.Proofs.YtfkkjhfncmfahaaDoor
open Go.RowKit Go.Deep

theorem num_any (x : Int) (m : Nat) (m' : Int) (w : World) (h0 : 0 ≤ x) (h1 : x ≤ 9223372036854775807) (hm : m' = m) (hm1 : 0 < m) (hm2 : m ≤ 8) :
    Calls Tryd.prog 16 #[.int .i64 x, .int .i64 m'] w fun e w' => ∃ g cap, e = .returned (.slice (some ⟨g, 0, none⟩) m cap) ∧ w'.ownsRow w.heap.size 5 1 (.slice (some ⟨g, 0, none⟩) m cap) m (bytesV (beB x m)) ∧ Below w.heap.size w w' := by
  subst hm
  have hw : IntKind.u64.wrap x = x := IntWalk.u64_in _ (by omega)
  have HP := Lib.hid (put_any x m true w h0 (by unfold M64; omega) hm2 hm1)
  have HW := Lib.hid hw
  clear h1
  go_enter Tryd.func16, Tryd.ntmps16
  go_wp2_with (go_at_call 17; refine HP.out.mono ?_; rintro e w1 ⟨v1, rfl, hown1, hb1⟩)
  go_ret
  obtain ⟨g, cap, cur, rfl, _⟩ := own_open hown1 hm1
  exact ⟨g, cap, rfl, hown1, hb1⟩
theorem num_call (args : Array Value) (W : World) : (callFunc 16 args).run Tryd.prog W = .ok (.enter 16 args) W := by kernel_rfl

set_option maxRecDepth 100000 in
set_option maxHeartbeats 1000000 in
theorem ipput_no (tos id flags off ttl proto src dst : Int) (A1 A2 : Option Addr) (n1 c1 n2 c2 : Nat) (xs1 xs2 : List UInt8) (w : World) (h1 : n1 ≤ 140737488355328) (h2 : n2 ≤ 140737488355328) (hno : ¬ IpRight tos id flags off ttl proto n1 n2) :
    Calls Tryd.prog 7 #[.agg #[.int .i64 tos, .int .i64 id, .int .i64 flags, .int .i64 off, .int .i64 ttl, .int .i64 proto, .int .u32 src, .int .u32 dst, .slice A1 n1 c1, .slice A2 n2 c2]] w fun e w' => e = .returned (.tuple #[.slice none 0 0, .int .i64 2]) ∧ Below w.heap.size w w' := by
  have HR := fun W => ipright_any tos id flags off ttl proto src dst A1 A2 n1 c1 n2 c2 xs1 xs2 W h1 h2
  have hf : ipRightB tos id flags off ttl proto n1 n2 = false := decide_eq_false hno
  rw [hf] at HR
  have HRH := Lib.hid HR
  clear HR hf hno
  go_enter Tryd.func7, Tryd.ntmps7
  go_wp2_with fail
  refine (HRH.out _).mono ?_
  rintro e w1 ⟨rfl, hb1⟩
  go_wp2_with fail
  go_ret2
  exact ⟨rfl, below_then ((Below.refl _ _).alloc (Nat.le_refl _) _) (by simp) hb1⟩

/-- The header of a packet, its checksum not yet in its place. -/
def ipHead (tos id flags off ttl proto src dst : Int) (xs1 : List UInt8) (n2 : Nat) : List UInt8 :=
  beB (64 + ((20 + xs1.length : Nat) : Int) / 4) 1 ++ (beB tos 1 ++ (beB ((20 + xs1.length + n2 : Nat) : Int) 2 ++ (beB id 2 ++ (beB (flags * 8192 + off) 2 ++ (beB ttl 1 ++ (beB proto 1 ++ (beB 0 2 ++ (beB src 4 ++ (beB dst 4 ++ xs1)))))))))
/-- The bytes of a packet. -/
def ipPutF (tos id flags off ttl proto src dst : Int) (xs1 xs2 : List UInt8) : List UInt8 := patchF (ipHead tos id flags off ttl proto src dst xs1 xs2.length) 10 ++ xs2

set_option maxRecDepth 100000 in
set_option maxHeartbeats 16000000 in
theorem ipput_yes (tos id flags off ttl proto src dst : Int) (A1 A2 : Option Addr) (n1 c1 n2 c2 : Nat) (xs1 xs2 : List UInt8) (w : World) (hl1 : xs1.length = n1) (hl2 : xs2.length = n2) (hr1 : Reads w w.heap.size 1 A1 n1 (bytesV xs1)) (hr2 : Reads w w.heap.size 1 A2 n2 (bytesV xs2))
    (hc1 : n1 ≤ c1) (hc2 : n2 ≤ c2) (hm1 : c1 ≤ maxLen) (hm2 : c2 ≤ maxLen) (hok : IpRight tos id flags off ttl proto n1 n2) (hs : 0 ≤ src ∧ src < 4294967296) (hd : 0 ≤ dst ∧ dst < 4294967296) :
    Calls Tryd.prog 7 #[.agg #[.int .i64 tos, .int .i64 id, .int .i64 flags, .int .i64 off, .int .i64 ttl, .int .i64 proto, .int .u32 src, .int .u32 dst, .slice A1 n1 c1, .slice A2 n2 c2]] w fun e w' => ∃ v, e = .returned (.tuple #[v, .int .i64 0]) ∧ w'.ownsRow w.heap.size 5 1 v (20 + n1 + n2) (bytesV (ipPutF tos id flags off ttl proto src dst xs1 xs2)) ∧ Below w.heap.size w w' := by
  have HR := fun W => ipright_any tos id flags off ttl proto src dst A1 A2 n1 c1 n2 c2 xs1 xs2 W (by have := hok.2.2.2.2.2.2; omega) (by have := hok.2.2.2.2.2.2; omega)
  have hf : ipRightB tos id flags off ttl proto n1 n2 = true := decide_eq_true hok
  rw [hf] at HR
  have HRH := Lib.hid HR
  obtain ⟨⟨ht0, ht1⟩, ⟨htt0, htt1⟩, ⟨hp0, hp1⟩, ⟨hi0, hi1⟩, ⟨hf0, hf1⟩, ⟨ho0, ho1⟩, h40, h4, hmost⟩ := hok
  obtain ⟨hs0, hs1⟩ := hs
  obtain ⟨hd0, hd1⟩ := hd
  have HL1 := Lib.hid hl1
  have HL2 := Lib.hid hl2
  have HR1 := Lib.hid hr1
  have HR2 := Lib.hid hr2
  have hcf := num_call
  obtain ⟨q, hq⟩ : ∃ q, bits .or .i64 64 (IntKind.i64.wrap ((20 + (n1 : Int)).tdiv 4)) = q := ⟨_, rfl⟩
  obtain ⟨tl, htl⟩ : ∃ tl, IntKind.i64.wrap (20 + (n1 : Int) + n2) = tl := ⟨_, rfl⟩
  obtain ⟨fo, hfo⟩ : ∃ fo, bits .or .i64 (IntKind.i64.wrap (flags * 8192)) off = fo := ⟨_, rfl⟩
  have eq1 : q = 64 + ((20 + n1 : Nat) : Int) / 4 := by rw [← hq]; exact or_head n1 h40
  have eq2 : tl = ((20 + n1 + n2 : Nat) : Int) := by rw [← htl, IntWalk.i64_in _ (by omega)]; omega
  have eq3 : fo = flags * 8192 + off := by rw [← hfo, IntWalk.i64_in _ (by omega)]; exact or_flags flags off ⟨hf0, hf1⟩ ⟨ho0, ho1⟩
  have hcl : [beB q 1, beB tos 1, beB tl 2, beB id 2, beB fo 2, beB ttl 1, beB proto 1, beB 0 2, beB src 4, beB dst 4, xs1].flatten.length ≤ 140737488355328 := by
    simp [beB_length]; have := HL1.out; omega
  have HFL : Hid ([beB q 1, beB tos 1, beB tl 2, beB id 2, beB fo 2, beB ttl 1, beB proto 1, beB 0 2, beB src 4, beB dst 4, xs1].flatten.length = 20 + n1) := Lib.hid (by simp [beB_length]; have := HL1.out; omega)
  have HCL := Lib.hid hcl
  clear hcl
  have hq0 : 0 ≤ q ∧ q ≤ 255 := by omega
  have htl0 : 0 ≤ tl ∧ tl ≤ 65535 := by omega
  have hfo0 : 0 ≤ fo ∧ fo ≤ 65535 := by omega
  obtain ⟨hq0, hq1⟩ := hq0
  obtain ⟨htl0, htl1⟩ := htl0
  obtain ⟨hfo0, hfo1⟩ := hfo0
  have HE1 := Lib.hid eq1
  have HE2 := Lib.hid eq2
  have HE3 := Lib.hid eq3
  clear eq1 eq2 eq3
  have hws : IntKind.i64.wrap src = src := IntWalk.i64_in _ (by omega)
  have hwd : IntKind.i64.wrap dst = dst := IntWalk.i64_in _ (by omega)
  clear HR hf hl1 hl2 hr1 hr2
  go_enter Tryd.func7, Tryd.ntmps7
  go_wp2_with fail
  refine (HRH.out _).mono ?_
  rintro e w1 ⟨rfl, hb1⟩
  have hbox : Blk w1 w.heap.size 25 #[.int .i64 tos, .int .i64 id, .int .i64 flags, .int .i64 off, .int .i64 ttl, .int .i64 proto, .int .u32 src, .int .u32 dst, .slice A1 n1 c1, .slice A2 n2 c2] := (Blk.new w _ _).below hb1 (by simp)
  obtain ⟨gb, hgb⟩ : ∃ gb, gb = w.heap.size := ⟨_, rfl⟩
  have hb0 := below_then ((Below.refl w.heap.size w).alloc (Nat.le_refl _) _) (by simp) hb1
  have hgw : gb < w1.heap.size := by rw [hgb]; exact hbox.lt
  rw [← hgb] at hbox
  have HK : Hid (∀ W, Below w1.heap.size w1 W → Below w1.heap.size w1 W ∧ (W.cell? ⟨gb, 0, none⟩ = some (.int .i64 tos) ∧ W.cell? ⟨gb, 1, none⟩ = some (.int .i64 id) ∧ W.cell? ⟨gb, 2, none⟩ = some (.int .i64 flags) ∧ W.cell? ⟨gb, 3, none⟩ = some (.int .i64 off) ∧ W.cell? ⟨gb, 4, none⟩ = some (.int .i64 ttl) ∧ W.cell? ⟨gb, 5, none⟩ = some (.int .i64 proto) ∧ W.cell? ⟨gb, 6, none⟩ = some (.int .u32 src) ∧ W.cell? ⟨gb, 7, none⟩ = some (.int .u32 dst) ∧ W.cell? ⟨gb, 8, none⟩ = some (.slice A1 n1 c1) ∧ W.cell? ⟨gb, 9, none⟩ = some (.slice A2 n2 c2))) := Lib.hid fun W hW => by
    have h := hbox.below hW hgw
    exact ⟨hW, h.cell 0, h.cell 1, h.cell 2, h.cell 3, h.cell 4, h.cell 5, h.cell 6, h.cell 7, h.cell 8, h.cell 9⟩
  have HB0 := Lib.hid hb0
  have HGB := Lib.hid hgb
  have hc8 := hbox.cell 8
  clear hb1 HRH hb0 hbox
  rw [← hgb]
  clear hgb
  go_wp2_with fail
  go_cut [6] (fun s6 wx => ∃ hd12 g11 p11, s6 = .slice (some ⟨g11, 0, none⟩) (20 + n1) p11 ∧ [beB q 1, beB tos 1, beB tl 2, beB id 2, beB fo 2, beB ttl 1, beB proto 1, beB 0 2, beB src 4, beB dst 4, xs1].flatten = hd12 ∧ wx.ownsRow w1.heap.size 5 1 (.slice (some ⟨g11, 0, none⟩) (20 + n1) p11) (20 + n1) (bytesV hd12) ∧ Below w1.heap.size w1 wx)
  case first =>
--FIRST
    go_region_held3 (fun W => Below w1.heap.size w1 W ∧ W.cell? ⟨gb, 0, none⟩ = some (.int .i64 tos) ∧ W.cell? ⟨gb, 1, none⟩ = some (.int .i64 id) ∧ W.cell? ⟨gb, 2, none⟩ = some (.int .i64 flags) ∧ W.cell? ⟨gb, 3, none⟩ = some (.int .i64 off) ∧ W.cell? ⟨gb, 4, none⟩ = some (.int .i64 ttl) ∧ W.cell? ⟨gb, 5, none⟩ = some (.int .i64 proto) ∧ W.cell? ⟨gb, 6, none⟩ = some (.int .u32 src) ∧ W.cell? ⟨gb, 7, none⟩ = some (.int .u32 dst) ∧ W.cell? ⟨gb, 8, none⟩ = some (.slice A1 n1 c1) ∧ W.cell? ⟨gb, 9, none⟩ = some (.slice A2 n2 c2))
      (first | (with_reducible exact HK.out _ (Below.refl _ _).drew) | (with_reducible exact HK.out _ (by assumption)) | (with_reducible exact HK.out _ (hB10.alloc hB10.size _)))
      (first
        | (go_at_call 16; (with_reducible refine (num_any q 1 1 _ (by omega) (by omega) rfl (by omega) (by omega)).mono ?_); rintro e W1 ⟨g1, p1, rfl, hown1, hb1⟩; have hB1 := below_then ((Below.refl w1.heap.size w1).drew) (Below.size ((Below.refl w1.heap.size w1).drew)) hb1; have hR1 := RBs.snoc (RBs.below (RBs.nil w1.drew) hb1) (RB.of_own hown1); clear hown1 hb1)
        | (go_at_call 16; (with_reducible refine (num_any tos 1 1 _ (by omega) (by omega) rfl (by omega) (by omega)).mono ?_); rintro e W2 ⟨g2, p2, rfl, hown2, hb2⟩; have hB2 := below_then (hB1) (Below.size (hB1)) hb2; have hR2 := RBs.snoc (RBs.below hR1 hb2) (RB.of_own hown2); clear hown2 hb2)
        | (go_at_call 16; (with_reducible refine (num_any tl 2 2 _ (by omega) (by omega) rfl (by omega) (by omega)).mono ?_); rintro e W3 ⟨g3, p3, rfl, hown3, hb3⟩; have hB3 := below_then (hB2) (Below.size (hB2)) hb3; have hR3 := RBs.snoc (RBs.below hR2 hb3) (RB.of_own hown3); clear hown3 hb3)
        | (go_at_call 16; (with_reducible refine (num_any id 2 2 _ (by omega) (by omega) rfl (by omega) (by omega)).mono ?_); rintro e W4 ⟨g4, p4, rfl, hown4, hb4⟩; have hB4 := below_then (hB3) (Below.size (hB3)) hb4; have hR4 := RBs.snoc (RBs.below hR3 hb4) (RB.of_own hown4); clear hown4 hb4)
        | (go_at_call 16; (with_reducible refine (num_any fo 2 2 _ (by omega) (by omega) rfl (by omega) (by omega)).mono ?_); rintro e W5 ⟨g5, p5, rfl, hown5, hb5⟩; have hB5 := below_then (hB4) (Below.size (hB4)) hb5; have hR5 := RBs.snoc (RBs.below hR4 hb5) (RB.of_own hown5); clear hown5 hb5)
        | (go_at_call 16; (with_reducible refine (num_any ttl 1 1 _ (by omega) (by omega) rfl (by omega) (by omega)).mono ?_); rintro e W6 ⟨g6, p6, rfl, hown6, hb6⟩; have hB6 := below_then (hB5) (Below.size (hB5)) hb6; have hR6 := RBs.snoc (RBs.below hR5 hb6) (RB.of_own hown6); clear hown6 hb6)
        | (go_at_call 16; (with_reducible refine (num_any proto 1 1 _ (by omega) (by omega) rfl (by omega) (by omega)).mono ?_); rintro e W7 ⟨g7, p7, rfl, hown7, hb7⟩; have hB7 := below_then (hB6) (Below.size (hB6)) hb7; have hR7 := RBs.snoc (RBs.below hR6 hb7) (RB.of_own hown7); clear hown7 hb7)
        | (go_at_call 16; (with_reducible refine (num_any 0 2 2 _ (by omega) (by omega) rfl (by omega) (by omega)).mono ?_); rintro e W8 ⟨g8, p8, rfl, hown8, hb8⟩; have hB8 := below_then (hB7) (Below.size (hB7)) hb8; have hR8 := RBs.snoc (RBs.below hR7 hb8) (RB.of_own hown8); clear hown8 hb8)
        | (go_at_call 16; (with_reducible refine (num_any src 4 4 _ (by omega) (by omega) rfl (by omega) (by omega)).mono ?_); rintro e W9 ⟨g9, p9, rfl, hown9, hb9⟩; have hB9 := below_then (hB8) (Below.size (hB8)) hb9; have hR9 := RBs.snoc (RBs.below hR8 hb9) (RB.of_own hown9); clear hown9 hb9)
        | (go_at_call 16; (with_reducible refine (num_any dst 4 4 _ (by omega) (by omega) rfl (by omega) (by omega)).mono ?_); rintro e W10 ⟨g10, p10, rfl, hown10, hb10⟩; have hB10 := below_then (hB9) (Below.size (hB9)) hb10; have hR10 := RBs.snoc (RBs.below hR9 hb10) (RB.of_own hown10); clear hown10 hb10)
        | (go_at_call 18
           have hR11 := RBs.snoc hR10 (RB.below ⟨A1, n1, c1, rfl, HL1.out, hc1, hm1, HR1.out⟩ (below_then HB0.out HB0.out.size (hB10.mono (Nat.le_refl _))))
           have hlen11 : ([.slice (some ⟨g1, 0, none⟩) 1 p1, .slice (some ⟨g2, 0, none⟩) 1 p2, .slice (some ⟨g3, 0, none⟩) 2 p3, .slice (some ⟨g4, 0, none⟩) 2 p4, .slice (some ⟨g5, 0, none⟩) 2 p5, .slice (some ⟨g6, 0, none⟩) 1 p6, .slice (some ⟨g7, 0, none⟩) 1 p7, .slice (some ⟨g8, 0, none⟩) 2 p8, .slice (some ⟨g9, 0, none⟩) 4 p9, .slice (some ⟨g10, 0, none⟩) 4 p10, .slice A1 n1 c1] : List Value).length = 11 := rfl
           have hR12 : RBs W10 [.slice (some ⟨g1, 0, none⟩) 1 p1, .slice (some ⟨g2, 0, none⟩) 1 p2, .slice (some ⟨g3, 0, none⟩) 2 p3, .slice (some ⟨g4, 0, none⟩) 2 p4, .slice (some ⟨g5, 0, none⟩) 2 p5, .slice (some ⟨g6, 0, none⟩) 1 p6, .slice (some ⟨g7, 0, none⟩) 1 p7, .slice (some ⟨g8, 0, none⟩) 2 p8, .slice (some ⟨g9, 0, none⟩) 4 p9, .slice (some ⟨g10, 0, none⟩) 4 p10, .slice A1 n1 c1] [beB q 1, beB tos 1, beB tl 2, beB id 2, beB fo 2, beB ttl 1, beB proto 1, beB 0 2, beB src 4, beB dst 4, xs1] := hR11
           (with_reducible refine (concat_lit 11 11 [.slice (some ⟨g1, 0, none⟩) 1 p1, .slice (some ⟨g2, 0, none⟩) 1 p2, .slice (some ⟨g3, 0, none⟩) 2 p3, .slice (some ⟨g4, 0, none⟩) 2 p4, .slice (some ⟨g5, 0, none⟩) 2 p5, .slice (some ⟨g6, 0, none⟩) 1 p6, .slice (some ⟨g7, 0, none⟩) 1 p7, .slice (some ⟨g8, 0, none⟩) 2 p8, .slice (some ⟨g9, 0, none⟩) 4 p9, .slice (some ⟨g10, 0, none⟩) 4 p10, .slice A1 n1 c1] [beB q 1, beB tos 1, beB tl 2, beB id 2, beB fo 2, beB ttl 1, beB proto 1, beB 0 2, beB src 4, beB dst 4, xs1] W10 hR12 hlen11 rfl HCL.out (by omega)).mono ?_)
           rintro e W11 ⟨v11, rfl, hown11, hb11⟩
           have hfl := HFL.out
           rw [hfl] at hown11
           obtain ⟨g11, p11, cur11, rfl, _⟩ := own_open hown11 (by omega)
           have hB11 := below_then hB10 hB10.size hb11
           have hown12 := own_lower hown11 hB10.size
           clear hfl hown11))
    go_wp2_with fail
    go_meet
    exact ⟨_, g11, p11, rfl, rfl, hown12, hB11⟩
--ENDFIRST
  case rest =>
    obtain ⟨hd12, g11, p11, rfl, hhd12, hown11, hB11⟩ := hcut
    have hlen12 : hd12.length = 20 + n1 := by rw [← hhd12]; simp [beB_length]; have := HL1.out; omega
    obtain ⟨hnc11, hcm11⟩ := own_cap hown11
    have hrd11 := Reads.of_own hown11
    have HP := Lib.hid (fun (W : World) (hW : Below wc.heap.size wc W) => patch_lit (some ⟨g11, 0, none⟩) (20 + n1) p11 hd12 10 10 rfl W hlen12 hnc11 (by omega) ((hrd11.below hW).more hW.size) (by omega) (by decide))
    have HHD := Lib.hid hhd12
    have HLEN := Lib.hid hlen12
    obtain ⟨i0, hi0, hz0, hz1, hz2⟩ := info_parts u8_info
    have hmx : 20 + n1 + n2 ≤ maxLen := by simp only [maxLen]; omega
    have HK2 : Hid (∀ W, Below wc.heap.size wc W → Below wc.heap.size wc W ∧ W.cell? ⟨gb, 9, none⟩ = some (.slice A2 n2 c2)) := Lib.hid fun W hW =>
      ⟨hW, ((HK.out wc hB11).2.2.2.2.2.2.2.2.2.2 ▸ hW.cell (p := ⟨gb, 9, none⟩) (Nat.lt_of_lt_of_le hgw hB11.size))⟩
    have HB11 := Lib.hid hB11
    clear hown11 hhd12 hlen12 hrd11 HK
    go_wp2_with fail
    go_region_held3 (fun W => Below wc.heap.size wc W ∧ W.cell? ⟨gb, 9, none⟩ = some (.slice A2 n2 c2))
      (first | (with_reducible exact HK2.out _ (Below.refl _ _).drew) | (with_reducible exact HK2.out _ (by assumption)) | trace "keep failed")
      (first
        | (go_at_call 19; (with_reducible refine (HP.out _ (Below.refl _ _).drew).mono ?_); rintro e W12 ⟨v12, rfl, hown12, hb12⟩; have hB12 : Below wc.heap.size wc W12 := below_then (Below.refl wc.heap.size wc).drew (Nat.le_refl _) hb12)
        | (refine step_append_any _ rfl (.tmp 67) (.tmp 69) _ rfl w.heap.size 5 i0 _ 1 1 Tryd.underlying23 hi0 hz0 hz1 hz2 rfl (by omega) v12 (20 + n1) _ rfl (own_lower hown12 (Nat.le_trans HB0.out.size HB11.out.size)) _ A2 n2 c2 (bytesV xs2) rfl (by exact HR2.out.below (below_then (below_then HB0.out HB0.out.size HB11.out) (Nat.le_trans HB0.out.size HB11.out.size) hB12)) (bytesV_one _) hmx (by omega) (Nat.le_trans HB0.out.size (Nat.le_trans HB11.out.size hB12.size)) ?_
           intro v13 W13 hown13 hg13 hat13
           have hB13 : Below wc.heap.size wc W13 := hB12.grown hg13 hB12.size (fun k hk => own_base hown12 k hk)))
    go_wp2_with fail
    go_ret2
    refine ⟨v13, rfl, ?_, below_then (below_then HB0.out HB0.out.size HB11.out) (Nat.le_trans HB0.out.size HB11.out.size) hB13⟩
    have e : hd12 = ipHead tos id flags off ttl proto src dst xs1 xs2.length := by
      rw [← HHD.out, HE1.out, HE2.out, HE3.out]
      unfold ipHead
      rw [HL1.out, HL2.out]
      simp
    unfold ipPutF
    rw [← e, bytesV_append]
    exact hown13
end Go.Proofs.YtfkkjhfncmfahaaDoor
