/- Layer 17's page: Same, of a packet and its like. -/
import Derived.Test.YtfkkjhfncmfahaaDoorProg
import Derived.Test.YtfkkjhfncmfahaaDoorA0
import Derived.Test.YtfkkjhfncmfahaaDoorB0
import Derived.Test.YtfkkjhfncmfahaaDoorB1
import Derived.Test.YtfkkjhfncmfahaaDoorS1
import Derived.Test.YtfkkjhfncmfahaaDoorS2
import Derived.Test.YtfkkjhfncmfahaaDoorS3
import Derived.Test.YtfkkjhfncmfahaaDoorG2
import Derived.Test.YtfkkjhfncmfahaaDoorG3
import Derived.Test.YtfkkjhfncmfahaaDoorG4
import Derived.Test.YtfkkjhfncmfahaaDoorG6
import Derived.Test.YtfkkjhfncmfahaaDoorG7
import Derived.Deep.RegionHeld3
import Derived.Deep.DeepCutAuto
namespace Go.Proofs.YtfkkjhfncmfahaaDoor
open Go.RowKit Go.Deep

set_option maxRecDepth 100000 in
set_option maxHeartbeats 2000000 in
theorem refsame_one (ga gb ca cb : Nat) (a0 a1 a2 a3 a4 a5 a6 a7 : Int) (A8 A9 B8 B9 : Option Addr) (n8 n9 k8 k9 l8 l9 : Nat) (o d : List UInt8) (w : World)
    (ha : Blk w ga 25 #[.int .i64 a0, .int .i64 a1, .int .i64 a2, .int .i64 a3, .int .i64 a4, .int .i64 a5, .int .u32 a6, .int .u32 a7, .slice A8 n8 k8, .slice A9 n9 k9])
    (hb : Blk w gb 25 #[.int .i64 a0, .int .i64 a1, .int .i64 a2, .int .i64 a3, .int .i64 a4, .int .i64 a5, .int .u32 a6, .int .u32 a7, .slice B8 n8 l8, .slice B9 n9 l9])
    (ho : o.length = n8) (hd : d.length = n9) (h1 : Reads w w.heap.size 1 A8 n8 (bytesV o)) (h2 : Reads w w.heap.size 1 A9 n9 (bytesV d)) (h3 : Reads w w.heap.size 1 B8 n8 (bytesV o)) (h4 : Reads w w.heap.size 1 B9 n9 (bytesV d)) :
    Calls Tryd.prog 12 #[.slice (some ⟨ga, 0, none⟩) 1 ca, .slice (some ⟨gb, 0, none⟩) 1 cb] w fun e w' => e = .returned (.bool true) ∧ Below w.heap.size w w' := by
  have HA := Lib.hid ha
  have HB := Lib.hid hb
  have HO := Lib.hid ho
  have HD := Lib.hid hd
  have H1 := Lib.hid h1
  have H2 := Lib.hid h2
  have H3 := Lib.hid h3
  have H4 := Lib.hid h4
  have hal := ha.lt
  have hbl := hb.lt
  clear ha hb ho hd h1 h2 h3 h4
  go_enter Tryd.func12, Tryd.ntmps12
  go_wp2_with fail
  go_loopw [5] (fun i wr => (i = .int .i64 0 ∨ i = .int .i64 1) ∧ Below w.heap.size w wr) (fun i _ => 1 - (intOf i).toNat)
  case atStart => exact ⟨.inl rfl, Below.refl _ _⟩
  case round =>
    obtain ⟨rfl | rfl, hbel⟩ := hrel
    · have ha := HA.out.below hbel hal
      have hb := HB.out.below hbel hbl
      go_wp2_with fail
      have hwr : w.heap.size ≤ wr.heap.size := hbel.size
      have HBEL := Lib.hid hbel
      have HA2 := Lib.hid ha
      have HB2 := Lib.hid hb
      clear hbel ha hb
      go_cut [6, 7] (fun s6 s7 wx => ∃ gx gy, s6 = .pointer (some ⟨gx, 0, none⟩) ∧ s7 = .pointer (some ⟨gy, 0, none⟩) ∧ Blk wx gx 25 #[.int .i64 a0, .int .i64 a1, .int .i64 a2, .int .i64 a3, .int .i64 a4, .int .i64 a5, .int .u32 a6, .int .u32 a7, .slice A8 n8 k8, .slice A9 n9 k9] ∧ Blk wx gy 25 #[.int .i64 a0, .int .i64 a1, .int .i64 a2, .int .i64 a3, .int .i64 a4, .int .i64 a5, .int .u32 a6, .int .u32 a7, .slice B8 n8 l8, .slice B9 n9 l9] ∧ Below w.heap.size w wx)
      case first =>
        have ha := HA2.out
        have hb := HB2.out
        have hal2 := ha.lt
        have hbl2 := hb.lt
        have hz1 : Blk ((wr.alloc (.cells #[.int .i64 0, .int .i64 0, .int .i64 0, .int .i64 0, .int .i64 0, .int .i64 0, .int .u32 0, .int .u32 0, .slice none 0 0, .slice none 0 0] 25)).alloc (.cells #[.int .i64 0, .int .i64 0, .int .i64 0, .int .i64 0, .int .i64 0, .int .i64 0, .int .u32 0, .int .u32 0, .slice none 0 0, .slice none 0 0] 25)) wr.heap.size 25 #[.int .i64 0, .int .i64 0, .int .i64 0, .int .i64 0, .int .i64 0, .int .i64 0, .int .u32 0, .int .u32 0, .slice none 0 0, .slice none 0 0] := (Blk.new wr _ _).alloc _
        have hz2 : Blk ((wr.alloc (.cells #[.int .i64 0, .int .i64 0, .int .i64 0, .int .i64 0, .int .i64 0, .int .i64 0, .int .u32 0, .int .u32 0, .slice none 0 0, .slice none 0 0] 25)).alloc (.cells #[.int .i64 0, .int .i64 0, .int .i64 0, .int .i64 0, .int .i64 0, .int .i64 0, .int .u32 0, .int .u32 0, .slice none 0 0, .slice none 0 0] 25)) (wr.heap.size + 1) 25 #[.int .i64 0, .int .i64 0, .int .i64 0, .int .i64 0, .int .i64 0, .int .i64 0, .int .u32 0, .int .u32 0, .slice none 0 0, .slice none 0 0] := Blk.new' (by simp)
        have ha1 := ha.alloc (.cells #[.int .i64 0, .int .i64 0, .int .i64 0, .int .i64 0, .int .i64 0, .int .i64 0, .int .u32 0, .int .u32 0, .slice none 0 0, .slice none 0 0] 25)
        have hb1 := hb.alloc (.cells #[.int .i64 0, .int .i64 0, .int .i64 0, .int .i64 0, .int .i64 0, .int .i64 0, .int .u32 0, .int .u32 0, .slice none 0 0, .slice none 0 0] 25)
        have ha2 := ha1.alloc (.cells #[.int .i64 0, .int .i64 0, .int .i64 0, .int .i64 0, .int .i64 0, .int .i64 0, .int .u32 0, .int .u32 0, .slice none 0 0, .slice none 0 0] 25)
        have hb2 := hb1.alloc (.cells #[.int .i64 0, .int .i64 0, .int .i64 0, .int .i64 0, .int .i64 0, .int .i64 0, .int .u32 0, .int .u32 0, .slice none 0 0, .slice none 0 0] 25)
        have hBW2 : Below w.heap.size w ((wr.alloc (.cells #[.int .i64 0, .int .i64 0, .int .i64 0, .int .i64 0, .int .i64 0, .int .i64 0, .int .u32 0, .int .u32 0, .slice none 0 0, .slice none 0 0] 25)).alloc (.cells #[.int .i64 0, .int .i64 0, .int .i64 0, .int .i64 0, .int .i64 0, .int .i64 0, .int .u32 0, .int .u32 0, .slice none 0 0, .slice none 0 0] 25)) := (HBEL.out.alloc hwr _).alloc (by simp; omega) _
        obtain ⟨gn, hgn⟩ : ∃ gn, gn = wr.heap.size := ⟨_, rfl⟩
        refine wp_region_noPanic ?_
        refine wp_region_held_drew (S := fun W => Blk W ga 25 #[.int .i64 a0, .int .i64 a1, .int .i64 a2, .int .i64 a3, .int .i64 a4, .int .i64 a5, .int .u32 a6, .int .u32 a7, .slice A8 n8 k8, .slice A9 n9 k9] ∧ Blk W gb 25 #[.int .i64 a0, .int .i64 a1, .int .i64 a2, .int .i64 a3, .int .i64 a4, .int .i64 a5, .int .u32 a6, .int .u32 a7, .slice B8 n8 l8, .slice B9 n9 l9]) (by kernel_rfl) ⟨ha, hb⟩ (fun hS => ?_)
        refine wpAnyH_take (i := 0) (v := _) rfl (by kernel_rfl) (by kernel_rfl) (by kernel_rfl) (fun _ _ _ h => h) (Or.inl ⟨by rfl, fun w hSw => rfl⟩) hS ?_
        try simp only [Act.put, List.setIfInBounds_toArray, List.set_cons_zero, List.set_cons_succ]
        refine wpAnyH_take (i := 1) (v := _) rfl (by kernel_rfl) (by kernel_rfl) (by kernel_rfl) (fun _ _ _ h => h) (Or.inl ⟨by rfl, fun w hSw => rfl⟩) hS ?_
        try simp only [Act.put, List.setIfInBounds_toArray, List.set_cons_zero, List.set_cons_succ]
        refine wpAnyH_take (i := 2) (v := ?_) rfl (by kernel_rfl) (by kernel_rfl) (by kernel_rfl) (fun _ _ _ h => h) (Or.inl ⟨by rfl, ?_⟩) hS ?_
        rotate_left
        · intro w hSw
          go_simp
          with_reducible rfl
        try simp only [Act.put, List.setIfInBounds_toArray, List.set_cons_zero, List.set_cons_succ]
        refine wpAnyH_take (i := 3) (v := _) rfl (by kernel_rfl) (by kernel_rfl) (by kernel_rfl) (fun _ _ _ h => h) (yieldsIf_load_row (by rfl) 25 (.tmp 21) rfl ga rfl 25 _ _ (fun _ h => h.1) Tryd.underlying25 rfl ip_info) hS ?_
        try simp only [Act.put, List.setIfInBounds_toArray, List.set_cons_zero, List.set_cons_succ]
        refine wpAnyH_take (i := 4) (v := _) rfl (by kernel_rfl) (by kernel_rfl) (by kernel_rfl) (fun _ _ _ h => h) (Or.inl ⟨by rfl, fun w hSw => rfl⟩) hS ?_
        try simp only [Act.put, List.setIfInBounds_toArray, List.set_cons_zero, List.set_cons_succ]
        refine wpAnyH_take (i := 5) (v := _) rfl (by kernel_rfl) (by kernel_rfl) (by kernel_rfl) (fun _ _ _ h => h) (Or.inl ⟨by rfl, fun w hSw => rfl⟩) hS ?_
        try simp only [Act.put, List.setIfInBounds_toArray, List.set_cons_zero, List.set_cons_succ]
        refine wpAnyH_take (i := 6) (v := ?_) rfl (by kernel_rfl) (by kernel_rfl) (by kernel_rfl) (fun _ _ _ h => h) (Or.inl ⟨by rfl, ?_⟩) hS ?_
        rotate_left
        · intro w hSw
          go_simp
          with_reducible rfl
        try simp only [Act.put, List.setIfInBounds_toArray, List.set_cons_zero, List.set_cons_succ]
        refine wpAnyH_take (i := 7) (v := _) rfl (by kernel_rfl) (by kernel_rfl) (by kernel_rfl) (fun _ _ _ h => h) (yieldsIf_load_row (by rfl) 25 (.tmp 25) rfl gb rfl 25 _ _ (fun _ h => h.2) Tryd.underlying25 rfl ip_info) hS ?_
        try simp only [Act.put, List.setIfInBounds_toArray, List.set_cons_zero, List.set_cons_succ]
        refine wpAnyH_ready (rs := [8, 9]) (by kernel_rfl) (by simp) (AllReadyH.cons rfl (fun K hK => ?_) (AllReadyH.cons rfl (fun K hK => ?_) AllReadyH.nil))
        · rw [if_pos (by rfl)]
          go_simp
          refine hK.out _ _ ⟨ha1, hb1⟩ (fun _ => ?_)
          clear hK K
          try simp only [Act.put, List.setIfInBounds_toArray, List.set_cons_zero, List.set_cons_succ]
          refine wpAnyH_ready (rs := [9]) (by kernel_rfl) (by simp) (AllReadyH.cons rfl (fun K hK => ?_) AllReadyH.nil)
          rw [if_pos (by rfl)]
          go_simp
          refine hK.out _ _ ⟨ha2, hb2⟩ (fun _ => ?_)
          clear hK K
          try simp only [Act.put, List.setIfInBounds_toArray, List.set_cons_zero, List.set_cons_succ]
          refine wpAnyH_ready (rs := [10]) (by kernel_rfl) (by simp) (AllReadyH.cons rfl (fun K hK => ?_) AllReadyH.nil)
          rw [if_pos (by rfl)]
          refine wp_store_row 25 (.tmp 6) (.tmp 22) rfl wr.heap.size #[.int .i64 a0, .int .i64 a1, .int .i64 a2, .int .i64 a3, .int .i64 a4, .int .i64 a5, .int .u32 a6, .int .u32 a7, .slice A8 n8 k8, .slice A9 n9 k9] rfl rfl 25 #[.int .i64 0, .int .i64 0, .int .i64 0, .int .i64 0, .int .i64 0, .int .i64 0, .int .u32 0, .int .u32 0, .slice none 0 0, .slice none 0 0] hz1 ip_info rfl (by simp [Value.oneCell']) ?_
          have hx3 : Blk (((wr.alloc (.cells #[.int .i64 0, .int .i64 0, .int .i64 0, .int .i64 0, .int .i64 0, .int .i64 0, .int .u32 0, .int .u32 0, .slice none 0 0, .slice none 0 0] 25)).alloc (.cells #[.int .i64 0, .int .i64 0, .int .i64 0, .int .i64 0, .int .i64 0, .int .i64 0, .int .u32 0, .int .u32 0, .slice none 0 0, .slice none 0 0] 25)).setRow wr.heap.size #[.int .i64 a0, .int .i64 a1, .int .i64 a2, .int .i64 a3, .int .i64 a4, .int .i64 a5, .int .u32 a6, .int .u32 a7, .slice A8 n8 k8, .slice A9 n9 k9]) wr.heap.size 25 #[.int .i64 a0, .int .i64 a1, .int .i64 a2, .int .i64 a3, .int .i64 a4, .int .i64 a5, .int .u32 a6, .int .u32 a7, .slice A8 n8 k8, .slice A9 n9 k9] := setRow_heap _ _ _ _ _ _ hz1
          have hy3 : Blk (((wr.alloc (.cells #[.int .i64 0, .int .i64 0, .int .i64 0, .int .i64 0, .int .i64 0, .int .i64 0, .int .u32 0, .int .u32 0, .slice none 0 0, .slice none 0 0] 25)).alloc (.cells #[.int .i64 0, .int .i64 0, .int .i64 0, .int .i64 0, .int .i64 0, .int .i64 0, .int .u32 0, .int .u32 0, .slice none 0 0, .slice none 0 0] 25)).setRow wr.heap.size #[.int .i64 a0, .int .i64 a1, .int .i64 a2, .int .i64 a3, .int .i64 a4, .int .i64 a5, .int .u32 a6, .int .u32 a7, .slice A8 n8 k8, .slice A9 n9 k9]) (wr.heap.size + 1) 25 #[.int .i64 0, .int .i64 0, .int .i64 0, .int .i64 0, .int .i64 0, .int .i64 0, .int .u32 0, .int .u32 0, .slice none 0 0, .slice none 0 0] := (setRow_other _ _ _ _ (by omega)).trans hz2
          have ha3 : Blk (((wr.alloc (.cells #[.int .i64 0, .int .i64 0, .int .i64 0, .int .i64 0, .int .i64 0, .int .i64 0, .int .u32 0, .int .u32 0, .slice none 0 0, .slice none 0 0] 25)).alloc (.cells #[.int .i64 0, .int .i64 0, .int .i64 0, .int .i64 0, .int .i64 0, .int .i64 0, .int .u32 0, .int .u32 0, .slice none 0 0, .slice none 0 0] 25)).setRow wr.heap.size #[.int .i64 a0, .int .i64 a1, .int .i64 a2, .int .i64 a3, .int .i64 a4, .int .i64 a5, .int .u32 a6, .int .u32 a7, .slice A8 n8 k8, .slice A9 n9 k9]) ga 25 #[.int .i64 a0, .int .i64 a1, .int .i64 a2, .int .i64 a3, .int .i64 a4, .int .i64 a5, .int .u32 a6, .int .u32 a7, .slice A8 n8 k8, .slice A9 n9 k9] := (setRow_other _ _ _ _ (by omega)).trans ha2
          have hb3 : Blk (((wr.alloc (.cells #[.int .i64 0, .int .i64 0, .int .i64 0, .int .i64 0, .int .i64 0, .int .i64 0, .int .u32 0, .int .u32 0, .slice none 0 0, .slice none 0 0] 25)).alloc (.cells #[.int .i64 0, .int .i64 0, .int .i64 0, .int .i64 0, .int .i64 0, .int .i64 0, .int .u32 0, .int .u32 0, .slice none 0 0, .slice none 0 0] 25)).setRow wr.heap.size #[.int .i64 a0, .int .i64 a1, .int .i64 a2, .int .i64 a3, .int .i64 a4, .int .i64 a5, .int .u32 a6, .int .u32 a7, .slice A8 n8 k8, .slice A9 n9 k9]) gb 25 #[.int .i64 a0, .int .i64 a1, .int .i64 a2, .int .i64 a3, .int .i64 a4, .int .i64 a5, .int .u32 a6, .int .u32 a7, .slice B8 n8 l8, .slice B9 n9 l9] := (setRow_other _ _ _ _ (by omega)).trans hb2
          refine hK.out _ _ ⟨ha3, hb3⟩ (fun _ => ?_)
          clear hK K
          try simp only [Act.put, List.setIfInBounds_toArray, List.set_cons_zero, List.set_cons_succ]
          refine wpAnyH_ready (rs := [11]) (by kernel_rfl) (by simp) (AllReadyH.cons rfl (fun K hK => ?_) AllReadyH.nil)
          rw [if_pos (by rfl)]
          refine wp_store_row 25 (.tmp 7) (.tmp 26) rfl (wr.heap.size + 1) #[.int .i64 a0, .int .i64 a1, .int .i64 a2, .int .i64 a3, .int .i64 a4, .int .i64 a5, .int .u32 a6, .int .u32 a7, .slice B8 n8 l8, .slice B9 n9 l9] rfl rfl 25 #[.int .i64 0, .int .i64 0, .int .i64 0, .int .i64 0, .int .i64 0, .int .i64 0, .int .u32 0, .int .u32 0, .slice none 0 0, .slice none 0 0] hy3 ip_info rfl (by simp [Value.oneCell']) ?_
          have hy4 : Blk ((((wr.alloc (.cells #[.int .i64 0, .int .i64 0, .int .i64 0, .int .i64 0, .int .i64 0, .int .i64 0, .int .u32 0, .int .u32 0, .slice none 0 0, .slice none 0 0] 25)).alloc (.cells #[.int .i64 0, .int .i64 0, .int .i64 0, .int .i64 0, .int .i64 0, .int .i64 0, .int .u32 0, .int .u32 0, .slice none 0 0, .slice none 0 0] 25)).setRow wr.heap.size #[.int .i64 a0, .int .i64 a1, .int .i64 a2, .int .i64 a3, .int .i64 a4, .int .i64 a5, .int .u32 a6, .int .u32 a7, .slice A8 n8 k8, .slice A9 n9 k9]).setRow (wr.heap.size + 1) #[.int .i64 a0, .int .i64 a1, .int .i64 a2, .int .i64 a3, .int .i64 a4, .int .i64 a5, .int .u32 a6, .int .u32 a7, .slice B8 n8 l8, .slice B9 n9 l9]) (wr.heap.size + 1) 25 #[.int .i64 a0, .int .i64 a1, .int .i64 a2, .int .i64 a3, .int .i64 a4, .int .i64 a5, .int .u32 a6, .int .u32 a7, .slice B8 n8 l8, .slice B9 n9 l9] := setRow_heap _ _ _ _ _ _ hy3
          have hx4 : Blk ((((wr.alloc (.cells #[.int .i64 0, .int .i64 0, .int .i64 0, .int .i64 0, .int .i64 0, .int .i64 0, .int .u32 0, .int .u32 0, .slice none 0 0, .slice none 0 0] 25)).alloc (.cells #[.int .i64 0, .int .i64 0, .int .i64 0, .int .i64 0, .int .i64 0, .int .i64 0, .int .u32 0, .int .u32 0, .slice none 0 0, .slice none 0 0] 25)).setRow wr.heap.size #[.int .i64 a0, .int .i64 a1, .int .i64 a2, .int .i64 a3, .int .i64 a4, .int .i64 a5, .int .u32 a6, .int .u32 a7, .slice A8 n8 k8, .slice A9 n9 k9]).setRow (wr.heap.size + 1) #[.int .i64 a0, .int .i64 a1, .int .i64 a2, .int .i64 a3, .int .i64 a4, .int .i64 a5, .int .u32 a6, .int .u32 a7, .slice B8 n8 l8, .slice B9 n9 l9]) wr.heap.size 25 #[.int .i64 a0, .int .i64 a1, .int .i64 a2, .int .i64 a3, .int .i64 a4, .int .i64 a5, .int .u32 a6, .int .u32 a7, .slice A8 n8 k8, .slice A9 n9 k9] := (setRow_other _ _ _ _ (by omega)).trans hx3
          have ha4 : Blk ((((wr.alloc (.cells #[.int .i64 0, .int .i64 0, .int .i64 0, .int .i64 0, .int .i64 0, .int .i64 0, .int .u32 0, .int .u32 0, .slice none 0 0, .slice none 0 0] 25)).alloc (.cells #[.int .i64 0, .int .i64 0, .int .i64 0, .int .i64 0, .int .i64 0, .int .i64 0, .int .u32 0, .int .u32 0, .slice none 0 0, .slice none 0 0] 25)).setRow wr.heap.size #[.int .i64 a0, .int .i64 a1, .int .i64 a2, .int .i64 a3, .int .i64 a4, .int .i64 a5, .int .u32 a6, .int .u32 a7, .slice A8 n8 k8, .slice A9 n9 k9]).setRow (wr.heap.size + 1) #[.int .i64 a0, .int .i64 a1, .int .i64 a2, .int .i64 a3, .int .i64 a4, .int .i64 a5, .int .u32 a6, .int .u32 a7, .slice B8 n8 l8, .slice B9 n9 l9]) ga 25 #[.int .i64 a0, .int .i64 a1, .int .i64 a2, .int .i64 a3, .int .i64 a4, .int .i64 a5, .int .u32 a6, .int .u32 a7, .slice A8 n8 k8, .slice A9 n9 k9] := (setRow_other _ _ _ _ (by omega)).trans ha3
          have hb4 : Blk ((((wr.alloc (.cells #[.int .i64 0, .int .i64 0, .int .i64 0, .int .i64 0, .int .i64 0, .int .i64 0, .int .u32 0, .int .u32 0, .slice none 0 0, .slice none 0 0] 25)).alloc (.cells #[.int .i64 0, .int .i64 0, .int .i64 0, .int .i64 0, .int .i64 0, .int .i64 0, .int .u32 0, .int .u32 0, .slice none 0 0, .slice none 0 0] 25)).setRow wr.heap.size #[.int .i64 a0, .int .i64 a1, .int .i64 a2, .int .i64 a3, .int .i64 a4, .int .i64 a5, .int .u32 a6, .int .u32 a7, .slice A8 n8 k8, .slice A9 n9 k9]).setRow (wr.heap.size + 1) #[.int .i64 a0, .int .i64 a1, .int .i64 a2, .int .i64 a3, .int .i64 a4, .int .i64 a5, .int .u32 a6, .int .u32 a7, .slice B8 n8 l8, .slice B9 n9 l9]) gb 25 #[.int .i64 a0, .int .i64 a1, .int .i64 a2, .int .i64 a3, .int .i64 a4, .int .i64 a5, .int .u32 a6, .int .u32 a7, .slice B8 n8 l8, .slice B9 n9 l9] := (setRow_other _ _ _ _ (by omega)).trans hb3
          have hB4 : Below w.heap.size w ((((wr.alloc (.cells #[.int .i64 0, .int .i64 0, .int .i64 0, .int .i64 0, .int .i64 0, .int .i64 0, .int .u32 0, .int .u32 0, .slice none 0 0, .slice none 0 0] 25)).alloc (.cells #[.int .i64 0, .int .i64 0, .int .i64 0, .int .i64 0, .int .i64 0, .int .i64 0, .int .u32 0, .int .u32 0, .slice none 0 0, .slice none 0 0] 25)).setRow wr.heap.size #[.int .i64 a0, .int .i64 a1, .int .i64 a2, .int .i64 a3, .int .i64 a4, .int .i64 a5, .int .u32 a6, .int .u32 a7, .slice A8 n8 k8, .slice A9 n9 k9]).setRow (wr.heap.size + 1) #[.int .i64 a0, .int .i64 a1, .int .i64 a2, .int .i64 a3, .int .i64 a4, .int .i64 a5, .int .u32 a6, .int .u32 a7, .slice B8 n8 l8, .slice B9 n9 l9]) := below_setRow (below_setRow hBW2 (by omega) _) (by omega) _
          refine hK.out _ _ ⟨ha4, hb4⟩ (fun _ => ?_)
          clear hK K
          try simp only [Act.put, List.setIfInBounds_toArray, List.set_cons_zero, List.set_cons_succ]
          refine wpAnyH_done (by kernel_rfl) ?_ _
          refine NoPanic.normal ?_
          go_wp2_with fail
          go_meet
          exact ⟨wr.heap.size, (wr.heap.size + 1), rfl, rfl, hx4, hy4, ⟨hB4.os, hB4.tape, hB4.output, hB4.size, hB4.block⟩⟩
        · rw [if_pos (by rfl)]
          go_simp
          refine hK.out _ _ ⟨ha1, hb1⟩ (fun _ => ?_)
          clear hK K
          try simp only [Act.put, List.setIfInBounds_toArray, List.set_cons_zero, List.set_cons_succ]
          refine wpAnyH_ready (rs := [8]) (by kernel_rfl) (by simp) (AllReadyH.cons rfl (fun K hK => ?_) AllReadyH.nil)
          rw [if_pos (by rfl)]
          go_simp
          refine hK.out _ _ ⟨ha2, hb2⟩ (fun _ => ?_)
          clear hK K
          try simp only [Act.put, List.setIfInBounds_toArray, List.set_cons_zero, List.set_cons_succ]
          refine wpAnyH_ready (rs := [10]) (by kernel_rfl) (by simp) (AllReadyH.cons rfl (fun K hK => ?_) AllReadyH.nil)
          rw [if_pos (by rfl)]
          refine wp_store_row 25 (.tmp 6) (.tmp 22) rfl (wr.heap.size + 1) #[.int .i64 a0, .int .i64 a1, .int .i64 a2, .int .i64 a3, .int .i64 a4, .int .i64 a5, .int .u32 a6, .int .u32 a7, .slice A8 n8 k8, .slice A9 n9 k9] rfl rfl 25 #[.int .i64 0, .int .i64 0, .int .i64 0, .int .i64 0, .int .i64 0, .int .i64 0, .int .u32 0, .int .u32 0, .slice none 0 0, .slice none 0 0] hz2 ip_info rfl (by simp [Value.oneCell']) ?_
          have hx3 : Blk (((wr.alloc (.cells #[.int .i64 0, .int .i64 0, .int .i64 0, .int .i64 0, .int .i64 0, .int .i64 0, .int .u32 0, .int .u32 0, .slice none 0 0, .slice none 0 0] 25)).alloc (.cells #[.int .i64 0, .int .i64 0, .int .i64 0, .int .i64 0, .int .i64 0, .int .i64 0, .int .u32 0, .int .u32 0, .slice none 0 0, .slice none 0 0] 25)).setRow (wr.heap.size + 1) #[.int .i64 a0, .int .i64 a1, .int .i64 a2, .int .i64 a3, .int .i64 a4, .int .i64 a5, .int .u32 a6, .int .u32 a7, .slice A8 n8 k8, .slice A9 n9 k9]) (wr.heap.size + 1) 25 #[.int .i64 a0, .int .i64 a1, .int .i64 a2, .int .i64 a3, .int .i64 a4, .int .i64 a5, .int .u32 a6, .int .u32 a7, .slice A8 n8 k8, .slice A9 n9 k9] := setRow_heap _ _ _ _ _ _ hz2
          have hy3 : Blk (((wr.alloc (.cells #[.int .i64 0, .int .i64 0, .int .i64 0, .int .i64 0, .int .i64 0, .int .i64 0, .int .u32 0, .int .u32 0, .slice none 0 0, .slice none 0 0] 25)).alloc (.cells #[.int .i64 0, .int .i64 0, .int .i64 0, .int .i64 0, .int .i64 0, .int .i64 0, .int .u32 0, .int .u32 0, .slice none 0 0, .slice none 0 0] 25)).setRow (wr.heap.size + 1) #[.int .i64 a0, .int .i64 a1, .int .i64 a2, .int .i64 a3, .int .i64 a4, .int .i64 a5, .int .u32 a6, .int .u32 a7, .slice A8 n8 k8, .slice A9 n9 k9]) wr.heap.size 25 #[.int .i64 0, .int .i64 0, .int .i64 0, .int .i64 0, .int .i64 0, .int .i64 0, .int .u32 0, .int .u32 0, .slice none 0 0, .slice none 0 0] := (setRow_other _ _ _ _ (by omega)).trans hz1
          have ha3 : Blk (((wr.alloc (.cells #[.int .i64 0, .int .i64 0, .int .i64 0, .int .i64 0, .int .i64 0, .int .i64 0, .int .u32 0, .int .u32 0, .slice none 0 0, .slice none 0 0] 25)).alloc (.cells #[.int .i64 0, .int .i64 0, .int .i64 0, .int .i64 0, .int .i64 0, .int .i64 0, .int .u32 0, .int .u32 0, .slice none 0 0, .slice none 0 0] 25)).setRow (wr.heap.size + 1) #[.int .i64 a0, .int .i64 a1, .int .i64 a2, .int .i64 a3, .int .i64 a4, .int .i64 a5, .int .u32 a6, .int .u32 a7, .slice A8 n8 k8, .slice A9 n9 k9]) ga 25 #[.int .i64 a0, .int .i64 a1, .int .i64 a2, .int .i64 a3, .int .i64 a4, .int .i64 a5, .int .u32 a6, .int .u32 a7, .slice A8 n8 k8, .slice A9 n9 k9] := (setRow_other _ _ _ _ (by omega)).trans ha2
          have hb3 : Blk (((wr.alloc (.cells #[.int .i64 0, .int .i64 0, .int .i64 0, .int .i64 0, .int .i64 0, .int .i64 0, .int .u32 0, .int .u32 0, .slice none 0 0, .slice none 0 0] 25)).alloc (.cells #[.int .i64 0, .int .i64 0, .int .i64 0, .int .i64 0, .int .i64 0, .int .i64 0, .int .u32 0, .int .u32 0, .slice none 0 0, .slice none 0 0] 25)).setRow (wr.heap.size + 1) #[.int .i64 a0, .int .i64 a1, .int .i64 a2, .int .i64 a3, .int .i64 a4, .int .i64 a5, .int .u32 a6, .int .u32 a7, .slice A8 n8 k8, .slice A9 n9 k9]) gb 25 #[.int .i64 a0, .int .i64 a1, .int .i64 a2, .int .i64 a3, .int .i64 a4, .int .i64 a5, .int .u32 a6, .int .u32 a7, .slice B8 n8 l8, .slice B9 n9 l9] := (setRow_other _ _ _ _ (by omega)).trans hb2
          refine hK.out _ _ ⟨ha3, hb3⟩ (fun _ => ?_)
          clear hK K
          try simp only [Act.put, List.setIfInBounds_toArray, List.set_cons_zero, List.set_cons_succ]
          refine wpAnyH_ready (rs := [11]) (by kernel_rfl) (by simp) (AllReadyH.cons rfl (fun K hK => ?_) AllReadyH.nil)
          rw [if_pos (by rfl)]
          refine wp_store_row 25 (.tmp 7) (.tmp 26) rfl wr.heap.size #[.int .i64 a0, .int .i64 a1, .int .i64 a2, .int .i64 a3, .int .i64 a4, .int .i64 a5, .int .u32 a6, .int .u32 a7, .slice B8 n8 l8, .slice B9 n9 l9] rfl rfl 25 #[.int .i64 0, .int .i64 0, .int .i64 0, .int .i64 0, .int .i64 0, .int .i64 0, .int .u32 0, .int .u32 0, .slice none 0 0, .slice none 0 0] hy3 ip_info rfl (by simp [Value.oneCell']) ?_
          have hy4 : Blk ((((wr.alloc (.cells #[.int .i64 0, .int .i64 0, .int .i64 0, .int .i64 0, .int .i64 0, .int .i64 0, .int .u32 0, .int .u32 0, .slice none 0 0, .slice none 0 0] 25)).alloc (.cells #[.int .i64 0, .int .i64 0, .int .i64 0, .int .i64 0, .int .i64 0, .int .i64 0, .int .u32 0, .int .u32 0, .slice none 0 0, .slice none 0 0] 25)).setRow (wr.heap.size + 1) #[.int .i64 a0, .int .i64 a1, .int .i64 a2, .int .i64 a3, .int .i64 a4, .int .i64 a5, .int .u32 a6, .int .u32 a7, .slice A8 n8 k8, .slice A9 n9 k9]).setRow wr.heap.size #[.int .i64 a0, .int .i64 a1, .int .i64 a2, .int .i64 a3, .int .i64 a4, .int .i64 a5, .int .u32 a6, .int .u32 a7, .slice B8 n8 l8, .slice B9 n9 l9]) wr.heap.size 25 #[.int .i64 a0, .int .i64 a1, .int .i64 a2, .int .i64 a3, .int .i64 a4, .int .i64 a5, .int .u32 a6, .int .u32 a7, .slice B8 n8 l8, .slice B9 n9 l9] := setRow_heap _ _ _ _ _ _ hy3
          have hx4 : Blk ((((wr.alloc (.cells #[.int .i64 0, .int .i64 0, .int .i64 0, .int .i64 0, .int .i64 0, .int .i64 0, .int .u32 0, .int .u32 0, .slice none 0 0, .slice none 0 0] 25)).alloc (.cells #[.int .i64 0, .int .i64 0, .int .i64 0, .int .i64 0, .int .i64 0, .int .i64 0, .int .u32 0, .int .u32 0, .slice none 0 0, .slice none 0 0] 25)).setRow (wr.heap.size + 1) #[.int .i64 a0, .int .i64 a1, .int .i64 a2, .int .i64 a3, .int .i64 a4, .int .i64 a5, .int .u32 a6, .int .u32 a7, .slice A8 n8 k8, .slice A9 n9 k9]).setRow wr.heap.size #[.int .i64 a0, .int .i64 a1, .int .i64 a2, .int .i64 a3, .int .i64 a4, .int .i64 a5, .int .u32 a6, .int .u32 a7, .slice B8 n8 l8, .slice B9 n9 l9]) (wr.heap.size + 1) 25 #[.int .i64 a0, .int .i64 a1, .int .i64 a2, .int .i64 a3, .int .i64 a4, .int .i64 a5, .int .u32 a6, .int .u32 a7, .slice A8 n8 k8, .slice A9 n9 k9] := (setRow_other _ _ _ _ (by omega)).trans hx3
          have ha4 : Blk ((((wr.alloc (.cells #[.int .i64 0, .int .i64 0, .int .i64 0, .int .i64 0, .int .i64 0, .int .i64 0, .int .u32 0, .int .u32 0, .slice none 0 0, .slice none 0 0] 25)).alloc (.cells #[.int .i64 0, .int .i64 0, .int .i64 0, .int .i64 0, .int .i64 0, .int .i64 0, .int .u32 0, .int .u32 0, .slice none 0 0, .slice none 0 0] 25)).setRow (wr.heap.size + 1) #[.int .i64 a0, .int .i64 a1, .int .i64 a2, .int .i64 a3, .int .i64 a4, .int .i64 a5, .int .u32 a6, .int .u32 a7, .slice A8 n8 k8, .slice A9 n9 k9]).setRow wr.heap.size #[.int .i64 a0, .int .i64 a1, .int .i64 a2, .int .i64 a3, .int .i64 a4, .int .i64 a5, .int .u32 a6, .int .u32 a7, .slice B8 n8 l8, .slice B9 n9 l9]) ga 25 #[.int .i64 a0, .int .i64 a1, .int .i64 a2, .int .i64 a3, .int .i64 a4, .int .i64 a5, .int .u32 a6, .int .u32 a7, .slice A8 n8 k8, .slice A9 n9 k9] := (setRow_other _ _ _ _ (by omega)).trans ha3
          have hb4 : Blk ((((wr.alloc (.cells #[.int .i64 0, .int .i64 0, .int .i64 0, .int .i64 0, .int .i64 0, .int .i64 0, .int .u32 0, .int .u32 0, .slice none 0 0, .slice none 0 0] 25)).alloc (.cells #[.int .i64 0, .int .i64 0, .int .i64 0, .int .i64 0, .int .i64 0, .int .i64 0, .int .u32 0, .int .u32 0, .slice none 0 0, .slice none 0 0] 25)).setRow (wr.heap.size + 1) #[.int .i64 a0, .int .i64 a1, .int .i64 a2, .int .i64 a3, .int .i64 a4, .int .i64 a5, .int .u32 a6, .int .u32 a7, .slice A8 n8 k8, .slice A9 n9 k9]).setRow wr.heap.size #[.int .i64 a0, .int .i64 a1, .int .i64 a2, .int .i64 a3, .int .i64 a4, .int .i64 a5, .int .u32 a6, .int .u32 a7, .slice B8 n8 l8, .slice B9 n9 l9]) gb 25 #[.int .i64 a0, .int .i64 a1, .int .i64 a2, .int .i64 a3, .int .i64 a4, .int .i64 a5, .int .u32 a6, .int .u32 a7, .slice B8 n8 l8, .slice B9 n9 l9] := (setRow_other _ _ _ _ (by omega)).trans hb3
          have hB4 : Below w.heap.size w ((((wr.alloc (.cells #[.int .i64 0, .int .i64 0, .int .i64 0, .int .i64 0, .int .i64 0, .int .i64 0, .int .u32 0, .int .u32 0, .slice none 0 0, .slice none 0 0] 25)).alloc (.cells #[.int .i64 0, .int .i64 0, .int .i64 0, .int .i64 0, .int .i64 0, .int .i64 0, .int .u32 0, .int .u32 0, .slice none 0 0, .slice none 0 0] 25)).setRow (wr.heap.size + 1) #[.int .i64 a0, .int .i64 a1, .int .i64 a2, .int .i64 a3, .int .i64 a4, .int .i64 a5, .int .u32 a6, .int .u32 a7, .slice A8 n8 k8, .slice A9 n9 k9]).setRow wr.heap.size #[.int .i64 a0, .int .i64 a1, .int .i64 a2, .int .i64 a3, .int .i64 a4, .int .i64 a5, .int .u32 a6, .int .u32 a7, .slice B8 n8 l8, .slice B9 n9 l9]) := below_setRow (below_setRow hBW2 (by omega) _) (by omega) _
          refine hK.out _ _ ⟨ha4, hb4⟩ (fun _ => ?_)
          clear hK K
          try simp only [Act.put, List.setIfInBounds_toArray, List.set_cons_zero, List.set_cons_succ]
          refine wpAnyH_done (by kernel_rfl) ?_ _
          refine NoPanic.normal ?_
          go_wp2_with fail
          go_meet
          exact ⟨(wr.heap.size + 1), wr.heap.size, rfl, rfl, hx4, hy4, ⟨hB4.os, hB4.tape, hB4.output, hB4.size, hB4.block⟩⟩
      case rest =>
        obtain ⟨gx, gy, rfl, rfl, hx, hy, hB⟩ := hcut
        have hx0 : wc.cell? ⟨gx, 0, none⟩ = some (.int .i64 a0) := hx.cell 0
        have hx1 : wc.cell? ⟨gx, 1, none⟩ = some (.int .i64 a1) := hx.cell 1
        have hx2 : wc.cell? ⟨gx, 2, none⟩ = some (.int .i64 a2) := hx.cell 2
        have hx3 : wc.cell? ⟨gx, 3, none⟩ = some (.int .i64 a3) := hx.cell 3
        have hx4 : wc.cell? ⟨gx, 4, none⟩ = some (.int .i64 a4) := hx.cell 4
        have hx5 : wc.cell? ⟨gx, 5, none⟩ = some (.int .i64 a5) := hx.cell 5
        have hx6 : wc.cell? ⟨gx, 6, none⟩ = some (.int .u32 a6) := hx.cell 6
        have hx7 : wc.cell? ⟨gx, 7, none⟩ = some (.int .u32 a7) := hx.cell 7
        have hx8 : wc.cell? ⟨gx, 8, none⟩ = some (.slice A8 n8 k8) := hx.cell 8
        have hx9 : wc.cell? ⟨gx, 9, none⟩ = some (.slice A9 n9 k9) := hx.cell 9
        have hy0 : wc.cell? ⟨gy, 0, none⟩ = some (.int .i64 a0) := hy.cell 0
        have hy1 : wc.cell? ⟨gy, 1, none⟩ = some (.int .i64 a1) := hy.cell 1
        have hy2 : wc.cell? ⟨gy, 2, none⟩ = some (.int .i64 a2) := hy.cell 2
        have hy3 : wc.cell? ⟨gy, 3, none⟩ = some (.int .i64 a3) := hy.cell 3
        have hy4 : wc.cell? ⟨gy, 4, none⟩ = some (.int .i64 a4) := hy.cell 4
        have hy5 : wc.cell? ⟨gy, 5, none⟩ = some (.int .i64 a5) := hy.cell 5
        have hy6 : wc.cell? ⟨gy, 6, none⟩ = some (.int .u32 a6) := hy.cell 6
        have hy7 : wc.cell? ⟨gy, 7, none⟩ = some (.int .u32 a7) := hy.cell 7
        have hy8 : wc.cell? ⟨gy, 8, none⟩ = some (.slice B8 n8 l8) := hy.cell 8
        have hy9 : wc.cell? ⟨gy, 9, none⟩ = some (.slice B9 n9 l9) := hy.cell 9
        have v1 := conv_bytes (c := k8) ((H1.out.below hB)) HO.out
        have v2 := conv_bytes (c := k9) ((H2.out.below hB)) HD.out
        have v3 := conv_bytes (c := l8) ((H3.out.below hB)) HO.out
        have v4 := conv_bytes (c := l9) ((H4.out.below hB)) HD.out
        have HBC := Lib.hid hB
        clear hx hy hB HBEL HA2 HB2 HA HB
        go_wp2_with fail
        go_roundw
        case rel => exact ⟨.inr rfl, HBC.out⟩
        case measure => simp [intOf]
    · go_wp2_with fail
      go_ret
      exact ⟨rfl, hbel⟩
end Go.Proofs.YtfkkjhfncmfahaaDoor
