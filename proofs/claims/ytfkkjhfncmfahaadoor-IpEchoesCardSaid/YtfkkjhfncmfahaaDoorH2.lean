/- Layer 17's heads come. -/
import Derived.Test.YtfkkjhfncmfahaaDoorProg
import Derived.Test.YtfkkjhfncmfahaaDoorA0
import Derived.Test.YtfkkjhfncmfahaaDoorH0
import Derived.Test.YtfkkjhfncmfahaaDoorH1
namespace Go.Proofs.YtfkkjhfncmfahaaDoor
open Go.RowKit Go.Deep

theorem reads_nine (W : World) : Reads (W.alloc (.cells #[.int .u8 9] 5)) (W.heap.size + 1) 1 (some ⟨W.heap.size, 0, none⟩) 1 (bytesV [9]) := by
  have h := (Blk.new W 5 (bytesV [9]).toArray).reads (n := 1) rfl
  rw [World.size_alloc] at h
  exact h
theorem reads_E (W : World) : Reads (W.alloc (.cells #[.int .u8 8, .int .u8 0, .int .u8 247, .int .u8 254, .int .u8 0, .int .u8 0, .int .u8 0, .int .u8 1] 5)) (W.alloc (.cells #[.int .u8 8, .int .u8 0, .int .u8 247, .int .u8 254, .int .u8 0, .int .u8 0, .int .u8 0, .int .u8 1] 5)).heap.size 1 (some ⟨W.heap.size, 0, none⟩) 8 (bytesV hdE) :=
  (Blk.new W 5 (bytesV hdE).toArray).reads (n := 8) rfl
theorem reads_N (W : World) : Reads (W.alloc (.cells #[.int .u8 8, .int .u8 0, .int .u8 0, .int .u8 0, .int .u8 0, .int .u8 0, .int .u8 0, .int .u8 1] 5)) (W.alloc (.cells #[.int .u8 8, .int .u8 0, .int .u8 0, .int .u8 0, .int .u8 0, .int .u8 0, .int .u8 0, .int .u8 1] 5)).heap.size 1 (some ⟨W.heap.size, 0, none⟩) 8 (bytesV hdN) :=
  (Blk.new W 5 (bytesV hdN).toArray).reads (n := 8) rfl
theorem reads_X (W : World) : Reads (W.alloc (.cells #[.int .u8 0, .int .u8 0, .int .u8 255, .int .u8 254, .int .u8 0, .int .u8 0, .int .u8 0, .int .u8 1] 5)) (W.alloc (.cells #[.int .u8 0, .int .u8 0, .int .u8 255, .int .u8 254, .int .u8 0, .int .u8 0, .int .u8 0, .int .u8 1] 5)).heap.size 1 (some ⟨W.heap.size, 0, none⟩) 8 (bytesV hdX) :=
  (Blk.new W 5 (bytesV hdX).toArray).reads (n := 8) rfl

set_option maxRecDepth 100000 in
set_option maxHeartbeats 4000000 in
theorem heads_true (w : World) (hv : ErrVar w) : Calls Tryd.prog 5 #[] w fun e w' => e = .returned (.bool true) ∧ Below w.heap.size w w' := by
  have hmk : ∀ W : World, (Instr.makeSlice 23 (.int .i64 100) (.int .i64 100)).run Tryd.prog W = .ok (.slice (some ⟨W.heap.size, 0, none⟩) 100 100) (W.alloc (.cells (bytesV hd0).toArray 5)) :=
    fun W => by rw [← hd_made]; exact run_make_row' _ _ _ 1 Tryd.underlying23 u8_info rfl .i64 .i64 100 (by omega) (by omega) W
  have HV := Lib.hid hv
  clear hv
  go_enter Tryd.func5, Tryd.ntmps5
  go_wp2_with fail
  clear hmk
  have hb0 : Below w.heap.size w ((w.alloc (.cells (bytesV hd0).toArray 5)).alloc (.cells #[.int .i64 0, .int .i64 5, .int .i64 0, .int .i64 0, .int .i64 64, .int .i64 17, .int .u32 1, .int .u32 2, .slice none 0 0, .slice (some ⟨w.heap.size, 0, none⟩) 100 100] 25)) := ((Below.refl _ _).alloc (Nat.le_refl _) _).alloc (by simp) _
  have hd : Blk ((w.alloc (.cells (bytesV hd0).toArray 5)).alloc (.cells #[.int .i64 0, .int .i64 5, .int .i64 0, .int .i64 0, .int .i64 64, .int .i64 17, .int .u32 1, .int .u32 2, .slice none 0 0, .slice (some ⟨w.heap.size, 0, none⟩) 100 100] 25)) w.heap.size 5 (bytesV hd0).toArray := (Blk.new w _ _).alloc _
  have hp : Blk ((w.alloc (.cells (bytesV hd0).toArray 5)).alloc (.cells #[.int .i64 0, .int .i64 5, .int .i64 0, .int .i64 0, .int .i64 64, .int .i64 17, .int .u32 1, .int .u32 2, .slice none 0 0, .slice (some ⟨w.heap.size, 0, none⟩) 100 100] 25)) (w.heap.size + 1) 25 #[.int .i64 0, .int .i64 5, .int .i64 0, .int .i64 0, .int .i64 64, .int .i64 17, .int .u32 1, .int .u32 2, .slice none 0 0, .slice (some ⟨w.heap.size, 0, none⟩) 100 100] := Blk.new' (by simp)
  refine (hd_put w.heap.size _ (hd.reads (by simp [hd0]))).mono ?_
  rintro e w1 ⟨g1, cap1, rfl, hown1, hb1⟩
  have hd1 := hd.below hb1 hd.lt
  have hp1 := hp.below hb1 hp.lt
  have hB1 := below_then hb0 hb0.size hb1
  obtain ⟨hnc1, hcm1⟩ := own_cap hown1
  have hr1 := Reads.of_own hown1
  obtain ⟨i0, hi0, hz0, hz1, hz2⟩ := info_parts u8_info
  have HD1 := Lib.hid hd1
  have HP1 := Lib.hid hp1
  have HB1 := Lib.hid hB1
  have HR1 := Lib.hid hr1
  clear hb0 hd hp hb1 hd1 hp1 hB1 hown1 hr1
  go_wp2_with (first
    | (at_builtin
       refine wpList_append_any _ rfl (.tmp 22) (.tmp 23) _ rfl w1.heap.size 5 i0 _ 1 1 Tryd.underlying23 hi0 hz0 hz1 hz2 rfl (by omega) _ 0 [] rfl (own_empty _ _ _ _ (Nat.le_refl _)) w1.heap.size (some ⟨g1, 0, none⟩) 120 cap1 (bytesV hdB) rfl (HR1.out.alloc (Nat.le_refl _) _) (bytesV_one _) (by simp only [maxLen]; omega) (by omega) (by simp) ?_
       intro v2 w2 hown2 hg2 hat2
       have hown2b : w2.ownsRow w1.heap.size 5 1 v2 120 (bytesV hdB) := by simpa using hown2
       obtain ⟨g2, cap2, cur2, rfl, hgb2, _⟩ := own_open hown2b (by omega)
       have hb2 : Below w1.heap.size w1 w2 := ((Below.refl w1.heap.size w1).alloc (Nat.le_refl _) _).grown hg2 (by simp) (fun k hk => by
         have hk' : w1.heap.size = k := Option.some.inj hk
         omega)
       have HO2 := Lib.hid (hown2b.alloc (.cells #[.int .u8 9] 5))
       have HB2 := Lib.hid hb2
       have hs2 : w1.heap.size ≤ w2.heap.size := hb2.size
       clear hown2 hown2b hg2 hat2 hb2)
    | (at_builtin
       refine wpList_append_any _ rfl (.tmp 24) (.tmp 25) _ rfl w1.heap.size 5 i0 _ 1 1 Tryd.underlying23 hi0 hz0 hz1 hz2 rfl (by omega) _ 120 (bytesV hdB) rfl HO2.out (w2.heap.size + 1) (some ⟨w2.heap.size, 0, none⟩) 1 1 (bytesV [9]) rfl (reads_nine w2) (bytesV_one _) (by simp only [maxLen]; omega) (by omega) (by simp; omega) ?_
       intro v3 w3 hown3 hg3 hat3
       have hown3b : w3.ownsRow w1.heap.size 5 1 v3 121 (bytesV (hdB ++ [9])) := by rw [bytesV_append]; exact hown3
       obtain ⟨g3, cap3, cur3, rfl, hgb3, _⟩ := own_open hown3b (by omega)
       have hb3 : Below w1.heap.size w1 w3 := (HB2.out.alloc hs2 _).grown hg3 (by simp; omega) (fun k hk => own_base HO2.out k hk)
       have HO3 := Lib.hid hown3b
       have HB3 := Lib.hid hb3
       clear hown3 hown3b hg3 hat3 hb3))
  obtain ⟨hnc3, hcm3⟩ := own_cap HO3.out
  have hB3 := below_then HB1.out HB1.out.size HB3.out
  have hv3 := HV.out.below hB3
  refine (hd_get g3 cap3 _ hv3 hnc3 hcm3 (Reads.of_own HO3.out)).mono ?_
  rintro e w4 ⟨A8, k8, A9, k9, rfl, ho8, ho9, hb4⟩
  have hB4 := below_then hB3 hB3.size hb4
  have hp4 := (HP1.out.below HB3.out HP1.out.lt).below hb4 (by have := HP1.out.lt; have := HB3.out.size; omega)
  have hd4 := (HD1.out.below HB3.out HD1.out.lt).below hb4 (by have := HD1.out.lt; have := HB3.out.size; omega)
  have hr4 := ((HR1.out.below HB3.out).more HB3.out.size).below hb4
  have hp4b := hp4.alloc (.cells #[.int .i64 0, .int .i64 5, .int .i64 0, .int .i64 0, .int .i64 64, .int .i64 17, .int .u32 1, .int .u32 2, .slice A8 0 k8, .slice A9 100 k9] 25)
  have hd4b := hd4.alloc (.cells #[.int .i64 0, .int .i64 5, .int .i64 0, .int .i64 0, .int .i64 64, .int .i64 17, .int .u32 1, .int .u32 2, .slice A8 0 k8, .slice A9 100 k9] 25)
  have hq4 := Blk.new w4 25 #[.int .i64 0, .int .i64 5, .int .i64 0, .int .i64 0, .int .i64 64, .int .i64 17, .int .u32 1, .int .u32 2, .slice A8 0 k8, .slice A9 100 k9]
  have hr4b := (hr4.more hb4.size).alloc (Nat.le_refl _) (.cells #[.int .i64 0, .int .i64 5, .int .i64 0, .int .i64 0, .int .i64 64, .int .i64 17, .int .u32 1, .int .u32 2, .slice A8 0 k8, .slice A9 100 k9] 25)
  have hB4b := hB4.alloc hB4.size (.cells #[.int .i64 0, .int .i64 5, .int .i64 0, .int .i64 0, .int .i64 64, .int .i64 17, .int .u32 1, .int .u32 2, .slice A8 0 k8, .slice A9 100 k9] 25)
  have ho8b := ho8.alloc (.cells #[.int .i64 0, .int .i64 5, .int .i64 0, .int .i64 0, .int .i64 64, .int .i64 17, .int .u32 1, .int .u32 2, .slice A8 0 k8, .slice A9 100 k9] 25)
  have ho9b := ho9.alloc (.cells #[.int .i64 0, .int .i64 5, .int .i64 0, .int .i64 0, .int .i64 64, .int .i64 17, .int .u32 1, .int .u32 2, .slice A8 0 k8, .slice A9 100 k9] 25)
  have HP4 := Lib.hid hp4b
  have HD4 := Lib.hid hd4b
  have HQ4 := Lib.hid hq4
  have HR4 := Lib.hid hr4b
  have HB4 := Lib.hid hB4b
  have HO8 := Lib.hid ho8b
  have HO9 := Lib.hid ho9b
  clear hB3 hv3 ho8 ho9 hb4 hB4 hp4 hd4 hr4 hp4b hd4b hq4 hr4b hB4b ho8b ho9b HO3 HB3 HR1 HD1 HP1 HO2 HB2
  go_wp2_with (refine wpList_load_row rfl 25 (.tmp 1) rfl (w.heap.size + 1) rfl _ _ _ _ HP4.out Tryd.underlying25 rfl ip_info ?_)
  refine (hd_cut w.heap.size _ ((HD4.out.reads (by simp [hd0])))).mono ?_
  rintro e w5 ⟨g5, cap5, A5, c5, rfl, q1, q2, q3, q4, hg5, hb5⟩
  -- what lies behind ip.Cut
  have hB5 := below_then HB4.out HB4.out.size hb5
  have hr5 := ((HR4.out.more (by simp)).below hb5).more hb5.size
  have HB45 := Lib.hid hb5
  have HB5 := Lib.hid hB5
  have HR5 := Lib.hid hr5
  have HG5 : Hid (w5.cell? ⟨g5, 2, none⟩ = some (.int .i64 1) ∧ w5.cell? ⟨g5, 22, none⟩ = some (.int .i64 0) ∧ w5.cell? ⟨g5, 23, none⟩ = some (.int .i64 12) ∧ w5.cell? ⟨g5, 29, none⟩ = some (.slice A5 4 c5)) := ⟨q1, q2, q3, q4⟩
  clear hb5 hB5 hr5 q1 q2 q3 q4
  have hcap60 : (60 : Int) ≤ cap1 := by omega
  go_wp2_with fail
  refine (hd_half g1 cap1 _ (HV.out.below HB5.out) (by omega) (by have h := HR5.out.take (k := 60) (by omega); rwa [Nat.mul_one, bytesV_take] at h)).mono ?_
  rintro e w6 ⟨rfl, hb6⟩
  have HB6 := Lib.hid hb6
  clear hb6
  go_wp2_with fail
  have hb6b : Below w5.heap.size w5 ((w6.alloc (.cells #[.int .i64 0, .int .i64 0, .int .i64 0, .int .i64 0, .int .i64 0, .int .i64 0, .int .u32 0, .int .u32 0, .slice none 0 0, .slice none 0 0] 25)).alloc (.cells #[.int .u8 8, .int .u8 0, .int .u8 247, .int .u8 254, .int .u8 0, .int .u8 0, .int .u8 0, .int .u8 1] 5)) := (HB6.out.alloc HB6.out.size _).alloc (by have := HB6.out.size; simp; omega) _
  have hrE := reads_E (w6.alloc (.cells #[.int .i64 0, .int .i64 0, .int .i64 0, .int .i64 0, .int .i64 0, .int .i64 0, .int .u32 0, .int .u32 0, .slice none 0 0, .slice none 0 0] 25))
  have hsz6 : (w6.alloc (.cells #[.int .i64 0, .int .i64 0, .int .i64 0, .int .i64 0, .int .i64 0, .int .i64 0, .int .u32 0, .int .u32 0, .slice none 0 0, .slice none 0 0] 25)).heap.size = w6.heap.size + 1 := by simp
  rw [hsz6] at hrE
  clear hsz6
  refine (echo_yes (some ⟨w6.heap.size + 1, 0, none⟩) 8 8 hdE ((w6.alloc (.cells #[.int .i64 0, .int .i64 0, .int .i64 0, .int .i64 0, .int .i64 0, .int .i64 0, .int .u32 0, .int .u32 0, .slice none 0 0, .slice none 0 0] 25)).alloc (.cells #[.int .u8 8, .int .u8 0, .int .u8 247, .int .u8 254, .int .u8 0, .int .u8 0, .int .u8 0, .int .u8 1] 5)) rfl (Nat.le_refl _) (by omega) hrE ⟨by decide, rfl, rfl, hdE_right⟩).mono ?_
  rintro e w7 ⟨v7, rfl, hown7, hb7⟩
  rw [hdE_echo] at hown7
  obtain ⟨g7, cap7, cur7, rfl, hgb7, _⟩ := own_open hown7 (by omega)
  have HO7 := Lib.hid hown7
  have HB57 := Lib.hid (below_then hb6b hb6b.size hb7)
  clear hown7 hb7 hb6b
  go_wp2_with fail
  refine (echo_no (some ⟨w7.heap.size, 0, none⟩) 8 8 hdN (w7.alloc (.cells #[.int .u8 8, .int .u8 0, .int .u8 0, .int .u8 0, .int .u8 0, .int .u8 0, .int .u8 0, .int .u8 1] 5)) rfl (Nat.le_refl _) (by omega) (reads_N _) (fun h => by have := h.2.2.2; rw [hdN_right] at this; cases this)).mono ?_
  rintro e w8 ⟨rfl, hb8⟩
  have hb78 : Below w7.heap.size w7 w8 := below_then ((Below.refl w7.heap.size w7).alloc (Nat.le_refl _) _) (by simp) hb8
  have HB78 := Lib.hid hb78
  have hb58 : Below w5.heap.size w5 w8 := below_then HB57.out HB57.out.size hb78
  have hb48 : Below (w4.alloc (.cells #[.int .i64 0, .int .i64 5, .int .i64 0, .int .i64 0, .int .i64 64, .int .i64 17, .int .u32 1, .int .u32 2, .slice A8 0 k8, .slice A9 100 k9] 25)).heap.size (w4.alloc (.cells #[.int .i64 0, .int .i64 5, .int .i64 0, .int .i64 0, .int .i64 64, .int .i64 17, .int .u32 1, .int .u32 2, .slice A8 0 k8, .slice A9 100 k9] 25)) w8 := below_then HB45.out HB45.out.size hb58
  have hp8 := HP4.out.below hb48 HP4.out.lt
  have hq8 := HQ4.out.below hb48 HQ4.out.lt
  have hd8 := HD4.out.below hb48 HD4.out.lt
  have HP8 := Lib.hid hp8
  have HQ8 := Lib.hid hq8
  have HD8 := Lib.hid hd8
  have HO88 := Lib.hid (own_below HO8.out hb48)
  have HO98 := Lib.hid (own_below HO9.out hb48)
  have HB8 := Lib.hid (below_then HB4.out HB4.out.size hb48)
  have HG8 : Hid (w8.cell? ⟨g5, 2, none⟩ = some (.int .i64 1) ∧ w8.cell? ⟨g5, 22, none⟩ = some (.int .i64 0) ∧ w8.cell? ⟨g5, 23, none⟩ = some (.int .i64 12) ∧ w8.cell? ⟨g5, 29, none⟩ = some (.slice A5 4 c5)) :=
    ⟨(hb58.cell (p := ⟨g5, 2, none⟩) hg5).trans HG5.out.1, (hb58.cell (p := ⟨g5, 22, none⟩) hg5).trans HG5.out.2.1, (hb58.cell (p := ⟨g5, 23, none⟩) hg5).trans HG5.out.2.2.1, (hb58.cell (p := ⟨g5, 29, none⟩) hg5).trans HG5.out.2.2.2⟩
  have hg58 : g5 < w8.heap.size := Nat.lt_of_lt_of_le hg5 hb58.size
  have HO78 := Lib.hid (own_below HO7.out hb78)
  clear hb8 hb78 hb58 hb48 hp8 hq8 hd8
  have hq8a := HQ8.out.alloc (.cells #[.int .i64 0, .int .i64 5, .int .i64 0, .int .i64 0, .int .i64 64, .int .i64 17, .int .u32 1, .int .u32 2, .slice none 0 0, .slice (some ⟨w.heap.size, 0, none⟩) 100 100] 25)
  have hpc0 : w8.cell? ⟨w.heap.size + 1, 0, none⟩ = some (.int .i64 0) := HP8.out.cell 0
  have hpc1 : w8.cell? ⟨w.heap.size + 1, 1, none⟩ = some (.int .i64 5) := HP8.out.cell 1
  have hpc2 : w8.cell? ⟨w.heap.size + 1, 2, none⟩ = some (.int .i64 0) := HP8.out.cell 2
  have hpc3 : w8.cell? ⟨w.heap.size + 1, 3, none⟩ = some (.int .i64 0) := HP8.out.cell 3
  have hpc4 : w8.cell? ⟨w.heap.size + 1, 4, none⟩ = some (.int .i64 64) := HP8.out.cell 4
  have hpc5 : w8.cell? ⟨w.heap.size + 1, 5, none⟩ = some (.int .i64 17) := HP8.out.cell 5
  have hpc6 : w8.cell? ⟨w.heap.size + 1, 6, none⟩ = some (.int .u32 1) := HP8.out.cell 6
  have hpc7 : w8.cell? ⟨w.heap.size + 1, 7, none⟩ = some (.int .u32 2) := HP8.out.cell 7
  have hpc8 : w8.cell? ⟨w.heap.size + 1, 8, none⟩ = some (.slice none 0 0) := HP8.out.cell 8
  have hpc9 : w8.cell? ⟨w.heap.size + 1, 9, none⟩ = some (.slice (some ⟨w.heap.size, 0, none⟩) 100 100) := HP8.out.cell 9
  have hqc0 : (w8.alloc (.cells #[.int .i64 0, .int .i64 5, .int .i64 0, .int .i64 0, .int .i64 64, .int .i64 17, .int .u32 1, .int .u32 2, .slice none 0 0, .slice (some ⟨w.heap.size, 0, none⟩) 100 100] 25)).cell? ⟨w4.heap.size, 0, none⟩ = some (.int .i64 0) := hq8a.cell 0
  have hqc1 : (w8.alloc (.cells #[.int .i64 0, .int .i64 5, .int .i64 0, .int .i64 0, .int .i64 64, .int .i64 17, .int .u32 1, .int .u32 2, .slice none 0 0, .slice (some ⟨w.heap.size, 0, none⟩) 100 100] 25)).cell? ⟨w4.heap.size, 1, none⟩ = some (.int .i64 5) := hq8a.cell 1
  have hqc2 : (w8.alloc (.cells #[.int .i64 0, .int .i64 5, .int .i64 0, .int .i64 0, .int .i64 64, .int .i64 17, .int .u32 1, .int .u32 2, .slice none 0 0, .slice (some ⟨w.heap.size, 0, none⟩) 100 100] 25)).cell? ⟨w4.heap.size, 2, none⟩ = some (.int .i64 0) := hq8a.cell 2
  have hqc3 : (w8.alloc (.cells #[.int .i64 0, .int .i64 5, .int .i64 0, .int .i64 0, .int .i64 64, .int .i64 17, .int .u32 1, .int .u32 2, .slice none 0 0, .slice (some ⟨w.heap.size, 0, none⟩) 100 100] 25)).cell? ⟨w4.heap.size, 3, none⟩ = some (.int .i64 0) := hq8a.cell 3
  have hqc4 : (w8.alloc (.cells #[.int .i64 0, .int .i64 5, .int .i64 0, .int .i64 0, .int .i64 64, .int .i64 17, .int .u32 1, .int .u32 2, .slice none 0 0, .slice (some ⟨w.heap.size, 0, none⟩) 100 100] 25)).cell? ⟨w4.heap.size, 4, none⟩ = some (.int .i64 64) := hq8a.cell 4
  have hqc5 : (w8.alloc (.cells #[.int .i64 0, .int .i64 5, .int .i64 0, .int .i64 0, .int .i64 64, .int .i64 17, .int .u32 1, .int .u32 2, .slice none 0 0, .slice (some ⟨w.heap.size, 0, none⟩) 100 100] 25)).cell? ⟨w4.heap.size, 5, none⟩ = some (.int .i64 17) := hq8a.cell 5
  have hqc6 : (w8.alloc (.cells #[.int .i64 0, .int .i64 5, .int .i64 0, .int .i64 0, .int .i64 64, .int .i64 17, .int .u32 1, .int .u32 2, .slice none 0 0, .slice (some ⟨w.heap.size, 0, none⟩) 100 100] 25)).cell? ⟨w4.heap.size, 6, none⟩ = some (.int .u32 1) := hq8a.cell 6
  have hqc7 : (w8.alloc (.cells #[.int .i64 0, .int .i64 5, .int .i64 0, .int .i64 0, .int .i64 64, .int .i64 17, .int .u32 1, .int .u32 2, .slice none 0 0, .slice (some ⟨w.heap.size, 0, none⟩) 100 100] 25)).cell? ⟨w4.heap.size, 7, none⟩ = some (.int .u32 2) := hq8a.cell 7
  have hqc8 : (w8.alloc (.cells #[.int .i64 0, .int .i64 5, .int .i64 0, .int .i64 0, .int .i64 64, .int .i64 17, .int .u32 1, .int .u32 2, .slice none 0 0, .slice (some ⟨w.heap.size, 0, none⟩) 100 100] 25)).cell? ⟨w4.heap.size, 8, none⟩ = some (.slice A8 0 k8) := hq8a.cell 8
  have hqc9 : (w8.alloc (.cells #[.int .i64 0, .int .i64 5, .int .i64 0, .int .i64 0, .int .i64 64, .int .i64 17, .int .u32 1, .int .u32 2, .slice none 0 0, .slice (some ⟨w.heap.size, 0, none⟩) 100 100] 25)).cell? ⟨w4.heap.size, 9, none⟩ = some (.slice A9 100 k9) := hq8a.cell 9
  clear hq8a
  go_wp2_with fail
  clear hpc0 hpc1 hpc2 hpc3 hpc4 hpc5 hpc6 hpc7 hpc8 hpc9 hqc0 hqc1 hqc2 hqc3 hqc4 hqc5 hqc6 hqc7 hqc8 hqc9
  have hbs : Below w8.heap.size w8 ((w8.alloc (.cells #[.int .i64 0, .int .i64 5, .int .i64 0, .int .i64 0, .int .i64 64, .int .i64 17, .int .u32 1, .int .u32 2, .slice none 0 0, .slice (some ⟨w.heap.size, 0, none⟩) 100 100] 25)).alloc (.cells #[.int .i64 0, .int .i64 5, .int .i64 0, .int .i64 0, .int .i64 64, .int .i64 17, .int .u32 1, .int .u32 2, .slice A8 0 k8, .slice A9 100 k9] 25)) := ((Below.refl w8.heap.size w8).alloc (Nat.le_refl _) _).alloc (by simp) _
  have hm8 : w8.heap.size ≤ ((w8.alloc (.cells #[.int .i64 0, .int .i64 5, .int .i64 0, .int .i64 0, .int .i64 64, .int .i64 17, .int .u32 1, .int .u32 2, .slice none 0 0, .slice (some ⟨w.heap.size, 0, none⟩) 100 100] 25)).alloc (.cells #[.int .i64 0, .int .i64 5, .int .i64 0, .int .i64 0, .int .i64 64, .int .i64 17, .int .u32 1, .int .u32 2, .slice A8 0 k8, .slice A9 100 k9] 25)).heap.size := hbs.size
  have hsm := refsame_one w8.heap.size (w8.heap.size + 1) 1 1 0 5 0 0 64 17 1 2 none (some ⟨w.heap.size, 0, none⟩) A8 A9 0 100 0 100 k8 k9 [] hd0 ((w8.alloc (.cells #[.int .i64 0, .int .i64 5, .int .i64 0, .int .i64 0, .int .i64 64, .int .i64 17, .int .u32 1, .int .u32 2, .slice none 0 0, .slice (some ⟨w.heap.size, 0, none⟩) 100 100] 25)).alloc (.cells #[.int .i64 0, .int .i64 5, .int .i64 0, .int .i64 0, .int .i64 64, .int .i64 17, .int .u32 1, .int .u32 2, .slice A8 0 k8, .slice A9 100 k9] 25)) ((Blk.new w8 25 #[.int .i64 0, .int .i64 5, .int .i64 0, .int .i64 0, .int .i64 64, .int .i64 17, .int .u32 1, .int .u32 2, .slice none 0 0, .slice (some ⟨w.heap.size, 0, none⟩) 100 100]).alloc _) (Blk.new' (by simp)) rfl rfl Reads.none_
    (((HD8.out.reads (n := 100) (by simp [hd0])).below hbs).more hm8) (((Reads.of_own HO88.out).below hbs).more hm8) (((Reads.of_own HO98.out).below hbs).more hm8)
  refine hsm.mono ?_
  rintro e w9 ⟨rfl, hb9⟩
  have hb89 : Below w8.heap.size w8 w9 := below_then hbs hm8 hb9
  have hg2 : w9.cell? ⟨g5, 2, none⟩ = some (.int .i64 1) := (hb89.cell (p := ⟨g5, 2, none⟩) hg58).trans HG8.out.1
  have hg22 : w9.cell? ⟨g5, 22, none⟩ = some (.int .i64 0) := (hb89.cell (p := ⟨g5, 22, none⟩) hg58).trans HG8.out.2.1
  have hg23 : w9.cell? ⟨g5, 23, none⟩ = some (.int .i64 12) := (hb89.cell (p := ⟨g5, 23, none⟩) hg58).trans HG8.out.2.2.1
  have hg29 : w9.cell? ⟨g5, 29, none⟩ = some (.slice A5 4 c5) := (hb89.cell (p := ⟨g5, 29, none⟩) hg58).trans HG8.out.2.2.2
  have HB9 := Lib.hid (below_then HB8.out HB8.out.size hb89)
  have HX9 := Lib.hid (own_below HO78.out hb89)
  clear hb89 hb9 hbs hm8 hsm
  go_wp2_with fail
  have hsame := same_any (some ⟨g7, 0, none⟩) (some ⟨w9.heap.size, 0, none⟩) 8 cap7 8 8 hdX hdX (w9.alloc (.cells #[.int .u8 0, .int .u8 0, .int .u8 255, .int .u8 254, .int .u8 0, .int .u8 0, .int .u8 0, .int .u8 1] 5)) rfl (((Reads.of_own HX9.out).alloc (Nat.le_refl _) _).more (by simp)) rfl (reads_X w9)
  rw [show decide (hdX = hdX) = true from by simp] at hsame
  refine hsame.mono ?_
  rintro e w10 ⟨rfl, rfl⟩
  clear hsame
  go_wp2_with fail
  go_ret
  exact ⟨rfl, HB9.out.alloc HB9.out.size _⟩
end Go.Proofs.YtfkkjhfncmfahaaDoor
