/- ip.Get: which packets bytes are. -/
import Derived.Test.YtfkkjhfncmfahaaDoorProg
import Derived.Test.YtfkkjhfncmfahaaDoorA0
import Derived.Test.YtfkkjhfncmfahaaDoorB0
import Derived.Test.YtfkkjhfncmfahaaDoorB1
import Derived.Test.YtfkkjhfncmfahaaDoorS1
import Derived.Test.YtfkkjhfncmfahaaDoorS2
import Derived.Test.YtfkkjhfncmfahaaDoorB2
import Derived.Test.YtfkkjhfncmfahaaDoorG1
import Derived.Test.YtfkkjhfncmfahaaDoorG2
import Derived.Test.YtfkkjhfncmfahaaDoorG3
import Derived.Test.YtfkkjhfncmfahaaDoorG4
import Derived.Test.YtfkkjhfncmfahaaDoorG6
import Derived.Deep.RegionHeld3
import Derived.Laws.ResultCell
namespace Go.Proofs.YtfkkjhfncmfahaaDoor
open Go.RowKit Go.Deep

/-- A struct's load, whole, in a region that draws. -/
theorem yieldsIf_load_row {P : Program} {ops : Array Oper} {S : World → Prop} {op : Oper} {a : Act} (hw : Region.wanted op (yielded ops a.tmps) = true) (ty : TypeId) (x : Operand) (ho : op.op = .load ty x)
    (g : Nat) (hx : a.eval x = .pointer (some ⟨g, 0, none⟩)) (t : TypeId) (cs : Array Value) (d : TypeDesc) (hS : ∀ w, S w → Blk w g t cs)
    (hu : P.underlying ty = some d) (hd : (match d with | .struct _ | .array _ _ => true | _ => false) = true) (hi : (P.info? ty).map (·.size) = some cs.size) : YieldsIf P ops S op (.agg cs) a :=
  .inl ⟨hw, fun w hw' => by
    unfold execOp
    simp only [ho, hx, Instr.loadAt, Instr.sureAddr, Sem.run_bind, Sem.run_pure, Result.andThen_ok, run_loadVar_row w g t ty cs (0, 0) d (hS w hw') hu hd hi]⟩

/-- What ip.Get hands back: its result's variable, and the number. -/
theorem ipGet_res (w : World) (g : Nat) (tmps : Array Value) (cs : Array Value) (u : Value) (hp : tmps.getD 2 undef = .pointer (some ⟨g, 0, none⟩)) (hu : tmps.getD 3 undef = u) (hs : cs.size = 10) (hb : Blk w g 25 cs) :
    (results Tryd.f11 tmps).run Tryd.prog w = .ok (.tuple #[.agg cs, u]) w := by
  rw [results_cell_tmp Tryd.results11, hp, hu]
  have h1 : (asAddr (.pointer (some ⟨g, 0, none⟩))).run Tryd.prog w = .ok ⟨g, 0, none⟩ w := rfl
  have h2 := run_loadVar_row (P := Tryd.prog) w g 25 25 cs (0, 0) _ hb Tryd.underlying25 rfl (by rw [hs]; exact ip_info)
  rw [h1]
  simp only [Result.andThen]
  rw [h2]

set_option maxRecDepth 100000 in
set_option maxHeartbeats 2000000 in
theorem ipGet_bad (A : Option Addr) (n c : Nat) (code : Nat) (w : World) (hv : ErrVar w) (hget : ∀ W, Below w.heap.size w W → Calls Tryd.prog 22 #[.slice A n c] W fun e w' => Faulty W w' e code) :
    Calls Tryd.prog 11 #[.slice A n c] w fun e w' => e = .returned (.tuple #[.agg #[.int .i64 0, .int .i64 0, .int .i64 0, .int .i64 0, .int .i64 0, .int .i64 0, .int .u32 0, .int .u32 0, .slice none 0 0, .slice none 0 0], .int .i64 code]) ∧ Below w.heap.size w w' := by
  have hb0 : Below w.heap.size w (w.alloc (.cells #[.int .i64 0, .int .i64 0, .int .i64 0, .int .i64 0, .int .i64 0, .int .i64 0, .int .u32 0, .int .u32 0, .slice none 0 0, .slice none 0 0] 25)) := (Below.refl _ _).alloc (Nat.le_refl _) _
  have HG := Lib.hid (hget _ hb0)
  have HV := Lib.hid hv
  have HB0 := Lib.hid hb0
  clear hget hv hb0
  go_enter Tryd.func11, Tryd.ntmps11
  go_wp2_with fail
  refine HG.out.mono ?_
  rintro e w1 ⟨g, rfl, hcg, hb1⟩
  have hB1 := below_then HB0.out HB0.out.size hb1
  have hz : Blk w1 w.heap.size 25 #[.int .i64 0, .int .i64 0, .int .i64 0, .int .i64 0, .int .i64 0, .int .i64 0, .int .u32 0, .int .u32 0, .slice none 0 0, .slice none 0 0] := (Blk.new w _ _).below hb1 (by simp)
  go_wp2_with fail
  obtain ⟨W2, hW2⟩ : ∃ W2, W2 = w1.alloc (.cells #[.int .i64 0, .int .i64 0, .int .i64 0, .int .i64 0, .int .i64 0, .int .i64 0, .int .u32 0, .int .u32 0, .slice none 0 0, .slice none 0 0] 25) := ⟨_, rfl⟩
  have hb2 : Below w1.heap.size w1 W2 := by rw [hW2]; exact (Below.refl _ _).alloc (Nat.le_refl _) _
  have hgb : Blk W2 w1.heap.size 25 #[.int .i64 0, .int .i64 0, .int .i64 0, .int .i64 0, .int .i64 0, .int .i64 0, .int .u32 0, .int .u32 0, .slice none 0 0, .slice none 0 0] := by rw [hW2]; exact Blk.new w1 25 #[.int .i64 0, .int .i64 0, .int .i64 0, .int .i64 0, .int .i64 0, .int .i64 0, .int .u32 0, .int .u32 0, .slice none 0 0, .slice none 0 0]
  have hz2 : Blk W2 w.heap.size 25 #[.int .i64 0, .int .i64 0, .int .i64 0, .int .i64 0, .int .i64 0, .int .i64 0, .int .u32 0, .int .u32 0, .slice none 0 0, .slice none 0 0] := hz.below hb2 hz.lt
  have hB2 := below_then hB1 hB1.size hb2
  rw [← hW2]
  clear hW2
  refine wp_region_noPanic ?_
  refine wp_region_held_drew (S := fun W => Blk W w1.heap.size 25 #[.int .i64 0, .int .i64 0, .int .i64 0, .int .i64 0, .int .i64 0, .int .i64 0, .int .u32 0, .int .u32 0, .slice none 0 0, .slice none 0 0]) (by kernel_rfl) hgb (fun hHeld => ?_)
  refine wpAnyH_take (i := 1) (v := _) rfl (by kernel_rfl) (by kernel_rfl) (by kernel_rfl) (fun _ _ _ h => h) (Or.inl ⟨by rfl, fun w hSw => rfl⟩) (by assumption) ?_
  try simp only [Act.put, List.setIfInBounds_toArray, List.set_cons_zero, List.set_cons_succ]
  refine wpAnyH_take (i := 0) (v := _) rfl (by kernel_rfl) (by kernel_rfl) (by kernel_rfl) (fun _ _ _ h => h) (yieldsIf_load_row (by rfl) 25 (.tmp 4) rfl w1.heap.size rfl 25 _ _ (fun _ h => h) Tryd.underlying25 rfl ip_info) (by assumption) ?_
  try simp only [Act.put, List.setIfInBounds_toArray, List.set_cons_zero, List.set_cons_succ]
  refine wpAnyH_ready (rs := [2]) (by kernel_rfl) (by simp) (AllReadyH.cons rfl (fun K hK => ?_) AllReadyH.nil)
  rw [if_pos (by rfl)]
  go_simp
  have hcg2 : W2.cell? ⟨g, 0, none⟩ = some (.int .i64 code) := (hb2.cell (p := ⟨g, 0, none⟩) (World.block_lt_of_cell? w1 _ hcg)).trans hcg
  refine (iperrno_hit g code W2.drew (HV.out.below hB2.drew) hcg2).mono ?_
  rintro e W3 ⟨rfl, hb3⟩
  have hB3 : Below W2.heap.size W2 W3 := below_then (Below.refl W2.heap.size W2).drew (Nat.le_refl _) hb3
  have hz3 : Blk W3 w.heap.size 25 #[.int .i64 0, .int .i64 0, .int .i64 0, .int .i64 0, .int .i64 0, .int .i64 0, .int .u32 0, .int .u32 0, .slice none 0 0, .slice none 0 0] := hz2.below hB3 hz2.lt
  have hg3 : Blk W3 w1.heap.size 25 #[.int .i64 0, .int .i64 0, .int .i64 0, .int .i64 0, .int .i64 0, .int .i64 0, .int .u32 0, .int .u32 0, .slice none 0 0, .slice none 0 0] := hgb.below hB3 hgb.lt
  refine hK.out _ _ hg3 (fun _ => ?_)
  clear hK K
  try simp only [Act.put, List.setIfInBounds_toArray, List.set_cons_zero, List.set_cons_succ]
  refine wpAnyH_ready (rs := [3]) (by kernel_rfl) (by simp) (AllReadyH.cons rfl (fun K hK => ?_) AllReadyH.nil)
  rw [if_pos (by rfl)]
  refine wp_store_row 25 (.tmp 2) (.tmp 11) rfl w.heap.size #[.int .i64 0, .int .i64 0, .int .i64 0, .int .i64 0, .int .i64 0, .int .i64 0, .int .u32 0, .int .u32 0, .slice none 0 0, .slice none 0 0] rfl rfl 25 _ hz3 ip_info rfl (by simp [Value.oneCell']) ?_
  have hz4 : Blk (W3.setRow w.heap.size #[.int .i64 0, .int .i64 0, .int .i64 0, .int .i64 0, .int .i64 0, .int .i64 0, .int .u32 0, .int .u32 0, .slice none 0 0, .slice none 0 0]) w.heap.size 25 #[.int .i64 0, .int .i64 0, .int .i64 0, .int .i64 0, .int .i64 0, .int .i64 0, .int .u32 0, .int .u32 0, .slice none 0 0, .slice none 0 0] := setRow_heap _ _ _ _ _ _ hz3
  have hg4 : Blk (W3.setRow w.heap.size #[.int .i64 0, .int .i64 0, .int .i64 0, .int .i64 0, .int .i64 0, .int .i64 0, .int .u32 0, .int .u32 0, .slice none 0 0, .slice none 0 0]) w1.heap.size 25 #[.int .i64 0, .int .i64 0, .int .i64 0, .int .i64 0, .int .i64 0, .int .i64 0, .int .u32 0, .int .u32 0, .slice none 0 0, .slice none 0 0] := (setRow_other W3 w.heap.size w1.heap.size _ (by have := hz.lt; omega)).trans hg3
  have hB4 : Below w.heap.size w (W3.setRow w.heap.size #[.int .i64 0, .int .i64 0, .int .i64 0, .int .i64 0, .int .i64 0, .int .i64 0, .int .u32 0, .int .u32 0, .slice none 0 0, .slice none 0 0]) := below_setRow (below_then hB2 hB2.size hB3) (Nat.le_refl _) _
  have hG4 : W3.grownBy (W3.setRow w.heap.size #[.int .i64 0, .int .i64 0, .int .i64 0, .int .i64 0, .int .i64 0, .int .i64 0, .int .u32 0, .int .u32 0, .slice none 0 0, .slice none 0 0]) (some w.heap.size) := only_setRow (World.grownBy.refl _ _) _
  refine hK.out _ _ hg4 (fun _ => ?_)
  clear hK K
  try simp only [Act.put, List.setIfInBounds_toArray, List.set_cons_zero, List.set_cons_succ]
  refine wpAnyH_ready (rs := [4]) (by kernel_rfl) (by simp) (AllReadyH.cons rfl (fun K hK => ?_) AllReadyH.nil)
  rw [if_pos (by rfl)]
  go_simp
  refine hK.out _ _ hg4 (fun _ => ?_)
  clear hK K
  try simp only [Act.put, List.setIfInBounds_toArray, List.set_cons_zero, List.set_cons_succ]
  refine wpAnyH_done (by kernel_rfl) ?_ _
  refine NoPanic.normal ?_
  go_wp2_with fail
  exact bodyPost_ret (ipGet_res _ _ _ _ _ rfl rfl rfl hz4) rfl ⟨rfl, hB4⟩

set_option maxRecDepth 100000 in
set_option maxHeartbeats 2000000 in
theorem ipGet_good (A : Option Addr) (n c : Nat) (a0 a1 a2 a3 a4 a5 a6 a7 : Int) (o d : List UInt8) (w : World) (hv : ErrVar w) (hget : ∀ W, Below w.heap.size w W → Calls Tryd.prog 22 #[.slice A n c] W fun e w' => ∃ v8 v9, e = .returned (.tuple #[.agg #[.int .i64 a0, .int .i64 a1, .int .i64 a2, .int .i64 a3, .int .i64 a4, .int .i64 a5, .int .u32 a6, .int .u32 a7, v8, v9], .nilIface]) ∧ w'.ownsRow W.heap.size 5 1 v8 o.length (bytesV o) ∧ w'.ownsRow W.heap.size 5 1 v9 d.length (bytesV d) ∧ Below W.heap.size W w') :
    Calls Tryd.prog 11 #[.slice A n c] w fun e w' => ∃ A8 k8 A9 k9, e = .returned (.tuple #[.agg #[.int .i64 a0, .int .i64 a1, .int .i64 a2, .int .i64 a3, .int .i64 a4, .int .i64 a5, .int .u32 a6, .int .u32 a7, .slice A8 o.length k8, .slice A9 d.length k9], .int .i64 0]) ∧ w'.ownsRow w.heap.size 5 1 (.slice A8 o.length k8) o.length (bytesV o) ∧ w'.ownsRow w.heap.size 5 1 (.slice A9 d.length k9) d.length (bytesV d) ∧ Below w.heap.size w w' := by
  have hb0 : Below w.heap.size w (w.alloc (.cells #[.int .i64 0, .int .i64 0, .int .i64 0, .int .i64 0, .int .i64 0, .int .i64 0, .int .u32 0, .int .u32 0, .slice none 0 0, .slice none 0 0] 25)) := (Below.refl _ _).alloc (Nat.le_refl _) _
  have HG := Lib.hid (hget _ hb0)
  have HV := Lib.hid hv
  have HB0 := Lib.hid hb0
  clear hget hv hb0
  go_enter Tryd.func11, Tryd.ntmps11
  go_wp2_with fail
  refine HG.out.mono ?_
  rintro e w1 ⟨v8, v9, rfl, hown8, hown9, hb1⟩
  obtain ⟨A8, k8, rfl, _, _, _, _⟩ := own_slice hown8
  obtain ⟨A9, k9, rfl, _, _, _, _⟩ := own_slice hown9
  have HO8 := Lib.hid hown8
  have HO9 := Lib.hid hown9
  clear hown8 hown9
  have hB1 := below_then HB0.out HB0.out.size hb1
  have hz : Blk w1 w.heap.size 25 #[.int .i64 0, .int .i64 0, .int .i64 0, .int .i64 0, .int .i64 0, .int .i64 0, .int .u32 0, .int .u32 0, .slice none 0 0, .slice none 0 0] := (Blk.new w _ _).below hb1 (by simp)
  go_wp2_with fail
  obtain ⟨W2, hW2⟩ : ∃ W2, W2 = w1.alloc (.cells #[.int .i64 a0, .int .i64 a1, .int .i64 a2, .int .i64 a3, .int .i64 a4, .int .i64 a5, .int .u32 a6, .int .u32 a7, .slice A8 o.length k8, .slice A9 d.length k9] 25) := ⟨_, rfl⟩
  have hb2 : Below w1.heap.size w1 W2 := by rw [hW2]; exact (Below.refl _ _).alloc (Nat.le_refl _) _
  have hgb : Blk W2 w1.heap.size 25 #[.int .i64 a0, .int .i64 a1, .int .i64 a2, .int .i64 a3, .int .i64 a4, .int .i64 a5, .int .u32 a6, .int .u32 a7, .slice A8 o.length k8, .slice A9 d.length k9] := by rw [hW2]; exact Blk.new w1 25 #[.int .i64 a0, .int .i64 a1, .int .i64 a2, .int .i64 a3, .int .i64 a4, .int .i64 a5, .int .u32 a6, .int .u32 a7, .slice A8 o.length k8, .slice A9 d.length k9]
  have hz2 : Blk W2 w.heap.size 25 #[.int .i64 0, .int .i64 0, .int .i64 0, .int .i64 0, .int .i64 0, .int .i64 0, .int .u32 0, .int .u32 0, .slice none 0 0, .slice none 0 0] := hz.below hb2 hz.lt
  have hB2 := below_then hB1 hB1.size hb2
  rw [← hW2]
  clear hW2
  refine wp_region_noPanic ?_
  refine wp_region_held_drew (S := fun W => Blk W w1.heap.size 25 #[.int .i64 a0, .int .i64 a1, .int .i64 a2, .int .i64 a3, .int .i64 a4, .int .i64 a5, .int .u32 a6, .int .u32 a7, .slice A8 o.length k8, .slice A9 d.length k9]) (by kernel_rfl) hgb (fun hHeld => ?_)
  refine wpAnyH_take (i := 1) (v := _) rfl (by kernel_rfl) (by kernel_rfl) (by kernel_rfl) (fun _ _ _ h => h) (Or.inl ⟨by rfl, fun w hSw => rfl⟩) (by assumption) ?_
  try simp only [Act.put, List.setIfInBounds_toArray, List.set_cons_zero, List.set_cons_succ]
  refine wpAnyH_take (i := 0) (v := _) rfl (by kernel_rfl) (by kernel_rfl) (by kernel_rfl) (fun _ _ _ h => h) (yieldsIf_load_row (by rfl) 25 (.tmp 4) rfl w1.heap.size rfl 25 _ _ (fun _ h => h) Tryd.underlying25 rfl ip_info) (by assumption) ?_
  try simp only [Act.put, List.setIfInBounds_toArray, List.set_cons_zero, List.set_cons_succ]
  refine wpAnyH_ready (rs := [2]) (by kernel_rfl) (by simp) (AllReadyH.cons rfl (fun K hK => ?_) AllReadyH.nil)
  rw [if_pos (by rfl)]
  go_simp
  refine (iperrno_nil W2.drew).mono ?_
  rintro e W3 ⟨rfl, hb3⟩
  have hB3 : Below W2.heap.size W2 W3 := below_then (Below.refl W2.heap.size W2).drew (Nat.le_refl _) hb3
  have hz3 : Blk W3 w.heap.size 25 #[.int .i64 0, .int .i64 0, .int .i64 0, .int .i64 0, .int .i64 0, .int .i64 0, .int .u32 0, .int .u32 0, .slice none 0 0, .slice none 0 0] := hz2.below hB3 hz2.lt
  have hg3 : Blk W3 w1.heap.size 25 #[.int .i64 a0, .int .i64 a1, .int .i64 a2, .int .i64 a3, .int .i64 a4, .int .i64 a5, .int .u32 a6, .int .u32 a7, .slice A8 o.length k8, .slice A9 d.length k9] := hgb.below hB3 hgb.lt
  refine hK.out _ _ hg3 (fun _ => ?_)
  clear hK K
  try simp only [Act.put, List.setIfInBounds_toArray, List.set_cons_zero, List.set_cons_succ]
  refine wpAnyH_ready (rs := [3]) (by kernel_rfl) (by simp) (AllReadyH.cons rfl (fun K hK => ?_) AllReadyH.nil)
  rw [if_pos (by rfl)]
  refine wp_store_row 25 (.tmp 2) (.tmp 11) rfl w.heap.size #[.int .i64 a0, .int .i64 a1, .int .i64 a2, .int .i64 a3, .int .i64 a4, .int .i64 a5, .int .u32 a6, .int .u32 a7, .slice A8 o.length k8, .slice A9 d.length k9] rfl rfl 25 _ hz3 ip_info rfl (by simp [Value.oneCell']) ?_
  have hz4 : Blk (W3.setRow w.heap.size #[.int .i64 a0, .int .i64 a1, .int .i64 a2, .int .i64 a3, .int .i64 a4, .int .i64 a5, .int .u32 a6, .int .u32 a7, .slice A8 o.length k8, .slice A9 d.length k9]) w.heap.size 25 #[.int .i64 a0, .int .i64 a1, .int .i64 a2, .int .i64 a3, .int .i64 a4, .int .i64 a5, .int .u32 a6, .int .u32 a7, .slice A8 o.length k8, .slice A9 d.length k9] := setRow_heap _ _ _ _ _ _ hz3
  have hg4 : Blk (W3.setRow w.heap.size #[.int .i64 a0, .int .i64 a1, .int .i64 a2, .int .i64 a3, .int .i64 a4, .int .i64 a5, .int .u32 a6, .int .u32 a7, .slice A8 o.length k8, .slice A9 d.length k9]) w1.heap.size 25 #[.int .i64 a0, .int .i64 a1, .int .i64 a2, .int .i64 a3, .int .i64 a4, .int .i64 a5, .int .u32 a6, .int .u32 a7, .slice A8 o.length k8, .slice A9 d.length k9] := (setRow_other W3 w.heap.size w1.heap.size _ (by have := hz.lt; omega)).trans hg3
  have hB4 : Below w.heap.size w (W3.setRow w.heap.size #[.int .i64 a0, .int .i64 a1, .int .i64 a2, .int .i64 a3, .int .i64 a4, .int .i64 a5, .int .u32 a6, .int .u32 a7, .slice A8 o.length k8, .slice A9 d.length k9]) := below_setRow (below_then hB2 hB2.size hB3) (Nat.le_refl _) _
  have hG4 : W3.grownBy (W3.setRow w.heap.size #[.int .i64 a0, .int .i64 a1, .int .i64 a2, .int .i64 a3, .int .i64 a4, .int .i64 a5, .int .u32 a6, .int .u32 a7, .slice A8 o.length k8, .slice A9 d.length k9]) (some w.heap.size) := only_setRow (World.grownBy.refl _ _) _
  refine hK.out _ _ hg4 (fun _ => ?_)
  clear hK K
  try simp only [Act.put, List.setIfInBounds_toArray, List.set_cons_zero, List.set_cons_succ]
  refine wpAnyH_ready (rs := [4]) (by kernel_rfl) (by simp) (AllReadyH.cons rfl (fun K hK => ?_) AllReadyH.nil)
  rw [if_pos (by rfl)]
  go_simp
  refine hK.out _ _ hg4 (fun _ => ?_)
  clear hK K
  try simp only [Act.put, List.setIfInBounds_toArray, List.set_cons_zero, List.set_cons_succ]
  refine wpAnyH_done (by kernel_rfl) ?_ _
  refine NoPanic.normal ?_
  go_wp2_with fail
  have hs : w.heap.size < (w.alloc (.cells #[.int .i64 0, .int .i64 0, .int .i64 0, .int .i64 0, .int .i64 0, .int .i64 0, .int .u32 0, .int .u32 0, .slice none 0 0, .slice none 0 0] 25)).heap.size := by simp
  have hb13 : Below w1.heap.size w1 W3 := below_then hb2 hb2.size hB3
  exact bodyPost_ret (ipGet_res _ _ _ _ _ rfl rfl rfl hz4) rfl ⟨A8, k8, A9, k9, rfl, own_lower (own_only (own_below HO8.out hb13) hG4 hs) (Nat.le_of_lt hs), own_lower (own_only (own_below HO9.out hb13) hG4 hs) (Nat.le_of_lt hs), hB4⟩
end Go.Proofs.YtfkkjhfncmfahaaDoor
