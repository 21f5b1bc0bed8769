/- slices.Chunk at bytes: the pieces that it hands on. -/
import Derived.Test.YtfkkjhfncmfahaaDoorProg
import Derived.Test.YtfkkjhfncmfahaaDoorA0
import Derived.Below
import Derived.Lib.Hide
import Derived.RangeFuncNested
import Derived.RangeFuncBox
import Derived.RangeFuncBound
import Derived.RangeFuncCalls
import Derived.RangeFuncLeaves
import Derived.Shelf.Abstract
import Derived.Shelf.RegionOpen
import Derived.OwnWalkIn
import Derived.TacticsInMore
import Derived.LoopNIn
import Derived.LoopIn
import Derived.Sort.QuietIn
namespace Go.Proofs.YtfkkjhfncmfahaaDoor
open Go.RowKit Go.Shelf
attribute [local go_sem] Oper.semAt_some

/-- How many bytes piece number k has. -/
def pcN (s n k : Nat) : Nat := min s (n - k * s)
/-- How many pieces there are. -/
def pcK (s n : Nat) : Nat := (n + s - 1) / s
theorem pcK_lt (s n k : Nat) (hs : 0 < s) (h : k * s < n) : k < pcK s n := by
  unfold pcK
  rw [Nat.lt_div_iff_mul_lt hs]
  omega
theorem pcK_le (s n k : Nat) (hs : 0 < s) (h : n ≤ k * s) (h2 : k ≤ pcK s n) : k = pcK s n := by
  refine Nat.le_antisymm h2 ?_
  unfold pcK
  rw [Nat.div_le_iff_le_mul_add_pred hs]
  rw [Nat.mul_comm s k]
  omega
theorem pcK_succ (s n k : Nat) (hs : 0 < s) (h : k * s < n) : k + 1 ≤ pcK s n := pcK_lt s n k hs h

/-- What a round keeps: what lies below n0, and the two boxes of the iterator. -/
def KpC (n0 Bs Bn : Nat) (W W' : World) : Prop := Below n0 W W' ∧ W'.heap[Bs]? = W.heap[Bs]? ∧ W'.heap[Bn]? = W.heap[Bn]?
theorem KpC.refl (n0 Bs Bn : Nat) (W : World) : KpC n0 Bs Bn W W := ⟨Below.refl _ _, rfl, rfl⟩
theorem KpC.trans {n0 Bs Bn : Nat} {A B C : World} (h : KpC n0 Bs Bn A B) (k : KpC n0 Bs Bn B C) : KpC n0 Bs Bn A C := ⟨h.1.trans k.1, k.2.1.trans h.2.1, k.2.2.trans h.2.2⟩
theorem KpC.undrew {n0 Bs Bn n : Nat} {A B : World} (h : KpC n0 Bs Bn (A.drewN n) B) : KpC n0 Bs Bn A B := ⟨⟨h.1.os, h.1.tape, h.1.output, h.1.size, h.1.block⟩, h.2⟩
theorem KpC.cells {n0 Bs Bn : Nat} {A B : World} (h : KpC n0 Bs Bn A B) : B.cell? ⟨Bs, 0, none⟩ = A.cell? ⟨Bs, 0, none⟩ ∧ B.cell? ⟨Bn, 0, none⟩ = A.cell? ⟨Bn, 0, none⟩ :=
  ⟨World.cell?_of_block h.2.1, World.cell?_of_block h.2.2⟩
theorem KpC.put {n0 Bs Bn : Nat} {w : World} (hn : n0 ≤ w.heap.size) (hs : Bs < w.heap.size) (hb : Bn < w.heap.size) (W : World) (l : Nat) (o o' : Obj) (hl : w.heap.size ≤ l) (ho : W.heap[l]? = some o) (hc : o.isCells = false) (hk : o.isWalk = false) : KpC n0 Bs Bn W (W.putObj l o') :=
  ⟨belowK_b (w := w) hn W l o o' hl ho hc hk, World.putObj_heap_other (by omega), World.putObj_heap_other (by omega)⟩

set_option maxRecDepth 100000 in
set_option maxHeartbeats 2000000 in
theorem chunk1_in (f : Nat) (hf : 1 ≤ f) (l Bs Bn n0 b o n c s : Nat) (hs : 0 < s) (hsm : s ≤ 140737488355328) (hn : n ≤ 140737488355328) (hc : n ≤ c) (J Jx : List Nat → World → Prop) (hJd : ∀ pre W n, J pre W → J pre (W.drewN n))
    (hY : ∀ pre x W, J pre W → pre.length < pcK s n → YieldAt Fence.wide (f - 1) Tryd.prog l #[.slice (some ⟨b, o + x * s, none⟩) (pcN s n x) (pcN s n x)] W fun e W' =>
      (e = .returned (.bool true) ∧ J (pre ++ [x]) W' ∧ KpC n0 Bs Bn W W') ∨ (e = .returned (.bool false) ∧ Jx (pre ++ [x]) W'))
    (W : World) (hBs : W.cell? ⟨Bs, 0, none⟩ = some (.slice (some ⟨b, o, none⟩) n c)) (hBn : W.cell? ⟨Bn, 0, none⟩ = some (.int .i64 s)) (h0 : J [] W) :
    CallsIn Fence.wide f Tryd.prog 26 #[.func (.yield l) #[] #[], .pointer (some ⟨Bs, 0, none⟩), .pointer (some ⟨Bn, 0, none⟩)] W fun e W' => (∃ v, e = .returned v) ∧
      ((∃ ys, ys = List.range (pcK s n) ∧ J ys W') ∨ (∃ pre, (∃ k, pre = List.range k) ∧ Jx pre W')) := by
  have HY := Lib.hid hY
  clear hY
  refine callsIn_of_wp Tryd.func26 rfl trivial ?_ rfl
  simp only [Tryd.ntmps26, List.size_toArray, List.length_cons, List.length_nil, Nat.reduceAdd, Nat.reduceSub, Array.replicate_succ, Array.replicate_zero, List.push_toArray, List.append_toArray, List.nil_append, List.cons_append]
  gi_wp2
  gi_loopw [4] (fun i wr => ∃ k j : Nat, j = k * s ∧ k ≤ pcK s n ∧ j ≤ n + s ∧ i = .int .i64 j ∧ J (List.range k) wr ∧ KpC n0 Bs Bn W wr) (fun i _ => n - (intOf i).toNat)
  case atStart => exact ⟨0, 0, by simp, Nat.zero_le _, by omega, rfl, h0, KpC.refl _ _ _ _⟩
  case round =>
    obtain ⟨k, j, hj, hk, hjn, rfl, hJ, hK⟩ := hrel
    have hBs' := hK.cells.1.trans hBs
    have hBn' := hK.cells.2.trans hBn
    by_cases hlt : j < n
    · have hkl := pcK_lt s n k hs (hj ▸ hlt)
      obtain ⟨m, hm⟩ : ∃ m, pcN s n k = m := ⟨_, rfl⟩
      have hm2 : m = min s (n - j) := by rw [← hm, hj]; rfl
      have HJ := Lib.hid hj
      have HM := Lib.hid hm
      clear hj hm
      have HKp := Lib.hid hK
      clear hK
      have hcj : ¬ c = j := by omega
      have hmp : 0 < m := by omega
      have hmj : ¬ j + m = j := by omega
      have HM2 := Lib.hid hm2
      clear hm2
      have hj0 : (0 : Int) ≤ j := by omega
      have hjn1 : (j : Int) ≤ n := by omega
      have hjc1 : (j : Int) ≤ c := by omega
      have hjm : j + m ≤ n := by have := HM2.out; omega
      have hms : m ≤ s := by have := HM2.out; omega
      have hmin : (if n - j < s then ((n - j : Nat) : Int) else (s : Int)) = (m : Int) := by have := HM2.out; split <;> omega
      have HMIN := Lib.hid hmin
      clear hmin
      gi_wp2
      gi_quiet (fail)
      simp only [HMIN.out]
      obtain ⟨fn, tmps, assign, body, hy, hR⟩ := HY.out _ k (wr.drewN nq) (hJd _ _ _ hJ) (by rw [List.length_range]; exact hkl)
      rw [HM.out, ← HJ.out] at hy
      gi_wp2
      refine hR.mono ?_
      rintro e W3 (⟨rfl, hJ3, hk3⟩ | ⟨rfl, hJx3⟩)
      · have hK3 : KpC n0 Bs Bn W W3 := HKp.out.trans hk3.undrew
        have hBn3 := hK3.cells.2.trans hBn
        rw [← List.range_succ] at hJ3
        have HJ3 := Lib.hid hJ3
        have HK3 := Lib.hid hK3
        have hks : j + s = (k + 1) * s := by rw [HJ.out, Nat.succ_mul]
        have HKS := Lib.hid hks
        clear hks hK3 hJ3 hy hR
        gi_wp2
        go_roundw
        case rel => exact ⟨k + 1, j + s, HKS.out, hkl, by omega, by go_num, HJ3.out, HK3.out⟩
        case measure => simp [intOf]; omega
      · gi_wp2
        refine bodyPost_ret (results_none rfl _ _ _) rfl ?_
        exact ⟨⟨_, rfl⟩, .inr ⟨_, ⟨k + 1, rfl⟩, by rw [List.range_succ]; exact hJx3⟩⟩
    · have hkk : k = pcK s n := pcK_le s n k hs (by omega) hk
      have HKK := Lib.hid hkk
      clear hkk hj
      gi_wp2
      go_end0
      exact ⟨⟨_, rfl⟩, .inl ⟨_, by rw [← HKK.out], hJ⟩⟩

set_option maxHeartbeats 1000000 in
theorem chunk_any (A : Option Addr) (n c : Nat) (s : Int) (w : World) (hs : 1 ≤ s) :
    Calls Tryd.prog 14 #[.slice A n c, .int .i64 s] w fun e w' => e = .returned (.func (.func 26) #[] #[.pointer (some ⟨w.heap.size, 0, none⟩), .pointer (some ⟨w.heap.size + 1, 0, none⟩)]) ∧ w' = (w.alloc (.cells #[.slice A n c] 23)).alloc (.cells #[.int .i64 s] 3) := by
  go_enter Tryd.func14, Tryd.ntmps14
  go_wp2_with fail
  go_ret
  exact ⟨rfl, rfl⟩
theorem chunk_stops (f : Nat) (hf : 1 ≤ f) (Bs Bn n0 b o n c s : Nat) (hs : 0 < s) (hsm : s ≤ 140737488355328) (hn : n ≤ 140737488355328) (hc : n ≤ c) (w : World) (hBs : w.cell? ⟨Bs, 0, none⟩ = some (.slice (some ⟨b, o, none⟩) n c)) (hBn : w.cell? ⟨Bn, 0, none⟩ = some (.int .i64 s)) (hl1 : Bs < w.heap.size) (hl2 : Bn < w.heap.size) :
    SeqStopsK Fence.wide f Tryd.prog 26 #[.pointer (some ⟨Bs, 0, none⟩), .pointer (some ⟨Bn, 0, none⟩)] (fun x : Nat => #[Value.slice (some ⟨b, o + x * s, none⟩) (pcN s n x) (pcN s n x)]) (KpC n0 Bs Bn) (fun ys => ys = List.range (pcK s n)) (fun pre => ∃ k, pre = List.range k) (pcK s n) w := fun l J Jx W hW hJ hJx hY h0 =>
  chunk1_in f hf l Bs Bn n0 b o n c s hs hsm hn hc J Jx (fun pre W1 k h => hJ pre W1 (W1.drewN k) none h (only_drewN (World.grownBy.refl _ _) k) (fun r e => by cases e)) hY W ((hW.cell (p := ⟨Bs, 0, none⟩) hl1).trans hBs) ((hW.cell (p := ⟨Bn, 0, none⟩) hl2).trans hBn) h0
end Go.Proofs.YtfkkjhfncmfahaaDoor
