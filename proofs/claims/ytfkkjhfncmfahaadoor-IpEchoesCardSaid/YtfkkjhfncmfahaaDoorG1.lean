/- ip.no, ip.errno, ip.get's number reader: what they answer. -/
import Derived.Test.YtfkkjhfncmfahaaDoorProg
import Derived.Test.YtfkkjhfncmfahaaDoorA0
import Derived.Test.YtfkkjhfncmfahaaDoorB0
import Derived.Test.YtfkkjhfncmfahaaDoorB1
import Derived.Test.YtfkkjhfncmfahaaDoorS1
import Derived.Test.YtfkkjhfncmfahaaDoorB2
import Derived.Test.YtfkkjhfncmfahaaDoorAS
namespace Go.Proofs.YtfkkjhfncmfahaaDoor
open Go.RowKit Go.Deep

/-- The handle of the type 'error', which errors.As reads. -/
def ErrVar (w : World) : Prop := w.cell? ⟨0, 0, none⟩ = some (.iface 86 (.agg #[.pointer (some ⟨1, 54, none⟩)]))
theorem ErrVar.below {w w' : World} (h : ErrVar w) (hb : Below w.heap.size w w') : ErrVar w' := (hb.cell (p := ⟨0, 0, none⟩) (World.block_lt_of_cell? w _ h)).trans h
theorem ipno_any (c : Int) (w : World) :
    Calls Tryd.prog 30 #[.int .i64 c] w fun e w' => e = .returned (.iface 66 (.pointer (some ⟨w.heap.size, 0, none⟩))) ∧ w' = w.alloc (.cells #[.int .i64 c] 70) := by
  go_enter Tryd.func30, Tryd.ntmps30
  go_wp2_with fail
  go_ret
  exact ⟨rfl, rfl⟩

theorem iperrno_nil (w : World) :
    Calls Tryd.prog 23 #[.nilIface] w fun e w' => e = .returned (.int .i64 0) ∧ Below w.heap.size w w' := by
  go_enter Tryd.func23, Tryd.ntmps23
  go_wp2_with (go_at_call 33; refine (as_nil_ip _ _).mono ?_; rintro e w1 ⟨rfl, rfl⟩)
  go_ret
  exact ⟨rfl, (Below.refl _ _).alloc (Nat.le_refl _) _⟩

theorem iperrno_hit (g : Nat) (c : Int) (w : World) (hv : ErrVar w) (hc : w.cell? ⟨g, 0, none⟩ = some (.int .i64 c)) :
    Calls Tryd.prog 23 #[.iface 66 (.pointer (some ⟨g, 0, none⟩))] w fun e w' => e = .returned (.int .i64 c) ∧ Below w.heap.size w w' := by
  have hlt := World.block_lt_of_cell? w _ hc
  have hglt := World.block_lt_of_cell? w _ hv
  simp only at hlt hglt
  have HH := Lib.hid (as_hit_ip ⟨g, 0, none⟩ ⟨w.heap.size, 0, none⟩ (.pointer none) (w.alloc (.cells #[.pointer none] 66)) ((World.cell?_alloc_lt w _ ⟨0, 0, none⟩ hglt).trans hv) (by simp) (by simp))
  have HV := Lib.hid hv
  clear hv
  go_enter Tryd.func23, Tryd.ntmps23
  go_wp2_with fail
  refine HH.out.mono ?_
  rintro e w1 ⟨rfl, hw1⟩
  have hB : Below w.heap.size w w1 := by
    rw [hw1]
    have h0 := (Below.refl w.heap.size w).alloc (Nat.le_refl _) (.cells #[.pointer none] 66)
    have h1 := h0.alloc h0.size (.cells #[.pointer (some ⟨w.heap.size, 0, none⟩)] 68)
    have h2 := h1.alloc h1.size (.cells #[.pointer (some ⟨1, 68, none⟩), .pointer (some ⟨(w.alloc (.cells #[.pointer none] 66)).heap.size, 0, none⟩), .int .u64 150] 76)
    have h3 := h2.alloc h2.size (.cells #[.pointer (some ⟨1, 68, none⟩), .pointer (some ⟨(w.alloc (.cells #[.pointer none] 66)).heap.size, 0, none⟩), .int .u64 150] 76)
    have h4 := h3.alloc h3.size (.cells #[.pointer (some ⟨g, 0, none⟩)] 66)
    exact h4.setCell (p := ⟨w.heap.size, 0, none⟩) (Nat.le_refl _) _
  have h3 : w1.cell? ⟨w.heap.size, 0, none⟩ = some (.pointer (some ⟨g, 0, none⟩)) := by
    rw [hw1]
    refine World.cell?_setCell_same' _ _ _ ?_
    rw [World.cell?_alloc_lt _ _ _ (by simp; omega), World.cell?_alloc_lt _ _ _ (by simp; omega), World.cell?_alloc_lt _ _ _ (by simp; omega), World.cell?_alloc_lt _ _ _ (by simp)]
    simp
  have h2 : w1.cell? ⟨g, 0, none⟩ = some (.int .i64 c) := (hB.cell (p := ⟨g, 0, none⟩) hlt).trans hc
  clear hw1 HH HV
  go_wp2_with fail
  go_ret
  exact ⟨rfl, hB⟩
end Go.Proofs.YtfkkjhfncmfahaaDoor
