/- ip.get: the later faults. -/
import Derived.Test.YtfkkjhfncmfahaaDoorProg
import Derived.Test.YtfkkjhfncmfahaaDoorA0
import Derived.Test.YtfkkjhfncmfahaaDoorB0
import Derived.Test.YtfkkjhfncmfahaaDoorB1
import Derived.Test.YtfkkjhfncmfahaaDoorS1
import Derived.Test.YtfkkjhfncmfahaaDoorS2
import Derived.Test.YtfkkjhfncmfahaaDoorB2
import Derived.Test.YtfkkjhfncmfahaaDoorG1
import Derived.Test.YtfkkjhfncmfahaaDoorG2
import Derived.Test.YtfkkjhfncmfahaaDoorG3
import Derived.Laws.ResultCell
namespace Go.Proofs.YtfkkjhfncmfahaaDoor
open Go.RowKit Go.Deep

theorem take_reads {w : World} {B b o n : Nat} {bs : List UInt8} (h : Reads w B 1 (some ⟨b, o, none⟩) n (bytesV bs)) {k : Nat} (hk : k ≤ n) : Reads w B 1 (some ⟨b, o, none⟩) k (bytesV (bs.take k)) := by
  have := h.take hk
  rwa [Nat.mul_one, bytesV_take] at this

set_option maxRecDepth 100000 in
set_option maxHeartbeats 2000000 in
theorem ipget_cut (b o n c : Nat) (bs : List UInt8) (w : World) (hl : bs.length = n) (hc : n ≤ c) (hn : n ≤ 140737488355328) (h20 : 20 ≤ n) (hr : Reads w w.heap.size 1 (some ⟨b, o, none⟩) n (bytesV bs))
    (hok : (bs.getD 0 0).toNat / 16 = 4) (hh : 20 ≤ ipH bs) (hlt : n < ipH bs) :
    Calls Tryd.prog 22 #[.slice (some ⟨b, o, none⟩) n c] w fun e w' => Faulty w w' e 160 := by
  obtain ⟨b', o', e, hbb, hcell⟩ := hr.opn (by omega)
  injection e with e
  injection e with e1 e2
  subst e1 e2
  have hc0 := byte_at hcell hl (show 0 < n by omega)
  simp only [Nat.add_zero] at hc0
  obtain ⟨h, hhd⟩ : ∃ h, ipH bs = h := ⟨_, rfl⟩
  rw [hhd] at hh hlt
  unfold ipH at hhd
  obtain ⟨x, hx⟩ : ∃ x, (bs.getD 0 0).toNat = x := ⟨_, rfl⟩
  have hx2 : x < 256 := by rw [← hx]; exact UInt8.toNat_lt _
  rw [hx] at hc0 hok hhd
  have hand := and_15 x hx2
  have hmul : (x : Int) % 16 * 4 = (h : Int) := by omega
  have h6 : ((x : Int) / 16 == 4) = true := by rw [beq_iff_eq]; omega
  have h7 : ((x : Int) / 16 != 4) = false := by rw [bne_eq_false_iff_eq]; omega
  clear hx hcell hr hl hok hhd
  go_enter Tryd.func22, Tryd.ntmps22
  go_wp2_with (go_at_call 30; refine (ipno_any _ _).mono ?_; rintro e w1 ⟨rfl, rfl⟩)
  refine bodyPost_ret (v := .tuple #[.agg #[.int .i64 0, .int .i64 0, .int .i64 0, .int .i64 0, .int .i64 0, .int .i64 0, .int .u32 0, .int .u32 0, .slice none 0 0, .slice none 0 0], .iface 66 (.pointer (some ⟨w.heap.size + 1 + 1, 0, none⟩))]) (by simp [results, Tryd.results22, go_sem]) rfl ⟨_, rfl, (Blk.new' (by simp)).cell 0, ?_⟩
  exact (getbox w _).alloc (getbox w _).size _

theorem ip_info : (Tryd.prog.info? 25).map (·.size) = some 10 := by kernel_rfl
/-- What ip.get hands back: its result's variable, and the error. -/
theorem ipget_res (w : World) (g : Nat) (tmps : Array Value) (cs : Array Value) (u : Value) (hp : tmps.getD 2 undef = .pointer (some ⟨g, 0, none⟩)) (hu : tmps.getD 3 undef = u) (hs : cs.size = 10) (hb : Blk w g 25 cs) :
    (results Tryd.f22 tmps).run Tryd.prog w = .ok (.tuple #[.agg cs, u]) w := by
  rw [results_cell_tmp Tryd.results22, hp, hu]
  have h1 : (asAddr (.pointer (some ⟨g, 0, none⟩))).run Tryd.prog w = .ok ⟨g, 0, none⟩ w := rfl
  have h2 := run_loadVar_row (P := Tryd.prog) w g 25 25 cs (0, 0) _ hb Tryd.underlying25 rfl (by rw [hs]; exact ip_info)
  rw [h1]
  simp only [Result.andThen]
  rw [h2]

set_option maxRecDepth 100000 in
set_option maxHeartbeats 2000000 in
theorem ipget_sum (b o n c : Nat) (bs : List UInt8) (w : World) (hl : bs.length = n) (hc : n ≤ c) (hn : n ≤ 140737488355328) (h20 : 20 ≤ n) (hr : Reads w w.heap.size 1 (some ⟨b, o, none⟩) n (bytesV bs))
    (hok : (bs.getD 0 0).toNat / 16 = 4) (hh : 20 ≤ ipH bs) (hlt : ipH bs ≤ n) (hs : rightB (bs.take (ipH bs)) = false) :
    Calls Tryd.prog 22 #[.slice (some ⟨b, o, none⟩) n c] w fun e w' => Faulty w w' e 162 := by
  obtain ⟨b', o', e, hbb, hcell⟩ := hr.opn (by omega)
  injection e with e
  injection e with e1 e2
  subst e1 e2
  have hc0 := byte_at hcell hl (show 0 < n by omega)
  simp only [Nat.add_zero] at hc0
  obtain ⟨h, hhd⟩ : ∃ h, ipH bs = h := ⟨_, rfl⟩
  rw [hhd] at hh hlt hs
  have HR : Hid (∀ W, Below w.heap.size w W → Calls Tryd.prog 20 #[.slice (some ⟨b, o, none⟩) h c] W fun e w' => e = .returned (.bool false) ∧ Below W.heap.size W w') := fun W hW => by
    have := right_any (some ⟨b, o, none⟩) h c (bs.take h) W (by simp; omega) (by omega) (by omega) (((take_reads hr hlt).below hW).more hW.size)
    rwa [hs] at this
  unfold ipH at hhd
  obtain ⟨x, hx⟩ : ∃ x, (bs.getD 0 0).toNat = x := ⟨_, rfl⟩
  have hx2 : x < 256 := by rw [← hx]; exact UInt8.toNat_lt _
  rw [hx] at hc0 hok hhd
  have hand := and_15 x hx2
  have hmul : (x : Int) % 16 * 4 = (h : Int) := by omega
  have h6 : ((x : Int) / 16 == 4) = true := by rw [beq_iff_eq]; omega
  have h7 : ((x : Int) / 16 != 4) = false := by rw [bne_eq_false_iff_eq]; omega
  clear hx hcell hr hl hok hhd hs
  have hgb := getbox w (.slice (some ⟨b, o, none⟩) n c)
  have HGB := Lib.hid hgb
  clear hgb
  go_enter Tryd.func22, Tryd.ntmps22
  go_wp2_with fail
  refine (HR.out _ HGB.out).mono ?_
  rintro e w1 ⟨rfl, hb1⟩
  have hB1 := below_then HGB.out HGB.out.size hb1
  have HB1 := Lib.hid hB1
  have hblk := (Blk.new' (t := 25) (cs := #[.int .i64 0, .int .i64 0, .int .i64 0, .int .i64 0, .int .i64 0, .int .i64 0, .int .u32 0, .int .u32 0, .slice none 0 0, .slice none 0 0]) (w := w.alloc (.cells #[.slice (some ⟨b, o, none⟩) n c] 23)) (g := w.heap.size + 1) (by simp)).below hb1 (by simp)
  have HBLK := Lib.hid hblk
  clear hB1 hb1 hblk
  have HB2 := HBLK.out.alloc (.cells #[.int .i64 162] 70)
  have HB2H := Lib.hid HB2
  clear HB2
  go_wp2_with (first
    | (go_at_call 30; refine (ipno_any _ _).mono ?_; rintro e w2 ⟨rfl, rfl⟩)
    | ((refine wpList_store_row rfl 25 (.tmp 2) (.tmp 44) rfl (w.heap.size + 1) _ rfl rfl _ _ HB2H.out ip_info rfl (by simp [Value.oneCell']) ?_)))
  have hb3 : Blk ((w1.alloc (.cells #[.int .i64 162] 70)).setRow (w.heap.size + 1) #[.int .i64 0, .int .i64 0, .int .i64 0, .int .i64 0, .int .i64 0, .int .i64 0, .int .u32 0, .int .u32 0, .slice none 0 0, .slice none 0 0]) (w.heap.size + 1) 25 _ := setRow_heap _ _ _ _ _ _ HB2H.out
  have hlt1 := HBLK.out.lt
  refine bodyPost_ret (ipget_res _ _ _ _ _ rfl rfl rfl hb3) rfl ⟨_, rfl, ?_, ?_⟩
  · exact (cell_setRow_other _ _ _ _ (by simp; omega)).trans ((Blk.new' rfl).cell 0)
  · exact below_setRow (HB1.out.alloc HB1.out.size _) (by omega) _
end Go.Proofs.YtfkkjhfncmfahaaDoor
