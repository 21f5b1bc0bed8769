/- ip.get: which packets bytes are. -/
import Derived.Test.YtfkkjhfncmfahaaDoorProg
import Derived.Test.YtfkkjhfncmfahaaDoorA0
import Derived.Test.YtfkkjhfncmfahaaDoorB0
import Derived.Test.YtfkkjhfncmfahaaDoorB1
import Derived.Test.YtfkkjhfncmfahaaDoorS1
import Derived.Test.YtfkkjhfncmfahaaDoorS2
import Derived.Test.YtfkkjhfncmfahaaDoorB2
import Derived.Test.YtfkkjhfncmfahaaDoorG1
import Derived.Test.YtfkkjhfncmfahaaDoorG2
import Derived.Laws.ResultCell
namespace Go.Proofs.YtfkkjhfncmfahaaDoor
open Go.RowKit Go.Deep

def ipH (bs : List UInt8) : Nat := (bs.getD 0 0).toNat % 16 * 4
def ipAll (bs : List UInt8) : Nat := beN ((bs.drop 2).take 2)
/-- Why bytes are no packet; 0: they are one. -/
def ipErr (bs : List UInt8) : Nat :=
  if bs.length < 20 then 160
  else if (bs.getD 0 0).toNat / 16 ≠ 4 ∨ ipH bs < 20 then 161
  else if bs.length < ipH bs then 160
  else if rightB (bs.take (ipH bs)) = false then 162
  else if ipAll bs < ipH bs then 161
  else if bs.length < ipAll bs then 160
  else 0

/-- A fault with a code is told. -/
def Faulty (w w' : World) (e : Ending) (c : Nat) : Prop :=
  ∃ g, e = .returned (.tuple #[.agg #[.int .i64 0, .int .i64 0, .int .i64 0, .int .i64 0, .int .i64 0, .int .i64 0, .int .u32 0, .int .u32 0, .slice none 0 0, .slice none 0 0], .iface 66 (.pointer (some ⟨g, 0, none⟩))]) ∧ w'.cell? ⟨g, 0, none⟩ = some (.int .i64 c) ∧ Below w.heap.size w w'

set_option maxRecDepth 100000 in
set_option maxHeartbeats 2000000 in
theorem ipget_short (A : Option Addr) (n c : Nat) (bs : List UInt8) (w : World) (hl : bs.length = n) (hc : n ≤ c) (hn : n < 20) (hr : Reads w w.heap.size 1 A n (bytesV bs)) :
    Calls Tryd.prog 22 #[.slice A n c] w fun e w' => Faulty w w' e 160 := by
  clear hl hr
  go_enter Tryd.func22, Tryd.ntmps22
  go_wp2_with (go_at_call 30; refine (ipno_any _ _).mono ?_; rintro e w1 ⟨rfl, rfl⟩)
  refine bodyPost_ret (v := .tuple #[.agg #[.int .i64 0, .int .i64 0, .int .i64 0, .int .i64 0, .int .i64 0, .int .i64 0, .int .u32 0, .int .u32 0, .slice none 0 0, .slice none 0 0], .iface 66 (.pointer (some ⟨w.heap.size + 1 + 1, 0, none⟩))]) (by simp [results, Tryd.results22, go_sem]) rfl ⟨_, rfl, (Blk.new' (by simp)).cell 0, ?_⟩
  have h0 := (Below.refl w.heap.size w).alloc (Nat.le_refl _) (.cells #[.slice A n c] 23)
  have h1 := h0.alloc h0.size (.cells #[.int .i64 0, .int .i64 0, .int .i64 0, .int .i64 0, .int .i64 0, .int .i64 0, .int .u32 0, .int .u32 0, .slice none 0 0, .slice none 0 0] 25)
  exact h1.alloc h1.size _
theorem and_15 (x : Nat) (hx : x < 256) : bits .and .u8 (x : Int) 15 = (x : Int) % 16 := by
  have h : x &&& 15 = x % 16 := Nat.and_two_pow_sub_one_eq_mod x 4
  show IntKind.u8.wrap ((BitVec.ofInt 8 (x : Int) &&& BitVec.ofInt 8 ((15 : Nat) : Int)).toNat : Int) = _
  rw [BitVec.toNat_and, BitVec.ofInt_natCast, BitVec.ofInt_natCast, BitVec.toNat_ofNat, BitVec.toNat_ofNat, Nat.mod_eq_of_lt (by omega), Nat.mod_eq_of_lt (by omega), h, IntWalk.u8_in _ (by omega)]
  omega

/-- The world of ip.get behind its own variables. -/
theorem getbox (w : World) (v : Value) : Below w.heap.size w ((w.alloc (.cells #[v] 23)).alloc (.cells #[.int .i64 0, .int .i64 0, .int .i64 0, .int .i64 0, .int .i64 0, .int .i64 0, .int .u32 0, .int .u32 0, .slice none 0 0, .slice none 0 0] 25)) := by
  have h0 := (Below.refl w.heap.size w).alloc (Nat.le_refl _) (.cells #[v] 23)
  exact h0.alloc h0.size _

set_option maxRecDepth 100000 in
set_option maxHeartbeats 2000000 in
theorem ipget_form (b o n c : Nat) (bs : List UInt8) (w : World) (hl : bs.length = n) (hc : n ≤ c) (hn : n ≤ 140737488355328) (h20 : 20 ≤ n) (hr : Reads w w.heap.size 1 (some ⟨b, o, none⟩) n (bytesV bs)) (hbad : (bs.getD 0 0).toNat / 16 ≠ 4 ∨ ipH bs < 20) :
    Calls Tryd.prog 22 #[.slice (some ⟨b, o, none⟩) n c] w fun e w' => Faulty w w' e 161 := by
  obtain ⟨b', o', e, hbb, hcell⟩ := hr.opn (by omega)
  injection e with e
  injection e with e1 e2
  subst e1 e2
  have hc0 := byte_at hcell hl (show 0 < n by omega)
  simp only [Nat.add_zero] at hc0
  unfold ipH at hbad
  obtain ⟨x, hx⟩ : ∃ x, (bs.getD 0 0).toNat = x := ⟨_, rfl⟩
  have hx2 : x < 256 := by rw [← hx]; exact UInt8.toNat_lt _
  rw [hx] at hc0 hbad
  have hand := and_15 x hx2
  clear hx hcell hr hl
  by_cases h4 : x / 16 = 4
  · have h5 : x % 16 * 4 < 20 := by omega
    have h6 : ((x : Int) / 16 == 4) = true := by rw [beq_iff_eq]; omega
    have h7 : ((x : Int) / 16 != 4) = false := by rw [bne_eq_false_iff_eq]; omega
    clear h4 hbad
    go_enter Tryd.func22, Tryd.ntmps22
    go_wp2_with (go_at_call 30; refine (ipno_any _ _).mono ?_; rintro e w1 ⟨rfl, rfl⟩)
    refine bodyPost_ret (v := .tuple #[.agg #[.int .i64 0, .int .i64 0, .int .i64 0, .int .i64 0, .int .i64 0, .int .i64 0, .int .u32 0, .int .u32 0, .slice none 0 0, .slice none 0 0], .iface 66 (.pointer (some ⟨w.heap.size + 1 + 1, 0, none⟩))]) (by simp [results, Tryd.results22, go_sem]) rfl ⟨_, rfl, (Blk.new' (by simp)).cell 0, ?_⟩
    exact (getbox w _).alloc (getbox w _).size _
  · have h6 : ((x : Int) / 16 == 4) = false := by rw [beq_eq_false_iff_ne]; omega
    have h7 : ((x : Int) / 16 != 4) = true := by rw [bne_iff_ne]; omega
    clear h4 hbad
    go_enter Tryd.func22, Tryd.ntmps22
    go_wp2_with (go_at_call 30; refine (ipno_any _ _).mono ?_; rintro e w1 ⟨rfl, rfl⟩)
    refine bodyPost_ret (v := .tuple #[.agg #[.int .i64 0, .int .i64 0, .int .i64 0, .int .i64 0, .int .i64 0, .int .i64 0, .int .u32 0, .int .u32 0, .slice none 0 0, .slice none 0 0], .iface 66 (.pointer (some ⟨w.heap.size + 1 + 1, 0, none⟩))]) (by simp [results, Tryd.results22, go_sem]) rfl ⟨_, rfl, (Blk.new' (by simp)).cell 0, ?_⟩
    exact (getbox w _).alloc (getbox w _).size _
end Go.Proofs.YtfkkjhfncmfahaaDoor
