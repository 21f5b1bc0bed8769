/- ip.right: which packets may be. -/
import Derived.Test.YtfkkjhfncmfahaaDoorProg
import Derived.Test.YtfkkjhfncmfahaaDoorA0
import Derived.Test.YtfkkjhfncmfahaaDoorB0
namespace Go.Proofs.YtfkkjhfncmfahaaDoor
open Go.RowKit Go.Deep

/-- The place of the first thing that a test lets through; -1. -/
def idxI {α : Type} (p : α → Bool) : List α → Int
  | [] => -1
  | x :: r => if p x then 0 else if idxI p r < 0 then -1 else idxI p r + 1
theorem idxI_nonneg {α : Type} (p : α → Bool) (l : List α) : decide (0 ≤ idxI p l) = l.any p := by
  induction l with
  | nil => simp [idxI]
  | cons x r ih =>
    simp only [idxI, List.any_cons, ← ih]
    by_cases h : p x
    · simp [h]
    · by_cases h2 : idxI p r < 0
      · simp [h, h2]
      · simp [h, h2]; omega
theorem idxI_ge {α : Type} (p : α → Bool) (l : List α) : -1 ≤ idxI p l := by
  induction l with
  | nil => simp [idxI]
  | cons x r ih => simp only [idxI]; split <;> (try split) <;> omega
theorem idxI_none {α : Type} (p : α → Bool) (l : List α) (h : ∀ x ∈ l, p x = false) : idxI p l = -1 := by
  induction l with
  | nil => rfl
  | cons x r ih =>
    simp only [idxI, h x (by simp)]
    rw [ih (fun y hy => h y (by simp [hy]))]
    simp
theorem idxI_some {α : Type} (p : α → Bool) (l : List α) (k : Nat) (x : α) (hk : l[k]? = some x) (hx : p x = true) (h : ∀ j y, j < k → l[j]? = some y → p y = false) : idxI p l = k := by
  induction l generalizing k with
  | nil => simp at hk
  | cons y r ih =>
    rcases k with _ | k
    · simp at hk; subst hk; simp [idxI, hx]
    · have hy := h 0 y (by omega) rfl
      have e := ih k (by simpa using hk) (fun j z hj hz => h (j + 1) z (by omega) (by simpa using hz))
      simp only [idxI, hy]
      rw [e]
      rw [if_neg (by simp), if_neg (by omega)]
      omega

def intsV (xs : List Int) : List Value := xs.map fun x => Value.int .i64 x
set_option maxRecDepth 100000 in
set_option maxHeartbeats 1000000 in
theorem indexfunc_int (A : Option Addr) (n c : Nat) (f : FuncId) (p : Int → Bool) (xs : List Int) (w : World) (hr : Reads w w.heap.size 1 A n (intsV xs)) (hn : n ≤ 140737488355328)
    (hf : ∀ (x : Int) (W : World), Calls Tryd.prog f #[.int .i64 x] W fun e w' => e = .returned (.bool (p x)) ∧ W = w') (hcf : ∀ (args : Array Value) (W : World), (callFunc f args).run Tryd.prog W = .ok (.enter f args) W) :
    Calls Tryd.prog 34 #[.slice A n c, .func (.func f) #[] #[]] w fun e w' => e = .returned (.int .i64 (idxI p xs)) ∧ w = w' := by
  have hl : xs.length = n := by have := hr.1; simpa [intsV] using this
  have HF := Lib.hid hf
  clear hf
  go_enter Tryd.func34, Tryd.ntmps34
  go_wp2_with fail
  go_loop [8, 5] (fun i _ => ∃ k : Nat, k ≤ n ∧ i = .int .i64 k ∧ Hid (∀ j y, j < k → xs[j]? = some y → p y = false)) (fun i _ => n - (intOf i).toNat)
  case atStart => exact ⟨0, by omega, rfl, Lib.hid (fun j y h => by omega)⟩
  case round =>
    obtain ⟨k, hk, rfl, hno⟩ := hrel
    by_cases hlt : k < n
    · obtain ⟨b, o, rfl, hbb, hcell⟩ := hr.opn (by omega)
      obtain ⟨x, hx⟩ : ∃ x, xs[k]? = some x := ⟨_, List.getElem?_eq_getElem (by omega)⟩
      have hc := hcell k (.int .i64 x) (by simp [intsV, hx])
      have HX := Lib.hid hx
      have HL := Lib.hid hl
      clear hx hl hcell hr
      rcases hp : p x with _ | _
      all_goals
        have HP := Lib.hid hp
        have hfx := HF.out x w
        rw [hp] at hfx
        have HFX := Lib.hid hfx
        clear hp hfx
      · go_wp2_with (refine HFX.out.mono ?_; rintro e w1 ⟨rfl, rfl⟩)
        go_round
        case rel => exact ⟨k + 1, by omega, by go_num, Lib.hid (fun j y hj hy => by
          by_cases e : j = k
          · subst e
            have h1 := HX.out
            rw [h1] at hy
            injection hy with hy
            subst hy
            exact HP.out
          · exact hno.out j y (by omega) hy)⟩
        case measure => simp [intOf]; omega
      · go_wp2_with (refine HFX.out.mono ?_; rintro e w1 ⟨rfl, rfl⟩)
        go_ret
        exact ⟨ret_int (idxI_some p xs k x HX.out HP.out hno.out).symm, rfl⟩
    · go_wp2_with fail
      go_ret
      have hkn : k = n := by omega
      subst hkn
      exact ⟨ret_int (idxI_none p xs (fun y hy => by
        obtain ⟨j, hj, e⟩ := List.getElem_of_mem hy
        exact hno.out j y (by omega) (by rw [List.getElem?_eq_getElem hj, e]))).symm, rfl⟩

set_option maxRecDepth 100000 in
set_option maxHeartbeats 1000000 in
theorem containsfunc_int (A : Option Addr) (n c : Nat) (f : FuncId) (p : Int → Bool) (xs : List Int) (w : World) (hr : Reads w w.heap.size 1 A n (intsV xs)) (hn : n ≤ 140737488355328)
    (hf : ∀ (x : Int) (W : World), Calls Tryd.prog f #[.int .i64 x] W fun e w' => e = .returned (.bool (p x)) ∧ W = w') (hcf : ∀ (args : Array Value) (W : World), (callFunc f args).run Tryd.prog W = .ok (.enter f args) W) :
    Calls Tryd.prog 24 #[.slice A n c, .func (.func f) #[] #[]] w fun e w' => e = .returned (.bool (xs.any p)) ∧ w = w' := by
  have HI := Lib.hid (indexfunc_int A n c f p xs w hr hn hf hcf)
  clear hr hf hcf
  go_enter Tryd.func24, Tryd.ntmps24
  go_wp2_with (go_at_call 34; refine HI.out.mono ?_; rintro e w1 ⟨rfl, rfl⟩)
  go_ret
  exact ⟨ret_bool (by rw [← idxI_nonneg]), rfl⟩

/-- Has a number more than eight bits? -/
def notByte (x : Int) : Bool := !(x / 256 == 0)
theorem right1_any (x : Int) (w : World) : Calls Tryd.prog 25 #[.int .i64 x] w fun e w' => e = .returned (.bool (notByte x)) ∧ w = w' := by
  go_enter Tryd.func25, Tryd.ntmps25
  go_wp2_with fail
  go_ret
  exact ⟨ret_bool (by first | rfl | (unfold notByte; rfl) | (unfold notByte; simp)), rfl⟩
theorem right1_call (args : Array Value) (W : World) : (callFunc 25 args).run Tryd.prog W = .ok (.enter 25 args) W := by kernel_rfl

/-- Which packets may be. -/
def IpRight (tos id flags off ttl proto : Int) (n1 n2 : Nat) : Prop :=
  (0 ≤ tos ∧ tos < 256) ∧ (0 ≤ ttl ∧ ttl < 256) ∧ (0 ≤ proto ∧ proto < 256) ∧ (0 ≤ id ∧ id < 65536) ∧ (0 ≤ flags ∧ flags < 8) ∧ (0 ≤ off ∧ off < 8192) ∧ n1 ≤ 40 ∧ n1 % 4 = 0 ∧ n2 ≤ 65515 - n1

instance (tos id flags off ttl proto : Int) (n1 n2 : Nat) : Decidable (IpRight tos id flags off ttl proto n1 n2) := by unfold IpRight; exact inferInstance
def ipRightB (tos id flags off ttl proto : Int) (n1 n2 : Nat) : Bool := decide (IpRight tos id flags off ttl proto n1 n2)
theorem and_3 (m : Nat) (hm : m < 9223372036854775808) : bits .and .i64 (m : Int) 3 = (m : Int) % 4 := by
  have h : m &&& 3 = m % 4 := Nat.and_two_pow_sub_one_eq_mod m 2
  show IntKind.i64.wrap ((BitVec.ofInt 64 (m : Int) &&& BitVec.ofInt 64 ((3 : Nat) : Int)).toNat : Int) = _
  rw [BitVec.toNat_and, BitVec.ofInt_natCast, BitVec.ofInt_natCast, BitVec.toNat_ofNat, BitVec.toNat_ofNat, Nat.mod_eq_of_lt (by omega), Nat.mod_eq_of_lt (by omega), h, IntKind.wrap_i64]
  omega
theorem bytes3 (a b c : Int) : [a, b, c].any notByte = !decide ((0 ≤ a ∧ a < 256) ∧ (0 ≤ b ∧ b < 256) ∧ (0 ≤ c ∧ c < 256)) := by
  rw [Bool.eq_iff_iff]
  simp [notByte]
  omega

set_option maxRecDepth 100000 in
set_option maxHeartbeats 2000000 in
theorem ipright_any (tos id flags off ttl proto src dst : Int) (A1 A2 : Option Addr) (n1 c1 n2 c2 : Nat) (xs1 xs2 : List UInt8) (w : World) (h1 : n1 ≤ 140737488355328) (h2 : n2 ≤ 140737488355328) :
    Calls Tryd.prog 13 #[.agg #[.int .i64 tos, .int .i64 id, .int .i64 flags, .int .i64 off, .int .i64 ttl, .int .i64 proto, .int .u32 src, .int .u32 dst, .slice A1 n1 c1, .slice A2 n2 c2]] w fun e w' => e = .returned (.bool (ipRightB tos id flags off ttl proto n1 n2)) ∧ Below w.heap.size w w' := by
  have hand := and_3 n1 (by omega)
  have HB := Lib.hid (bytes3 tos ttl proto)
  rcases hb : [tos, ttl, proto].any notByte with _ | _
  all_goals
    rw [hb] at HB
    have HC := fun (W : World) (hW : Blk W (w.heap.size + 1) 3 #[.int .i64 tos, .int .i64 ttl, .int .i64 proto]) =>
      containsfunc_int (some ⟨w.heap.size + 1, 0, none⟩) 3 3 25 notByte [tos, ttl, proto] W (hW.reads (cs := intsV [tos, ttl, proto]) rfl) (by omega) right1_any right1_call
    rw [hb] at HC
    have HCH := Lib.hid HC
    clear HC hb
    go_enter Tryd.func13, Tryd.ntmps13
    go_wp2_with fail
    refine (HCH.out _ (Blk.new' (by simp))).mono ?_
    rintro e w1 ⟨rfl, rfl⟩
    have hbox := ((Below.refl w.heap.size w).alloc (Nat.le_refl _) (.cells #[.int .i64 tos, .int .i64 id, .int .i64 flags, .int .i64 off, .int .i64 ttl, .int .i64 proto, .int .u32 src, .int .u32 dst, .slice A1 n1 c1, .slice A2 n2 c2] 25)).alloc (by simp) (.cells #[.int .i64 tos, .int .i64 ttl, .int .i64 proto] 3)
  · have H3 : (0 ≤ tos ∧ tos < 256) ∧ (0 ≤ ttl ∧ ttl < 256) ∧ (0 ≤ proto ∧ proto < 256) := by simpa using HB.out
    have H3H := Lib.hid H3
    have HBX := Lib.hid hbox
    clear hbox H3 HCH HB
    go_wp2_with fail
    all_goals
      go_ret
      refine ⟨ret_bool ?_, HBX.out⟩
      have h3 := H3H.out
      unfold ipRightB
      first
        | (refine (decide_eq_false ?_).symm; rintro ⟨_, _, _, q1, q2, q3, q4, q5, q6⟩; omega)
        | (refine decide_eq_decide.2 ?_; unfold IpRight; omega)
  · have H3 : ¬ ((0 ≤ tos ∧ tos < 256) ∧ (0 ≤ ttl ∧ ttl < 256) ∧ (0 ≤ proto ∧ proto < 256)) := by
      have := HB.out
      intro h
      rw [decide_eq_true h] at this
      cases this
    have H3H := Lib.hid H3
    have HBX := Lib.hid hbox
    clear hbox H3 HCH HB
    go_wp2_with fail
    go_ret
    refine ⟨ret_bool ?_, HBX.out⟩
    have h3 := H3H.out
    unfold ipRightB
    refine (decide_eq_false ?_).symm
    rintro ⟨q1, q2, q3, _⟩
    exact h3 ⟨q1, q2, q3⟩
end Go.Proofs.YtfkkjhfncmfahaaDoor
