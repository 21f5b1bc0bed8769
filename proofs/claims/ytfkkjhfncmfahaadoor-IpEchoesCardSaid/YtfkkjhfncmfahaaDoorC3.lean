/- ip.Cut: the pieces. -/
import Derived.Test.YtfkkjhfncmfahaaDoorProg
import Derived.Test.YtfkkjhfncmfahaaDoorA0
import Derived.Test.YtfkkjhfncmfahaaDoorB0
import Derived.Test.YtfkkjhfncmfahaaDoorI1
import Derived.Test.YtfkkjhfncmfahaaDoorS1
import Derived.Test.YtfkkjhfncmfahaaDoorB2
import Derived.Test.YtfkkjhfncmfahaaDoorG2
import Derived.Test.YtfkkjhfncmfahaaDoorC1
import Derived.Test.YtfkkjhfncmfahaaDoorC2
import Derived.RangeFuncNested
import Derived.RangeFuncBox
import Derived.RangeFuncBound
import Derived.RangeFuncCalls
import Derived.RangeFuncLeaves
import Derived.Shelf.Abstract
import Derived.Shelf.RegionOpen
import Derived.OwnWalkIn
import Derived.TacticsInMore
import Derived.LoopNIn
import Derived.LoopIn
import Derived.Sort.QuietIn
import Derived.Maps.AppendAt
import Derived.Maps.OwnIn
namespace Go.Proofs.YtfkkjhfncmfahaaDoor
open Go.RowKit Go.Deep Go.Shelf
attribute [local go_sem] Oper.semAt_some

theorem own_onlyC {w w1 : World} {base g : Nat} {e : TypeId} {size n : Nat} {v : Value} {xs : List Value} (h : w.ownsRow base e size v n xs) (hb : w.grownBy w1 (some g)) (hg : g < base) : w1.ownsRow base e size v n xs :=
  h.kept hb (by
    rcases e : v.ownBlock with _ | k
    · exact .inl rfl
    · refine .inr fun e' => ?_
      have := own_base h k e
      injection e' with e'
      omega)
theorem own_only' {w w1 : World} {base : Nat} {row : Option Nat} {e : TypeId} {size n : Nat} {v : Value} {xs : List Value} (h : w.ownsRow base e size v n xs) (hb : w.grownBy w1 row) (hg : ∀ g, row = some g → v.ownBlock ≠ some g) : w1.ownsRow base e size v n xs :=
  h.kept hb (by
    rcases e : v.ownBlock with _ | k
    · exact .inl rfl
    · exact .inr fun e' => hg k e'.symm e)
/-- An owned row lies in no block of another type. -/
theorem own_ne_blk {w : World} {base g : Nat} {e t : TypeId} {size n : Nat} {v : Value} {xs : List Value} {cs : Array Value} (h : w.ownsRow base e size v n xs) (hb : Blk w g t cs) (ht : t ≠ e) : v.ownBlock ≠ some g := by
  rcases h.2 with ⟨rfl, _⟩ | ⟨g', cap, cur, rfl, _, hh, _⟩
  · simp [Value.ownBlock]
  · intro e'
    have : g' = g := by simpa [Value.ownBlock] using e'
    subst this
    unfold Blk at hb
    rw [hh] at hb
    injection hb with hb
    injection hb with _ h2
    exact ht h2.symm
/-- Two owned rows of different types. -/
theorem own_ne_own {w : World} {base base' : Nat} {e e' : TypeId} {size n size' n' : Nat} {v v' : Value} {xs xs' : List Value} (h : w.ownsRow base e size v n xs) (h' : w.ownsRow base' e' size' v' n' xs') (ht : e' ≠ e) (g : Nat) (hg : v'.ownBlock = some g) : v.ownBlock ≠ some g := by
  rcases h'.2 with ⟨rfl, _⟩ | ⟨g', cap, cur, rfl, _, hh, _⟩
  · simp [Value.ownBlock] at hg
  · have : g' = g := by simpa [Value.ownBlock] using hg
    subst this
    exact own_ne_blk h hh ht
theorem blk_turn {W W' : World} {row : Option Nat} {g : Nat} {t : TypeId} {cs : Array Value} (h : Blk W g t cs) (hg : W.grownBy W' row) (hr : ∀ r, row = some r → ∃ o : Obj, W.heap[r]? = some o ∧ o.isCells = false) : Blk W' g t cs :=
  h.grown hg (fun e => by
    obtain ⟨o, ho, hc⟩ := hr g e.symm
    unfold Blk at h
    rw [h] at ho
    injection ho with ho
    subst ho
    cases hc)
theorem own_turn {W W' : World} {row : Option Nat} {base : Nat} {e : TypeId} {size n : Nat} {v : Value} {xs : List Value} (h : W.ownsRow base e size v n xs) (hg : W.grownBy W' row) (hr : ∀ r, row = some r → ∃ o : Obj, W.heap[r]? = some o ∧ o.isCells = false) : W'.ownsRow base e size v n xs :=
  own_only' h hg (fun g e' => by
    obtain ⟨o, ho, hc⟩ := hr g e'
    rcases h.2 with ⟨rfl, _⟩ | ⟨g', cap, cur, rfl, _, hh, _⟩
    · simp [Value.ownBlock]
    · intro e2
      have : g' = g := by simpa [Value.ownBlock] using e2
      subst this
      rw [hh] at ho
      injection ho with ho
      subst ho
      cases hc)
theorem own_cells {W : World} {base : Nat} {e : TypeId} {size n : Nat} {v : Value} {xs : List Value} (h : W.ownsRow base e size v n xs) (j : Nat) (hj : v.ownBlock = some j) {ob : Obj} (ho : W.heap[j]? = some ob) : ob.isCells = true := by
  rcases h.2 with ⟨rfl, _⟩ | ⟨g', cap, cur, rfl, _, hh, _⟩
  · simp [Value.ownBlock] at hj
  · have : g' = j := by simpa [Value.ownBlock] using hj
    subst this
    rw [hh] at ho
    injection ho with ho
    subst ho
    rfl
theorem own_old {W : World} {base : Nat} {e : TypeId} {size n : Nat} {v : Value} {xs : List Value} (h : W.ownsRow base e size v n xs) : v.ownBlock ≠ some W.heap.size := by
  rcases h.2 with ⟨rfl, _⟩ | ⟨g', cap, cur, rfl, _, hh, _⟩
  · simp [Value.ownBlock]
  · intro e2
    have : g' = W.heap.size := by simpa [Value.ownBlock] using e2
    have := (Array.getElem?_eq_some_iff.1 hh).1
    omega
theorem keeps_below {W W' : World} (h : Below W.heap.size W W') : KeepsOthers W W' := ⟨h.size, fun k o hk _ => (h.block k (Array.getElem?_eq_some_iff.1 hk).1).trans hk⟩

/-- How far the pieces that came are, in eight bytes. -/
def offN (s n : Nat) : List Nat → Nat
  | [] => 0
  | x :: r => pcN s n x / 8 + offN s n r
theorem offN_snoc (s n x : Nat) (pre : List Nat) : offN s n (pre ++ [x]) = offN s n pre + pcN s n x / 8 := by
  induction pre with
  | nil => simp [offN]
  | cons y r ih => simp only [List.cons_append, offN, ih]; omega
theorem pcN_le (s n x : Nat) : pcN s n x ≤ s ∧ pcN s n x ≤ n := by unfold pcN; omega
theorem offN_le (s n : Nat) (pre : List Nat) (hs : s ≤ 65535) : offN s n pre ≤ pre.length * 8192 := by
  induction pre with
  | nil => simp [offN]
  | cons y r ih =>
    have := (pcN_le s n y).1
    simp only [offN, List.length_cons]
    omega
theorem offN_range (s n k : Nat) (h8 : s % 8 = 0) (h : k * s ≤ n) : offN s n (List.range k) * 8 = k * s := by
  induction k with
  | zero => simp [offN]
  | succ k ih =>
    rw [Nat.succ_mul] at h
    rw [List.range_succ, offN_snoc, Nat.succ_mul, Nat.add_mul, ih (by omega)]
    have : pcN s n k = s := by unfold pcN; omega
    rw [this]
    omega
/-- The cells of a piece. -/
def pieceC (tos id fl off ttl proto src dst : Int) (O V : Value) : List Value := [.int .i64 tos, .int .i64 id, .int .i64 fl, .int .i64 off, .int .i64 ttl, .int .i64 proto, .int .u32 src, .int .u32 dst, O, V]
theorem pieceC_get (tos id fl fl' off ttl proto src dst : Int) (O V : Value) (j : Nat) (hj : j ≠ 2) : (pieceC tos id fl off ttl proto src dst O V)[j]? = (pieceC tos id fl' off ttl proto src dst O V)[j]? := by
  rcases j with _ | _ | _ | j
  · rfl
  · rfl
  · exact absurd rfl hj
  · rfl
theorem flat10 (f : Nat → List Value) (hf : ∀ i, (f i).length = 10) (K k j : Nat) (hk : k < K) (hj : j < 10) : ((List.range K).flatMap f)[k * 10 + j]? = (f k)[j]? := by
  induction K with
  | zero => omega
  | succ K ih =>
    have hl : ((List.range K).flatMap f).length = K * 10 := by
      clear ih hk
      induction K with
      | zero => simp
      | succ K ih => rw [List.range_succ, List.flatMap_append, List.length_append, ih]; simp [hf]; omega
    rw [List.range_succ, List.flatMap_append]
    by_cases e : k = K
    · subst e
      rw [List.getElem?_append_right (by rw [hl]; omega), hl, Nat.add_sub_cancel_left]
      simp
    · rw [List.getElem?_append_left (by rw [hl]; omega)]
      exact ih (by omega)
theorem flat10_len (f : Nat → List Value) (hf : ∀ i, (f i).length = 10) (K : Nat) : ((List.range K).flatMap f).length = K * 10 := by
  induction K with
  | zero => simp
  | succ K ih => rw [List.range_succ, List.flatMap_append, List.length_append, ih]; simp [hf]; omega
/-- The cells of the pieces that came. -/
def cellsF (g : Int → Value → List Value) (off : Int) (s n : Nat) (pre : List Nat) (Vs : List Value) : List Value := (List.range pre.length).flatMap fun i => g (off + (offN s n (pre.take i) : Nat)) (Vs.getD i undef)
theorem cellsF_snoc (g : Int → Value → List Value) (off : Int) (s n x : Nat) (pre : List Nat) (Vs : List Value) (V : Value) (h : Vs.length = pre.length) : cellsF g off s n (pre ++ [x]) (Vs ++ [V]) = cellsF g off s n pre Vs ++ g (off + (offN s n pre : Nat)) V := by
  unfold cellsF
  rw [List.length_append, List.length_singleton, List.range_succ, List.flatMap_append]
  congr 1
  · rw [List.flatMap_def, List.flatMap_def]
    congr 1
    refine List.map_congr_left fun i hi => ?_
    have hi2 : i < pre.length := by simpa using hi
    rw [List.take_append_of_le_length (by omega)]
    congr 1
    simp [List.getD, List.getElem?_append_left (show i < Vs.length by omega)]
  · simp only [List.flatMap_singleton]
    rw [List.take_append_of_le_length (by omega), List.take_length]
    congr 1
    simp [List.getD, ← h]
theorem ip_info2 : (Tryd.prog.info? 25).map (fun i => (i.zero, i.size, i.bytes)) = some (some (.agg #[.int .i64 0, .int .i64 0, .int .i64 0, .int .i64 0, .int .i64 0, .int .i64 0, .int .u32 0, .int .u32 0, .slice none 0 0, .slice none 0 0]), 10, 104) := by kernel_rfl

set_option maxRecDepth 100000 in
set_option maxHeartbeats 2000000 in
theorem cut_pieces (tos id flags off ttl proto src dst : Int) (A1 : Option Addr) (b o n1 c1 n2 c2 s : Nat) (xs1 xs2 : List UInt8) (mtu : Int) (w : World) (hl2 : xs2.length = n2) (hr2 : Reads w w.heap.size 1 (some ⟨b, o, none⟩) n2 (bytesV xs2)) (hc2 : n2 ≤ c2)
    (hok : IpRight tos id flags off ttl proto n1 n2) (hm : mtu < 20 + (n1 : Int) + n2) (hfl : flags / 2 % 2 = 0) (hm2 : 20 + (n1 : Int) + 8 ≤ mtu) (hoff : off + ((n2 : Int) + 7) / 8 ≤ 8191) (hs : (mtu - (20 + (n1 : Int))) / 8 * 8 = s) :
    Calls Tryd.prog 6 #[.agg #[.int .i64 tos, .int .i64 id, .int .i64 flags, .int .i64 off, .int .i64 ttl, .int .i64 proto, .int .u32 src, .int .u32 dst, .slice A1 n1 c1, .slice (some ⟨b, o, none⟩) n2 c2], .int .i64 mtu] w fun e w' => ∃ g cap, e = .returned (.tuple #[.slice (some ⟨g, 0, none⟩) (pcK s n2) cap, .int .i64 0]) ∧ (∀ k, k < pcK s n2 → ∃ V, w'.ownsRow w.heap.size 5 1 V (pcN s n2 k) (bytesV ((xs2.drop (k * s)).take (pcN s n2 k))) ∧ ∀ j u, (pieceC tos id (if k + 1 = pcK s n2 then flags else flags / 2 * 2 + 1) (off + (k * s / 8 : Nat)) ttl proto src dst (.slice A1 n1 c1) V)[j]? = some u → w'.cell? ⟨g, k * 10 + j, none⟩ = some u) ∧ g < w'.heap.size ∧ pcK s n2 ≤ cap ∧ Below w.heap.size w w' := by
  have HR := fun W => ipright_any tos id flags off ttl proto src dst A1 (some ⟨b, o, none⟩) n1 c1 n2 c2 xs1 xs2 W (by have := hok.2.2.2.2.2.2; omega) (by have := hok.2.2.2.2.2.2; omega)
  have hf : ipRightB tos id flags off ttl proto n1 n2 = true := decide_eq_true hok
  rw [hf] at HR
  have HRH := Lib.hid HR
  obtain ⟨⟨ht0, ht1⟩, ⟨htt0, htt1⟩, ⟨hp0, hp1⟩, ⟨hi0, hi1⟩, ⟨hf0, hf1⟩, ⟨ho0, ho1⟩, h40, h4, hmost⟩ := hok
  clear HR hf
  have hdm : decide (20 + (n1 : Int) + n2 ≤ mtu) = false := by simp; omega
  have hand : bits .and .i64 flags 2 = 0 := by rw [and_2 flags hf0 hf1]; omega
  obtain ⟨u, hu⟩ : ∃ u, ((n2 : Int) + 8 - 1) / 8 = u := ⟨_, rfl⟩
  have hu0 : 0 ≤ u := by omega
  have hu1 : off + u ≤ 8191 := by omega
  have hd2 : decide (mtu < 20 + (n1 : Int) + 8) = false := by simpa using hm2
  have hd3 : decide (8191 < off + u) = false := by simp; omega
  have hs1 : 1 ≤ (s : Int) := by omega
  have hs2 : (s : Int) ≤ 65535 := by omega
  obtain ⟨q, hq⟩ : ∃ q, (mtu - (20 + (n1 : Int))) / 8 = q := ⟨_, rfl⟩
  have hqs : q * 8 = s := by omega
  have hclone : ∀ (W : World) (x : Nat), Below w.heap.size w W → Calls Tryd.prog 15 #[.slice (some ⟨b, o + x * s, none⟩) (pcN s n2 x) (pcN s n2 x)] W fun e w' => ∃ v, e = .returned v ∧ w'.ownsRow W.heap.size 5 1 v (pcN s n2 x) (bytesV ((xs2.drop (x * s)).take (pcN s n2 x))) ∧ Below W.heap.size W w' := fun W x hW => by
    have hp2 := (pcN_le s n2 x).2
    by_cases hx : x * s + pcN s n2 x ≤ n2
    · exact clone_u8 _ _ _ _ W (((bytes_part hr2 hl2 (x * s) (pcN s n2 x) hx).below hW).more hW.size) (bytesV_one _) (by omega)
    · have h0 : pcN s n2 x = 0 := by unfold pcN at hx ⊢; omega
      rw [h0]
      exact clone_u8 _ 0 0 _ W ⟨by simp [bytesV], fun h => absurd h (by omega)⟩ (bytesV_one _) (by omega)
  have HCL := Lib.hid hclone
  clear hclone
  have hor : bits .or .i64 flags 1 = flags / 2 * 2 + 1 := or_1 flags hf0 hf1
  have h8 : s % 8 = 0 := by omega
  have HR2 := Lib.hid hr2
  have HL2 := Lib.hid hl2
  clear hs hr2 hl2 hfl hoff
  refine (callsIn_wide (n := 3)).1 ?_
  refine callsIn_of_wp_marks Tryd.func6 rfl trivial ?_ rfl
  simp only [Tryd.ntmps6, List.size_toArray, List.length_cons, List.length_nil, Nat.reduceAdd, Nat.reduceSub, Array.replicate_succ, Array.replicate_zero, List.push_toArray, List.append_toArray, List.nil_append, List.cons_append]
  gi_wp2_with (first
    | (refine ⟨trivial, ?_⟩; gi_at_call 13; refine (callsIn_wide.2 (HRH.out _)).mono ?_; rintro e w1 ⟨rfl, hb1⟩
       have hbox : Blk w1 w.heap.size 25 #[.int .i64 tos, .int .i64 id, .int .i64 flags, .int .i64 off, .int .i64 ttl, .int .i64 proto, .int .u32 src, .int .u32 dst, .slice A1 n1 c1, .slice (some ⟨b, o, none⟩) n2 c2] := (Blk.new w _ _).below hb1 (by simp)
       have hc9b : (w1.alloc (.cells #[.slice none 0 0] 27)).cell? ⟨w.heap.size, 9, none⟩ = some (.slice (some ⟨b, o, none⟩) n2 c2) := (hbox.alloc _).cell 9
       have hcl2 : w1.cell? ⟨w.heap.size, 2, none⟩ = some (.int .i64 flags) := hbox.cell 2
       have hcl3 : w1.cell? ⟨w.heap.size, 3, none⟩ = some (.int .i64 off) := hbox.cell 3
       have hcl9 : w1.cell? ⟨w.heap.size, 9, none⟩ = some (.slice (some ⟨b, o, none⟩) n2 c2) := hbox.cell 9)
    | (refine ⟨trivial, ?_⟩; gi_at_call 14; refine (callsIn_wide.2 (chunk_any (some ⟨b, o, none⟩) n2 c2 s _ hs1)).mono ?_; rintro e w2 ⟨rfl, rfl⟩))
  have hgp : w.heap.size < w1.heap.size := hbox.lt
  have hB1 : Below w.heap.size w w1 := below_then ((Below.refl w.heap.size w).alloc (Nat.le_refl _) _) (by simp) hb1
  obtain ⟨W0, hW0⟩ : ∃ W0, (((w1.alloc (.cells #[.slice none 0 0] 27)).alloc (.cells #[.slice (some ⟨b, o, none⟩) n2 c2] 23)).alloc (.cells #[.int .i64 s] 3)) = W0 := ⟨_, rfl⟩
  have hB0 : Below w.heap.size w W0 := by rw [← hW0]; exact ((hB1.alloc hB1.size _).alloc (by simp; omega) _).alloc (by simp; omega) _
  have hO0 : Blk W0 w1.heap.size 27 #[.slice none 0 0] := by rw [← hW0]; exact ((Blk.new _ _ _).alloc _).alloc _
  have hs0 : Blk W0 (w1.heap.size + 1) 23 #[.slice (some ⟨b, o, none⟩) n2 c2] := by rw [← hW0]; exact (Blk.new' (by simp)).alloc _
  have hn0 : Blk W0 (w1.heap.size + 1 + 1) 3 #[.int .i64 s] := by rw [← hW0]; exact Blk.new' (by simp)
  have hp0 : Blk W0 w.heap.size 25 #[.int .i64 tos, .int .i64 id, .int .i64 flags, .int .i64 off, .int .i64 ttl, .int .i64 proto, .int .u32 src, .int .u32 dst, .slice A1 n1 c1, .slice (some ⟨b, o, none⟩) n2 c2] := by rw [← hW0]; exact ((hbox.alloc _).alloc _).alloc _
  have hsz0 : W0.heap.size = w1.heap.size + 3 := by rw [← hW0]; simp
  rw [hW0]
  have HSZ0 := Lib.hid hsz0
  have hszle : w1.heap.size + 3 ≤ W0.heap.size := by omega
  clear hW0 hsz0
  obtain ⟨i0, hi, hz0, hz1, hz2⟩ := info_parts ip_info2
  refine wpIn_rangeFunc_ownG rfl (by omega) (gf := 26) (lb := #[.pointer (some ⟨w1.heap.size + 1, 0, none⟩), .pointer (some ⟨w1.heap.size + 1 + 1, 0, none⟩)]) rfl trivial (enters_of Tryd.func26 (by kernel_rfl) rfl)
    (chunk_stops 2 (by omega) (w1.heap.size + 1) (w1.heap.size + 1 + 1) w.heap.size b o n2 c2 s (by omega) (by omega) (by omega) hc2 W0 (hs0.cell 0) (hn0.cell 0) hs0.lt hn0.lt) (fun h k => h.trans k) (KpC.put hB0.size hs0.lt hn0.lt) (Below.refl _ _) (fun _ => rfl)
    (fun (pre : List Nat) (W : World) => (∃ (v : Value) (Vs : List Value), Blk W w1.heap.size 27 #[v] ∧ W.ownsRow w1.heap.size 25 10 v pre.length (cellsF (fun f V => pieceC tos id (flags / 2 * 2 + 1) f ttl proto src dst (.slice A1 n1 c1) V) off s n2 pre Vs) ∧ Vs.length = pre.length ∧ (∀ (i : Nat) (V : Value) (x : Nat), Vs[i]? = some V → pre[i]? = some x → W.ownsRow w.heap.size 5 1 V (pcN s n2 x) (bytesV ((xs2.drop (x * s)).take (pcN s n2 x)))) ∧ Blk W w.heap.size 25 #[.int .i64 tos, .int .i64 id, .int .i64 flags, .int .i64 (off + (offN s n2 pre : Nat)), .int .i64 ttl, .int .i64 proto, .int .u32 src, .int .u32 dst, .slice A1 n1 c1, .slice (some ⟨b, o, none⟩) n2 c2] ∧ Blk W (w1.heap.size + 1) 23 #[.slice (some ⟨b, o, none⟩) n2 c2] ∧ Blk W (w1.heap.size + 1 + 1) 3 #[.int .i64 s]) ∧ Below w.heap.size w W)
    (fun _ _ _ => False)
    (OwnFrom.and (Own.from (fun pre W W' row hs hg hr => by
      obtain ⟨v, Vs, q1, q2, q3, q4, q5, q6, q7⟩ := hs
      exact ⟨v, Vs, blk_turn q1 hg hr, own_turn q2 hg hr, q3, fun i V x h1 h2 => own_turn (q4 i V x h1 h2) hg hr, blk_turn q5 hg hr, blk_turn q6 hg hr, blk_turn q7 hg hr⟩) _) (ownFrom_below (Nat.le_refl _) hB0.size))
    (fun _ _ _ _ _ hs _ _ => hs)
    ⟨⟨.slice none 0 0, [], hO0, own_nil _ _ _ _, rfl, fun i V x h => by simp at h, by simpa [offN] using hp0, hs0, hn0⟩, hB0⟩
    (fun x => { tmps := #[.agg #[.int .i64 tos, .int .i64 id, .int .i64 flags, .int .i64 off, .int .i64 ttl, .int .i64 proto, .int .u32 src, .int .u32 dst, .slice A1 n1 c1, .slice (some ⟨b, o, none⟩) n2 c2], .int .i64 mtu, .pointer (some ⟨w.heap.size, 0, none⟩), undef, .slice none 0 0, .int .i64 0, .int .i64 (20 + (n1 : Int)), .int .i64 u, .pointer (some ⟨w1.heap.size, 0, none⟩), .slice (some ⟨b, o + x * s, none⟩) (pcN s n2 x) (pcN s n2 x), undef, .pointer (some ⟨w.heap.size, 8, none⟩), .slice A1 n1 c1, .int .i64 (n1 : Int), .int .i64 (20 + (n1 : Int)), .pointer (some ⟨w.heap.size, 9, none⟩), .slice (some ⟨b, o, none⟩) n2 c2, .int .i64 (n2 : Int), .int .i64 ((n2 : Int) + 8), .int .i64 ((n2 : Int) + 8 - 1), .int .i64 u, .bool false, .agg #[.int .i64 tos, .int .i64 id, .int .i64 flags, .int .i64 off, .int .i64 ttl, .int .i64 proto, .int .u32 src, .int .u32 dst, .slice A1 n1 c1, .slice (some ⟨b, o, none⟩) n2 c2], .bool true, .bool false, .bool false, .int .i64 (20 + (n1 : Int)), .pointer (some ⟨w.heap.size, 9, none⟩), .slice (some ⟨b, o, none⟩) n2 c2, .int .i64 (n2 : Int), .int .i64 (20 + (n1 : Int) + (n2 : Int)), .int .i64 mtu, .bool false, undef, undef, .bool false, .pointer (some ⟨w.heap.size, 2, none⟩), .int .i64 flags, .int .i64 0, .bool false, .bool false, .int .i64 mtu, .int .i64 (20 + (n1 : Int)), .int .i64 (20 + (n1 : Int) + 8), .bool false, .bool false, .pointer (some ⟨w.heap.size, 3, none⟩), .int .i64 off, .int .i64 u, .int .i64 (off + u), .bool false, .bool false, .pointer (some ⟨w.heap.size, 9, none⟩), .slice (some ⟨b, o, none⟩) n2 c2, .int .i64 mtu, .int .i64 (20 + (n1 : Int)), .int .i64 (mtu - (20 + (n1 : Int))), .int .i64 q, .int .i64 (s : Int), .func (.func 26) #[] #[.pointer (some ⟨w1.heap.size + 1, 0, none⟩), .pointer (some ⟨w1.heap.size + 1 + 1, 0, none⟩)], .slice (some ⟨b, o + x * s, none⟩) (pcN s n2 x) (pcN s n2 x), undef, undef, undef, undef, undef, undef, undef, undef, undef, undef, undef, undef, undef, undef, undef, undef, undef, undef, undef, undef, undef, undef, undef, undef, undef, undef, undef, undef], defers := [] }) ?assign ?body ?done ?stop
  case assign =>
    intro l x W K hK
    gi_wp2
    exact hK
  case body =>
    rintro l pre x W ⟨⟨v, Vs, hv, hrow, hlen, hVs, hp, hbs, hbn⟩, hB⟩ hlt
    have hcl := HCL.out (W.alloc (.cells #[.int .i64 tos, .int .i64 id, .int .i64 flags, .int .i64 (off + (offN s n2 pre : Nat)), .int .i64 ttl, .int .i64 proto, .int .u32 src, .int .u32 dst, .slice A1 n1 c1, .slice (some ⟨b, o, none⟩) n2 c2] 25)) x (hB.alloc hB.size _)
    have HC := Lib.hid hcl
    have hzz : offN s n2 pre ≤ pre.length * 8192 := offN_le s n2 pre (by omega)
    obtain ⟨m, hm⟩ : ∃ m, pcN s n2 x = m := ⟨_, rfl⟩
    obtain ⟨z, hz⟩ : ∃ z, offN s n2 pre = z := ⟨_, rfl⟩
    rw [hm, hz] at HC
    rw [hz] at hp hzz
    rw [hm]
    have hcp0 : W.cell? ⟨w.heap.size, 0, none⟩ = some (.int .i64 tos) := hp.cell 0
    have hcp1 : W.cell? ⟨w.heap.size, 1, none⟩ = some (.int .i64 id) := hp.cell 1
    have hcp2 : W.cell? ⟨w.heap.size, 2, none⟩ = some (.int .i64 flags) := hp.cell 2
    have hcp3 : W.cell? ⟨w.heap.size, 3, none⟩ = some (.int .i64 (off + (z : Int))) := hp.cell 3
    have hcp4 : W.cell? ⟨w.heap.size, 4, none⟩ = some (.int .i64 ttl) := hp.cell 4
    have hcp5 : W.cell? ⟨w.heap.size, 5, none⟩ = some (.int .i64 proto) := hp.cell 5
    have hcp6 : W.cell? ⟨w.heap.size, 6, none⟩ = some (.int .u32 src) := hp.cell 6
    have hcp7 : W.cell? ⟨w.heap.size, 7, none⟩ = some (.int .u32 dst) := hp.cell 7
    have hcp8 : W.cell? ⟨w.heap.size, 8, none⟩ = some (.slice A1 n1 c1) := hp.cell 8
    have hcp9 : W.cell? ⟨w.heap.size, 9, none⟩ = some (.slice (some ⟨b, o, none⟩) n2 c2) := hp.cell 9
    have HP := Lib.hid hp
    have HBS := Lib.hid hbs
    have HBN := Lib.hid hbn
    have HROW := Lib.hid hrow
    have HVS := Lib.hid hVs
    have HLEN := Lib.hid hlen
    have HV := Lib.hid hv
    have HM := Lib.hid hm
    have HZ := Lib.hid hz
    have hmm : m ≤ 65535 := by have := (pcN_le s n2 x).1; omega
    have hpl : pre.length ≤ 131070 := by
      have h1 : pcK s n2 ≤ n2 + s - 1 := Nat.div_le_self _ _
      omega
    have hzb : z ≤ 1100000000 := by omega
    have hvl := hv.lt
    have hBsz := hB.size
    clear hp hbs hbn hrow hVs hlen hv hm hz hcl
    gi_wp2_with (first
      | (refine ⟨trivial, ?_⟩
         gi_at_call 15
         refine (CallsIn.inRound l (callsIn_wide.2 HC.out)).mono ?_
         rintro e W1 ⟨v1, rfl, hown1, hb1⟩
         obtain ⟨A8, c8, rfl, _, _, _, _⟩ := own_slice hown1
         have hq1 : Blk W1 W.heap.size 25 #[.int .i64 tos, .int .i64 id, .int .i64 flags, .int .i64 (off + (z : Int)), .int .i64 ttl, .int .i64 proto, .int .u32 src, .int .u32 dst, .slice A1 n1 c1, .slice (some ⟨b, o, none⟩) n2 c2] := (Blk.new W _ _).below hb1 (by simp)
         have hcq0 : W1.cell? ⟨W.heap.size, 0, none⟩ = some (.int .i64 tos) := hq1.cell 0
         have hcq1 : W1.cell? ⟨W.heap.size, 1, none⟩ = some (.int .i64 id) := hq1.cell 1
         have hcq2 : W1.cell? ⟨W.heap.size, 2, none⟩ = some (.int .i64 flags) := hq1.cell 2
         have hcq3 : W1.cell? ⟨W.heap.size, 3, none⟩ = some (.int .i64 (off + (z : Int))) := hq1.cell 3
         have hcq4 : W1.cell? ⟨W.heap.size, 4, none⟩ = some (.int .i64 ttl) := hq1.cell 4
         have hcq5 : W1.cell? ⟨W.heap.size, 5, none⟩ = some (.int .i64 proto) := hq1.cell 5
         have hcq6 : W1.cell? ⟨W.heap.size, 6, none⟩ = some (.int .u32 src) := hq1.cell 6
         have hcq7 : W1.cell? ⟨W.heap.size, 7, none⟩ = some (.int .u32 dst) := hq1.cell 7
         have hcq8 : W1.cell? ⟨W.heap.size, 8, none⟩ = some (.slice A1 n1 c1) := hq1.cell 8
         have hcq9 : W1.cell? ⟨W.heap.size, 9, none⟩ = some (.slice (some ⟨b, o, none⟩) n2 c2) := hq1.cell 9
         have hfq2 : W1.frozen? ⟨W.heap.size, 2, none⟩ = false := hq1.frozen 2
         have hfq9 : W1.frozen? ⟨W.heap.size, 9, none⟩ = false := hq1.frozen 9
         have hB1 : Below W.heap.size W W1 := below_then ((Below.refl W.heap.size W).alloc (Nat.le_refl _) _) (by simp) hb1
         have hv1 : Blk W1 w1.heap.size 27 #[v] := HV.out.below hB1 HV.out.lt
         have hcv : W1.cell? ⟨w1.heap.size, 0, none⟩ = some v := hv1.cell 0
         have hW1s : W.heap.size ≤ W1.heap.size := hB1.size
         have hg1 : W1.grownBy ((W1.setCell ⟨W.heap.size, 9, none⟩ (.slice A8 m c8)).setCell ⟨W.heap.size, 2, none⟩ (.int .i64 (flags / 2 * 2 + 1))) (some W.heap.size) := only_setCell (p := ⟨W.heap.size, 2, none⟩) (only_setCell (p := ⟨W.heap.size, 9, none⟩) (World.grownBy.refl W1 (some W.heap.size)) (.inl rfl) _) (.inl rfl) _
         have hp1 : Blk ((W1.setCell ⟨W.heap.size, 9, none⟩ (.slice A8 m c8)).setCell ⟨W.heap.size, 2, none⟩ (.int .i64 (flags / 2 * 2 + 1))) w.heap.size 25 #[.int .i64 tos, .int .i64 id, .int .i64 flags, .int .i64 (off + (z : Int)), .int .i64 ttl, .int .i64 proto, .int .u32 src, .int .u32 dst, .slice A1 n1 c1, .slice (some ⟨b, o, none⟩) n2 c2] := (HP.out.below hB1 HP.out.lt).grown hg1 (by have := HP.out.lt; intro e; injection e with e; omega)
         have hv1b : Blk ((W1.setCell ⟨W.heap.size, 9, none⟩ (.slice A8 m c8)).setCell ⟨W.heap.size, 2, none⟩ (.int .i64 (flags / 2 * 2 + 1))) w1.heap.size 27 #[v] := hv1.grown hg1 (by have := HV.out.lt; intro e; injection e with e; omega)
         have hrow1 : ((W1.setCell ⟨W.heap.size, 9, none⟩ (.slice A8 m c8)).setCell ⟨W.heap.size, 2, none⟩ (.int .i64 (flags / 2 * 2 + 1))).ownsRow w1.heap.size 25 10 v pre.length (cellsF (fun f V => pieceC tos id (flags / 2 * 2 + 1) f ttl proto src dst (.slice A1 n1 c1) V) off s n2 pre Vs) := own_only' (own_below HROW.out hB1) hg1 (fun g e e2 => by
           injection e with e
           have h1 := HROW.out.2
           rcases h1 with ⟨rfl, _⟩ | ⟨g', cap, cur, rfl, _, hh, _⟩
           · simp [Value.ownBlock] at e2
           · have : g' = g := by simpa [Value.ownBlock] using e2
             have hl := (Array.getElem?_eq_some_iff.1 hh).1
             omega)
         have hrowA := own_below hrow1 ((Below.refl _ _).alloc (Nat.le_refl _) (.cells #[.int .i64 tos, .int .i64 id, .int .i64 (flags / 2 * 2 + 1), .int .i64 (off + (z : Int)), .int .i64 ttl, .int .i64 proto, .int .u32 src, .int .u32 dst, .slice A1 n1 c1, .slice A8 m c8] 25))
         have hvA := hv1b.alloc (.cells #[.int .i64 tos, .int .i64 id, .int .i64 (flags / 2 * 2 + 1), .int .i64 (off + (z : Int)), .int .i64 ttl, .int .i64 proto, .int .u32 src, .int .u32 dst, .slice A1 n1 c1, .slice A8 m c8] 25)
         have hpA := hp1.alloc (.cells #[.int .i64 tos, .int .i64 id, .int .i64 (flags / 2 * 2 + 1), .int .i64 (off + (z : Int)), .int .i64 ttl, .int .i64 proto, .int .u32 src, .int .u32 dst, .slice A1 n1 c1, .slice A8 m c8] 25)
         have HG1 := Lib.hid hg1
         have HROWA := Lib.hid hrowA
         have HVA := Lib.hid hvA
         have HPA := Lib.hid hpA
         have HQ1 := Lib.hid hq1
         have HV1 := Lib.hid hv1
         have HOWN1 := Lib.hid hown1
         have HB1 := Lib.hid hB1
         clear hq1 hv1 hown1 hB1 hb1 hg1 hp1 hv1b hrow1 hrowA hvA hpA)
      | (gi_at_builtin
         refine wpListIn_append_own_at _ rfl _ _ 27 rfl w1.heap.size 25 i0 _ 10 104 Tryd.underlying27 hi hz0 hz1 hz2 rfl (by decide) v pre.length _ rfl HROWA.out ⟨W1.heap.size, 0, none⟩ 1 1 [.int .i64 tos, .int .i64 id, .int .i64 (flags / 2 * 2 + 1), .int .i64 (off + (z : Int)), .int .i64 ttl, .int .i64 proto, .int .u32 src, .int .u32 dst, .slice A1 n1 c1, .slice A8 m c8] rfl rfl
           (fun j u hj => by rw [add_at, Nat.zero_add, (Blk.new' (by simp [World.setCell])).cell]; simpa using hj) (by simp [Value.oneCell']) (by simp only [maxLen]; omega) (by omega) (by simp [World.setCell]; omega) ?_
         intro v' W2 hown2 hgrow2 _ hat2
         obtain ⟨g2, cap2, cur2, rfl, _, _, _⟩ := own_open hown2 (by omega)
         have hv2 : Blk W2 w1.heap.size 27 #[v] := HVA.out.grown hgrow2 (fun e => own_ne_blk HROWA.out HVA.out (by decide) e.symm)
         have hp2 : Blk W2 w.heap.size 25 #[.int .i64 tos, .int .i64 id, .int .i64 flags, .int .i64 (off + (z : Int)), .int .i64 ttl, .int .i64 proto, .int .u32 src, .int .u32 dst, .slice A1 n1 c1, .slice (some ⟨b, o, none⟩) n2 c2] := HPA.out.grown hgrow2 (fun e => by have := own_base HROWA.out _ e.symm; omega)
         have hc2v : W2.cell? ⟨w1.heap.size, 0, none⟩ = some v := hv2.cell 0
         have hf2v : W2.frozen? ⟨w1.heap.size, 0, none⟩ = false := hv2.frozen 0
         have hc23 : W2.cell? ⟨w.heap.size, 3, none⟩ = some (.int .i64 (off + (z : Int))) := hp2.cell 3
         have hf23 : W2.frozen? ⟨w.heap.size, 3, none⟩ = false := hp2.frozen 3
         have HOWN2 := Lib.hid hown2
         have HGR2 := Lib.hid hgrow2
         have HV2 := Lib.hid hv2
         have HP2 := Lib.hid hp2
         clear hown2 hgrow2 hv2 hp2 hat2))
    have hB1 := HB1.out
    have hgr2 := HGR2.out
    have hwW : w.heap.size ≤ W.heap.size := hBsz
    have k4 : KeepsOthers (((W1.setCell ⟨W.heap.size, 9, none⟩ (.slice A8 m c8)).setCell ⟨W.heap.size, 2, none⟩ (.int .i64 (flags / 2 * 2 + 1))).alloc (.cells #[.int .i64 tos, .int .i64 id, .int .i64 (flags / 2 * 2 + 1), .int .i64 (off + (z : Int)), .int .i64 ttl, .int .i64 proto, .int .u32 src, .int .u32 dst, .slice A1 n1 c1, .slice A8 m c8] 25)) W2 := KeepsOthers.of_grownBy hgr2 (fun j ob e h => own_cells HROWA.out j e h)
    have kF : KeepsOthers W ((W2.setCell ⟨w1.heap.size, 0, none⟩ (.slice (some ⟨g2, 0, none⟩) (pre.length + 1) cap2)).setCell ⟨w.heap.size, 3, none⟩ (.int .i64 (off + (z : Int) + (m : Int) / 8))) := (keeps_below hB1).trans (((KeepsOthers.setCell _ _ _).trans (KeepsOthers.setCell _ _ _)).trans ((KeepsOthers.alloc _ _).trans (k4.trans ((KeepsOthers.setCell _ _ _).trans (KeepsOthers.setCell _ _ _)))))
    have b1 : Below w.heap.size W ((W1.setCell ⟨W.heap.size, 9, none⟩ (.slice A8 m c8)).setCell ⟨W.heap.size, 2, none⟩ (.int .i64 (flags / 2 * 2 + 1))) := ((hB1.mono hwW).setCell (p := ⟨W.heap.size, 9, none⟩) hwW _).setCell (p := ⟨W.heap.size, 2, none⟩) hwW _
    have b2 : Below w.heap.size W (((W1.setCell ⟨W.heap.size, 9, none⟩ (.slice A8 m c8)).setCell ⟨W.heap.size, 2, none⟩ (.int .i64 (flags / 2 * 2 + 1))).alloc (.cells #[.int .i64 tos, .int .i64 id, .int .i64 (flags / 2 * 2 + 1), .int .i64 (off + (z : Int)), .int .i64 ttl, .int .i64 proto, .int .u32 src, .int .u32 dst, .slice A1 n1 c1, .slice A8 m c8] 25)) := b1.alloc (Nat.le_trans hwW b1.size) _
    have b3 : Below w.heap.size W W2 := b2.grown hgr2 (Nat.le_trans hwW b2.size) (fun k hk => Nat.le_trans (Nat.le_of_lt hgp) (own_base HROWA.out k hk))
    have bF : Below w.heap.size W ((W2.setCell ⟨w1.heap.size, 0, none⟩ (.slice (some ⟨g2, 0, none⟩) (pre.length + 1) cap2)).setCell ⟨w.heap.size, 3, none⟩ (.int .i64 (off + (z : Int) + (m : Int) / 8))) := (b3.setCell (p := ⟨w1.heap.size, 0, none⟩) (Nat.le_of_lt hgp) _).setCell (p := ⟨w.heap.size, 3, none⟩) (Nat.le_refl _) _
    have boxF : ∀ (g : Nat) (t : TypeId) (cs : Array Value), Blk W g t cs → t ≠ 25 → g ≠ w1.heap.size → g ≠ w.heap.size → Blk ((W2.setCell ⟨w1.heap.size, 0, none⟩ (.slice (some ⟨g2, 0, none⟩) (pre.length + 1) cap2)).setCell ⟨w.heap.size, 3, none⟩ (.int .i64 (off + (z : Int) + (m : Int) / 8))) g t cs := fun g t cs hb ht h1 h2 => by
      have q1 := (hb.below hB1 hb.lt).grown HG1.out (by have := hb.lt; intro e; injection e with e; omega)
      have q2 := q1.alloc (.cells #[.int .i64 tos, .int .i64 id, .int .i64 (flags / 2 * 2 + 1), .int .i64 (off + (z : Int)), .int .i64 ttl, .int .i64 proto, .int .u32 src, .int .u32 dst, .slice A1 n1 c1, .slice A8 m c8] 25)
      have q3 := q2.grown hgr2 (fun e => own_ne_blk HROWA.out q2 ht e.symm)
      exact (q3.far (p := ⟨w1.heap.size, 0, none⟩) h1 _).far (p := ⟨w.heap.size, 3, none⟩) h2 _
    have hbsF := boxF _ _ _ HBS.out (by decide) (by omega) (by omega)
    have hbnF := boxF _ _ _ HBN.out (by decide) (by omega) (by omega)
    have chain : ∀ (base : Nat) (V : Value) (n : Nat) (xs : List Value), ((W1.setCell ⟨W.heap.size, 9, none⟩ (.slice A8 m c8)).setCell ⟨W.heap.size, 2, none⟩ (.int .i64 (flags / 2 * 2 + 1))).ownsRow base 5 1 V n xs → ((W2.setCell ⟨w1.heap.size, 0, none⟩ (.slice (some ⟨g2, 0, none⟩) (pre.length + 1) cap2)).setCell ⟨w.heap.size, 3, none⟩ (.int .i64 (off + (z : Int) + (m : Int) / 8))).ownsRow base 5 1 V n xs := fun base V n xs h => by
      have q2 := own_below h ((Below.refl _ _).alloc (Nat.le_refl _) (.cells #[.int .i64 tos, .int .i64 id, .int .i64 (flags / 2 * 2 + 1), .int .i64 (off + (z : Int)), .int .i64 ttl, .int .i64 proto, .int .u32 src, .int .u32 dst, .slice A1 n1 c1, .slice A8 m c8] 25))
      have q3 := own_only' q2 hgr2 (fun g e => own_ne_own q2 HROWA.out (by decide) g e)
      have q4 := own_only' q3 (only_setCell (p := ⟨w1.heap.size, 0, none⟩) (World.grownBy.refl W2 (some w1.heap.size)) (.inl rfl) (.slice (some ⟨g2, 0, none⟩) (pre.length + 1) cap2)) (fun g e => by injection e with e; subst e; exact own_ne_blk q3 HV2.out (by decide))
      exact own_only' q4 (only_setCell (p := ⟨w.heap.size, 3, none⟩) (World.grownBy.refl _ (some w.heap.size)) (.inl rfl) _) (fun g e => by injection e with e; subst e; exact own_ne_blk q4 (HP2.out.far (p := ⟨w1.heap.size, 0, none⟩) (by simp; omega) _) (by decide))
    have ownLt : ∀ (base : Nat) (V : Value) (n : Nat) (xs : List Value), W.ownsRow base 5 1 V n xs → ((W1.setCell ⟨W.heap.size, 9, none⟩ (.slice A8 m c8)).setCell ⟨W.heap.size, 2, none⟩ (.int .i64 (flags / 2 * 2 + 1))).ownsRow base 5 1 V n xs := fun base V n xs h =>
      own_only' (own_below h hB1) HG1.out (fun g e => by injection e with e; subst e; exact own_old h)
    have hownF := own_only' (own_only' HOWN2.out (only_setCell (p := ⟨w1.heap.size, 0, none⟩) (World.grownBy.refl W2 (some w1.heap.size)) (.inl rfl) (.slice (some ⟨g2, 0, none⟩) (pre.length + 1) cap2)) (fun g e => by injection e with e; subst e; exact own_ne_blk HOWN2.out HV2.out (by decide)))
      (only_setCell (p := ⟨w.heap.size, 3, none⟩) (World.grownBy.refl _ (some w.heap.size)) (.inl rfl) (.int .i64 (off + (z : Int) + (m : Int) / 8))) (fun g e e2 => by injection e with e; subst e; have := own_base HOWN2.out _ e2; omega)
    refine ⟨kF.from _, ⟨bF, hbsF.trans HBS.out.symm, hbnF.trans HBN.out.symm⟩, ⟨.slice (some ⟨g2, 0, none⟩) (pre.length + 1) cap2, Vs ++ [.slice A8 m c8], ?_, ?_, ?_, ?_, ?_, hbsF, hbnF⟩, hB.trans bF⟩
    · exact (HV2.out.set_ 0 (.slice (some ⟨g2, 0, none⟩) (pre.length + 1) cap2)).far (p := ⟨w.heap.size, 3, none⟩) (by simp; omega) _
    · rw [cellsF_snoc _ _ _ _ _ _ _ _ HLEN.out, HZ.out, List.length_append, List.length_singleton]
      exact hownF
    · rw [List.length_append, List.length_append, HLEN.out]; rfl
    · intro i V y h1 h2
      rw [List.getElem?_append] at h1 h2
      rw [HLEN.out] at h1
      by_cases hi : i < pre.length
      · rw [if_pos hi] at h1 h2
        exact chain _ _ _ _ (ownLt _ _ _ _ (HVS.out i V y h1 h2))
      · rw [if_neg hi] at h1 h2
        have hi0 : i - pre.length = 0 := by
          rcases hq2 : i - pre.length with _ | k
          · rfl
          · rw [hq2] at h1; simp at h1
        rw [hi0] at h1 h2
        simp at h1 h2
        subst h1 h2
        rw [HM.out]
        have h0 := own_onlyC (own_lower HOWN1.out (Nat.le_refl _)) HG1.out (by simp)
        exact own_lower (chain _ _ _ _ h0) (by simp; omega)
    · have e : (off + ((offN s n2 (pre ++ [x]) : Nat) : Int)) = off + (z : Int) + (m : Int) / 8 := by rw [offN_snoc, HZ.out, HM.out]; omega
      rw [e]
      exact (HP2.out.far (p := ⟨w1.heap.size, 0, none⟩) (by simp; omega) (.slice (some ⟨g2, 0, none⟩) (pre.length + 1) cap2)).set_ 3 _
  case done =>
    rintro D ys W hD rfl ⟨⟨v, Vs, hv, hrow, hlen, hVs, hp, hbs, hbn⟩, hB⟩ hK
    rw [List.length_range] at hlen hrow
    have hn0 : 0 < n2 := by omega
    have hKp : 0 < pcK s n2 := pcK_lt s n2 0 (by omega) (by omega)
    obtain ⟨K, hKe⟩ : ∃ K, pcK s n2 = K := ⟨_, rfl⟩
    rw [hKe] at hlen hrow hKp
    obtain ⟨g, cap, cur, rfl, hgb, hgk, hKc, hcm, hcs, hct⟩ := own_open hrow hKp
    have hcv : W.cell? ⟨w1.heap.size, 0, none⟩ = some (.slice (some ⟨g, 0, none⟩) K cap) := hv.cell 0
    have hcf : W.cell? ⟨w.heap.size, 2, none⟩ = some (.int .i64 flags) := hp.cell 2
    have hgD : g ≠ D := by
      rintro rfl
      unfold Blk at hgk
      rw [hK] at hgk
      cases hgk
    obtain ⟨K1, rfl⟩ : ∃ K1, K = K1 + 1 := ⟨K - 1, by omega⟩
    have hK1 : K1 ≤ 131070 := by
      have h1 : pcK s n2 ≤ n2 + s - 1 := Nat.div_le_self _ _
      omega
    have hkcells : ∀ k j u, k < K1 + 1 → j < 10 → (pieceC tos id (flags / 2 * 2 + 1) (off + (k * s / 8 : Nat)) ttl proto src dst (.slice A1 n1 c1) (Vs.getD k undef))[j]? = some u → W.cell? ⟨g, k * 10 + j, none⟩ = some u := fun k j u hk hj hu => by
      have h1 := (Reads.of_own hrow).2 hKp
      obtain ⟨ad, e, _, hcell⟩ := h1
      injection e with e
      subst e
      have h2 := hcell (k * 10 + j) u (by
        unfold cellsF
        rw [List.length_range, flat10 _ (fun i => rfl) (K1 + 1) k j hk hj]
        have h3 : (List.range (K1 + 1)).take k = List.range k := by rw [List.take_range, Nat.min_eq_left (by omega)]
        have hks : k * s ≤ n2 := by
          have : k < pcK s n2 := by omega
          unfold pcK at this
          rw [Nat.lt_div_iff_mul_lt (by omega)] at this
          omega
        have h4 := offN_range s n2 k h8 hks
        rw [h3]
        have h5 : offN s n2 (List.range k) = k * s / 8 := by omega
        rw [h5]
        exact hu)
      rw [add_at, Nat.zero_add] at h2
      exact h2
    have hcl : W.cell? ⟨g, K1 * 10 + 2, none⟩ = some (.int .i64 (flags / 2 * 2 + 1)) := hkcells K1 2 _ (by omega) (by omega) rfl
    have hfl2 : W.frozen? ⟨g, K1 * 10 + 2, none⟩ = false := hgk.frozen _
    have hgne : g ≠ w1.heap.size := by
      rintro rfl
      exact own_ne_blk hrow hv (by decide) rfl
    have hgne2 : g ≠ w.heap.size := by omega
    have hcv2 : (W.setCell ⟨g, K1 * 10 + 2, none⟩ (.int .i64 flags)).cell? ⟨w1.heap.size, 0, none⟩ = some (.slice (some ⟨g, 0, none⟩) (K1 + 1) cap) := (World.cell?_setCell_other W _ _ _ (fun e => by injection e with e1; exact hgne e1)).trans hcv
    have HKC := Lib.hid hkcells
    have HVS := Lib.hid hVs
    have HROW := Lib.hid hrow
    have HGK := Lib.hid hgk
    have HLEN := Lib.hid hlen
    have HKE := Lib.hid hKe
    have HV := Lib.hid hv
    have HP := Lib.hid hp
    clear hkcells hVs hrow hgk hlen hKe hct hcs hv hp hbs hbn
    gi_wp2
    have hK' := (KeepsOthers.setCell W ⟨g, K1 * 10 + 2, none⟩ (.int .i64 flags)).same D _ hK rfl
    have hg1 : W.grownBy (W.setCell ⟨g, K1 * 10 + 2, none⟩ (.int .i64 flags)) (some g) := only_setCell (p := ⟨g, K1 * 10 + 2, none⟩) (World.grownBy.refl W (some g)) (.inl rfl) _
    have hg2 := grownBy_putObj' (W.setCell ⟨g, K1 * 10 + 2, none⟩ (.int .i64 flags)) D (.deferred none)
    have hrD : ∀ r, some D = some r → ∃ ob : Obj, (W.setCell ⟨g, K1 * 10 + 2, none⟩ (.int .i64 flags)).heap[r]? = some ob ∧ ob.isCells = false := fun r e => by injection e with e; subst e; exact ⟨_, hK', rfl⟩
    refine ⟨by simp, .inl ⟨_, _, rfl, run_takeDeferred hK', ?_⟩⟩
    have hB2 := (hB.setCell (p := ⟨g, K1 * 10 + 2, none⟩) (by omega : w.heap.size ≤ g) (.int .i64 flags)).trans (belowK_b (w := w) (Nat.le_refl _) _ D _ (.deferred none) (by have := hB0.size; omega) hK' rfl rfl)
    refine ⟨_, results_tmp2 rfl _ _ _, g, cap, by rw [HKE.out]; rfl, fun k hk => ⟨Vs.getD k undef, ?_, fun j u hu => ?_⟩, ?_, by rw [HKE.out]; exact hKc, hB2⟩
    · rw [HKE.out] at hk
      have h1 := HVS.out k (Vs.getD k undef) k (by rw [List.getD_eq_getElem?_getD, List.getElem?_eq_getElem (by rw [HLEN.out]; exact hk)]; rfl) (by rw [HKE.out, List.getElem?_range hk])
      exact own_turn (own_only' h1 hg1 (fun g' e => by injection e with e; subst e; exact own_ne_own h1 HROW.out (by decide) _ rfl)) hg2 hrD
    · rw [HKE.out] at hk hu
      refine cell_kept ?_ hg2 hrD
      have hj : j < 10 := (List.getElem?_eq_some_iff.1 hu).1
      by_cases h2 : k = K1 ∧ j = 2
      · obtain ⟨rfl, rfl⟩ := h2
        rw [if_pos rfl] at hu
        have hu2 : u = .int .i64 flags := by
          have : some (Value.int .i64 flags) = some u := hu
          injection this with this
          exact this.symm
        subst hu2
        exact World.cell?_setCell_same' _ _ _ (by rw [hcl]; rfl)
      · refine (World.cell?_setCell_other W _ _ _ (fun e => ?_)).trans (HKC.out k j u hk hj ?_)
        · injection e with _ e2
          omega
        · by_cases hj2 : j = 2
          · rw [if_neg (by omega)] at hu
            exact hu
          · rw [← hu]
            exact pieceC_get _ _ _ _ _ _ _ _ _ _ _ _ hj2
    · have h1 : g < W.heap.size := HGK.out.lt
      have h2 := hg1.size
      have h3 := hg2.size
      omega
  case stop =>
    rintro D c pre W _ _ h _
    exact h.elim
end Go.Proofs.YtfkkjhfncmfahaaDoor
