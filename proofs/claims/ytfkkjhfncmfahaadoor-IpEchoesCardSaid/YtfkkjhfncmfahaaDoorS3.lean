/- Layer 15's page (ref15.Sum, Right) and layer 1's Same: what they answer. -/
import Derived.Test.YtfkkjhfncmfahaaDoorProg
import Derived.Test.YtfkkjhfncmfahaaDoorA0
import Derived.Test.YtfkkjhfncmfahaaDoorB0
import Derived.Test.YtfkkjhfncmfahaaDoorB1
import Derived.Test.YtfkkjhfncmfahaaDoorS1
import Derived.Test.YtfkkjhfncmfahaaDoorS2
namespace Go.Proofs.YtfkkjhfncmfahaaDoor
open Go.RowKit Go.Deep

theorem canon_add (T v : Nat) (hv : v ≤ 65535) : canon (T + v) = if canon T + v > 65535 then canon T + v - 65535 else canon T + v := by
  unfold canon
  by_cases hT : T = 0
  · subst hT
    by_cases h0 : v = 0
    · simp [h0]
    · rw [if_neg (by omega), if_pos rfl, if_neg (by omega)]
      omega
  · rw [if_neg (by omega), if_neg hT]
    split <;> omega

set_option maxRecDepth 100000 in
set_option maxHeartbeats 1000000 in
theorem refsum_any (A : Option Addr) (n c : Nat) (bs : List UInt8) (w : World) (hl : bs.length = n) (hc : n ≤ c) (hn : n ≤ 140737488355328) (hr : Reads w w.heap.size 1 A n (bytesV bs)) :
    Calls Tryd.prog 21 #[.slice A n c] w fun e w' => e = .returned (.int .i64 (sumF bs : Nat)) ∧ w = w' := by
  have HL := Lib.hid hl
  clear hl
  go_enter Tryd.func21, Tryd.ntmps21
  go_wp2_with fail
  go_loop [4, 3] (fun i s => ∃ k : Nat, k ≤ (n + 1) / 2 ∧ i = .int .i64 (2 * (k : Int)) ∧ ∃ m : Nat, m ≤ 65535 ∧ Hid (m = canon (totTo bs k)) ∧ s = .int .i64 m) (fun i _ => n + 1 - (intOf i).toNat)
  case atStart => exact ⟨0, by omega, rfl, 0, by omega, Lib.hid rfl, rfl⟩
  case round =>
    obtain ⟨k, hk, rfl, m, hm, hmc, rfl⟩ := hrel
    by_cases hlt : k < (n + 1) / 2
    · obtain ⟨b, o, rfl, hab, hcell⟩ := hr.opn (by omega)
      have hc0 := byte_at hcell HL.out (show 2 * k < n by omega)
      obtain ⟨x, hx⟩ : ∃ x, x = (bs.getD (2 * k) 0).toNat := ⟨_, rfl⟩
      have hx2 : x < 256 := by rw [hx]; exact UInt8.toNat_lt _
      rw [← hx] at hc0
      have h2k : (2 * (k : Int)) < n := by omega
      have h2n : (2 * (k : Int)).toNat = 2 * k := by omega
      have hstep : ∀ y, y = (bs.getD (2 * k + 1) 0).toNat → totTo bs (k + 1) = totTo bs k + (256 * x + y) := by intro y hy; simp only [totTo, hy, hx]
      have HX := Lib.hid hx
      have HST := Lib.hid hstep
      clear hx hstep
      by_cases hodd : 2 * k + 1 < n
      · have hc1 := byte_at hcell HL.out hodd
        clear hcell
        obtain ⟨y, hy⟩ : ∃ y, y = (bs.getD (2 * k + 1) 0).toNat := ⟨_, rfl⟩
        have hy2 : y < 256 := by rw [hy]; exact UInt8.toNat_lt _
        rw [← hy] at hc1
        have HT := Lib.hid (HST.out y hy)
        clear hy HST
        have hadd := Lib.hid (canon_add (totTo bs k) (256 * x + y) (by omega))
        go_wp2_with fail
        all_goals
          go_round
          case rel =>
            have h1 := hadd.out
            rw [← HT.out, ← hmc.out] at h1
            first
              | exact ⟨k + 1, by omega, by go_num, m + (256 * x + y) - 65535, by omega, Lib.hid (by rw [h1, if_pos (by omega)]), by go_num⟩
              | exact ⟨k + 1, by omega, by go_num, m + (256 * x + y), by omega, Lib.hid (by rw [h1, if_neg (by omega)]), by go_num⟩
          case measure => simp [intOf]; omega
      · have hy : (0 : Nat) = (bs.getD (2 * k + 1) 0).toNat := by
          rw [List.getD, List.getElem?_eq_none (by have := HL.out; omega)]; rfl
        have HT := Lib.hid (HST.out 0 hy)
        clear hy HST
        have hadd := Lib.hid (canon_add (totTo bs k) (256 * x + 0) (by omega))
        go_wp2_with fail
        all_goals
          go_round
          case rel =>
            have h1 := hadd.out
            rw [← HT.out, ← hmc.out] at h1
            first
              | exact ⟨k + 1, by omega, by go_num, m + (256 * x + 0) - 65535, by omega, Lib.hid (by rw [h1, if_pos (by omega)]), by go_num⟩
              | exact ⟨k + 1, by omega, by go_num, m + (256 * x + 0), by omega, Lib.hid (by rw [h1, if_neg (by omega)]), by go_num⟩
          case measure => simp [intOf]; omega
    · obtain rfl : k = (n + 1) / 2 := by omega
      have htot : totTo bs ((n + 1) / 2) = total bs := by unfold total; rw [HL.out]
      rw [htot] at hmc
      clear htot
      go_wp2_with fail
      go_ret
      have h1 := hmc.out
      exact ⟨ret_int (by unfold sumF; omega), rfl⟩

theorem refright_any (A : Option Addr) (n c : Nat) (bs : List UInt8) (w : World) (hl : bs.length = n) (hc : n ≤ c) (hn : n ≤ 140737488355328) (hr : Reads w w.heap.size 1 A n (bytesV bs)) :
    Calls Tryd.prog 10 #[.slice A n c] w fun e w' => e = .returned (.bool (rightB bs)) ∧ w = w' := by
  have HS := Lib.hid (refsum_any A n c bs w hl hc hn hr)
  clear hl hr
  go_enter Tryd.func10, Tryd.ntmps10
  go_wp2_with (go_at_call 21; refine HS.out.mono ?_; rintro e w1 ⟨rfl, rfl⟩)
  go_ret
  refine ⟨ret_bool ?_, rfl⟩
  unfold rightB
  exact Bool.eq_iff_iff.2 (by simp)

theorem strOfNums_bytes (bs : List UInt8) : strOfNums (bs.map fun b => (b.toNat : Int)) = ⟨bs.toArray⟩ := by
  unfold strOfNums
  congr 1
  rw [List.map_map]
  congr 1
  exact (List.map_congr_left fun b _ => by simp).trans (List.map_id bs)
/-- string(b). -/
theorem conv_bytes {w : World} {B n c : Nat} {A : Option Addr} {bs : List UInt8} (hr : Reads w B 1 A n (bytesV bs)) (hl : bs.length = n) :
    (convert 23 9 (.slice A n c)).run Tryd.prog w = .ok (.string ⟨bs.toArray⟩) w := by
  rcases Nat.eq_zero_or_pos n with h0 | h0
  · subst h0
    obtain rfl : bs = [] := List.eq_nil_of_length_eq_zero hl
    rcases A with _ | ad
    · exact run_convert_bytes_nil w _ _ Tryd.underlying23 Tryd.underlying5 0 c _ Tryd.underlying9
    · rw [run_convert_bytes_string w _ _ _ _ 0 c Tryd.underlying23 Tryd.underlying5 Tryd.underlying9]
      have hl : (loadCells ad 0).run Tryd.prog w = .ok (([] : List Int).map (Value.int .u8)).toArray w := by simpa using run_loadCells_list (P := Tryd.prog) w ad [] (by simp)
      rw [run_bytesToString w ad 0 c [] hl]
      rfl
  · obtain ⟨b, o, rfl, _, hc⟩ := hr.opn h0
    rw [← strOfNums_bytes]
    refine run_convert_bytes_arg w _ _ Tryd.underlying23 Tryd.underlying5 b o n c _ (by simpa using hl) (fun i hi => ?_) _ Tryd.underlying9
    rw [byte_at hc hl hi]
    simp [List.getD, List.getElem?_eq_getElem (show i < bs.length by omega)]

set_option maxRecDepth 100000 in
set_option maxHeartbeats 1000000 in
theorem same_any (A B : Option Addr) (n c m d : Nat) (xs ys : List UInt8) (w : World) (hl : xs.length = n) (hr : Reads w w.heap.size 1 A n (bytesV xs)) (hl2 : ys.length = m) (hr2 : Reads w w.heap.size 1 B m (bytesV ys)) :
    Calls Tryd.prog 8 #[.slice A n c, .slice B m d] w fun e w' => e = .returned (.bool (decide (xs = ys))) ∧ w = w' := by
  have h1 := conv_bytes (c := c) hr hl
  have h2 := conv_bytes (c := d) hr2 hl2
  clear hr hr2 hl hl2
  go_enter Tryd.func8, Tryd.ntmps8
  go_wp2_with fail
  go_ret
  exact ⟨ret_bool (by first | rfl | (exact Bool.eq_iff_iff.2 (by simp))), rfl⟩
end Go.Proofs.YtfkkjhfncmfahaaDoor
