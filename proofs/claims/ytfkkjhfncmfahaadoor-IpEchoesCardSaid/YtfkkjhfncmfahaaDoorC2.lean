/- ip.Cut: packets that are not cut. -/
import Derived.Test.YtfkkjhfncmfahaaDoorProg
import Derived.Test.YtfkkjhfncmfahaaDoorA0
import Derived.Test.YtfkkjhfncmfahaaDoorB0
import Derived.Test.YtfkkjhfncmfahaaDoorI1
namespace Go.Proofs.YtfkkjhfncmfahaaDoor
open Go.RowKit Go.Deep

theorem and_2 (f : Int) (h0 : 0 ≤ f) (h8 : f < 8) : bits .and .i64 f 2 = f / 2 % 2 * 2 := by
  have : f = 0 ∨ f = 1 ∨ f = 2 ∨ f = 3 ∨ f = 4 ∨ f = 5 ∨ f = 6 ∨ f = 7 := by omega
  rcases this with rfl | rfl | rfl | rfl | rfl | rfl | rfl | rfl <;> rfl
theorem or_1 (f : Int) (h0 : 0 ≤ f) (h8 : f < 8) : bits .or .i64 f 1 = f / 2 * 2 + 1 := by
  have : f = 0 ∨ f = 1 ∨ f = 2 ∨ f = 3 ∨ f = 4 ∨ f = 5 ∨ f = 6 ∨ f = 7 := by omega
  rcases this with rfl | rfl | rfl | rfl | rfl | rfl | rfl | rfl <;> rfl

set_option maxRecDepth 100000 in
set_option maxHeartbeats 2000000 in
theorem cut_no (tos id flags off ttl proto src dst : Int) (A1 A2 : Option Addr) (n1 c1 n2 c2 : Nat) (xs1 xs2 : List UInt8) (mtu : Int) (w : World) (h1 : n1 ≤ 140737488355328) (h2 : n2 ≤ 140737488355328) (hno : ¬ IpRight tos id flags off ttl proto n1 n2) :
    Calls Tryd.prog 6 #[.agg #[.int .i64 tos, .int .i64 id, .int .i64 flags, .int .i64 off, .int .i64 ttl, .int .i64 proto, .int .u32 src, .int .u32 dst, .slice A1 n1 c1, .slice A2 n2 c2], .int .i64 mtu] w fun e w' => e = .returned (.tuple #[.slice none 0 0, .int .i64 2]) ∧ Below w.heap.size w w' := by
  have HR := fun W => ipright_any tos id flags off ttl proto src dst A1 A2 n1 c1 n2 c2 xs1 xs2 W h1 h2
  have hf : ipRightB tos id flags off ttl proto n1 n2 = false := decide_eq_false hno
  rw [hf] at HR
  have HRH := Lib.hid HR
  clear HR hf hno
  go_enter Tryd.func6, Tryd.ntmps6
  go_wp2_with fail
  refine (HRH.out _).mono ?_
  rintro e w1 ⟨rfl, hb1⟩
  go_wp2_with fail
  go_ret2
  exact ⟨rfl, below_then ((Below.refl _ _).alloc (Nat.le_refl _) _) (by simp) hb1⟩

set_option maxRecDepth 100000 in
set_option maxHeartbeats 2000000 in
theorem cut_all (tos id flags off ttl proto src dst : Int) (A1 A2 : Option Addr) (n1 c1 n2 c2 : Nat) (xs1 xs2 : List UInt8) (mtu : Int) (w : World) (hok : IpRight tos id flags off ttl proto n1 n2) (hm : 20 + (n1 : Int) + n2 ≤ mtu) :
    Calls Tryd.prog 6 #[.agg #[.int .i64 tos, .int .i64 id, .int .i64 flags, .int .i64 off, .int .i64 ttl, .int .i64 proto, .int .u32 src, .int .u32 dst, .slice A1 n1 c1, .slice A2 n2 c2], .int .i64 mtu] w fun e w' => ∃ g, e = .returned (.tuple #[.slice (some ⟨g, 0, none⟩) 1 1, .int .i64 0]) ∧ w.heap.size ≤ g ∧ Blk w' g 25 #[.int .i64 tos, .int .i64 id, .int .i64 flags, .int .i64 off, .int .i64 ttl, .int .i64 proto, .int .u32 src, .int .u32 dst, .slice A1 n1 c1, .slice A2 n2 c2] ∧ Below w.heap.size w w' := by
  have HR := fun W => ipright_any tos id flags off ttl proto src dst A1 A2 n1 c1 n2 c2 xs1 xs2 W (by have := hok.2.2.2.2.2.2; omega) (by have := hok.2.2.2.2.2.2; omega)
  have hf : ipRightB tos id flags off ttl proto n1 n2 = true := decide_eq_true hok
  rw [hf] at HR
  have HRH := Lib.hid HR
  obtain ⟨⟨ht0, ht1⟩, ⟨htt0, htt1⟩, ⟨hp0, hp1⟩, ⟨hi0, hi1⟩, ⟨hf0, hf1⟩, ⟨ho0, ho1⟩, h40, h4, hmost⟩ := hok
  clear HR hf
  go_enter Tryd.func6, Tryd.ntmps6
  go_wp2_with fail
  refine (HRH.out _).mono ?_
  rintro e w1 ⟨rfl, hb1⟩
  have hbox : Blk w1 w.heap.size 25 #[.int .i64 tos, .int .i64 id, .int .i64 flags, .int .i64 off, .int .i64 ttl, .int .i64 proto, .int .u32 src, .int .u32 dst, .slice A1 n1 c1, .slice A2 n2 c2] := (Blk.new w _ _).below hb1 (by simp)
  have hc0 := hbox.cell 0
  have hc1 := hbox.cell 1
  have hc2 := hbox.cell 2
  have hc3 := hbox.cell 3
  have hc4 := hbox.cell 4
  have hc5 := hbox.cell 5
  have hc6 := hbox.cell 6
  have hc7 := hbox.cell 7
  have hc8 := hbox.cell 8
  have hc9 := hbox.cell 9
  have HBX := Lib.hid hbox
  clear hbox
  have hdm : decide (20 + (n1 : Int) + n2 ≤ mtu) = true := by simpa using hm
  go_wp2_with fail
  go_ret2
  have hB1 := below_then ((Below.refl w.heap.size w).alloc (Nat.le_refl _) (.cells #[.int .i64 tos, .int .i64 id, .int .i64 flags, .int .i64 off, .int .i64 ttl, .int .i64 proto, .int .u32 src, .int .u32 dst, .slice A1 n1 c1, .slice A2 n2 c2] 25)) (by simp) hb1
  exact ⟨_, rfl, hB1.size, Blk.new _ _ _, hB1.alloc hB1.size _⟩

set_option maxRecDepth 100000 in
set_option maxHeartbeats 2000000 in
theorem cut_form (tos id flags off ttl proto src dst : Int) (A1 A2 : Option Addr) (n1 c1 n2 c2 : Nat) (xs1 xs2 : List UInt8) (mtu : Int) (w : World) (hok : IpRight tos id flags off ttl proto n1 n2) (hm : mtu < 20 + (n1 : Int) + n2) (hfl : flags / 2 % 2 = 1) :
    Calls Tryd.prog 6 #[.agg #[.int .i64 tos, .int .i64 id, .int .i64 flags, .int .i64 off, .int .i64 ttl, .int .i64 proto, .int .u32 src, .int .u32 dst, .slice A1 n1 c1, .slice A2 n2 c2], .int .i64 mtu] w fun e w' => e = .returned (.tuple #[.slice none 0 0, .int .i64 161]) ∧ Below w.heap.size w w' := by
  have HR := fun W => ipright_any tos id flags off ttl proto src dst A1 A2 n1 c1 n2 c2 xs1 xs2 W (by have := hok.2.2.2.2.2.2; omega) (by have := hok.2.2.2.2.2.2; omega)
  have hf : ipRightB tos id flags off ttl proto n1 n2 = true := decide_eq_true hok
  rw [hf] at HR
  have HRH := Lib.hid HR
  obtain ⟨⟨ht0, ht1⟩, ⟨htt0, htt1⟩, ⟨hp0, hp1⟩, ⟨hi0, hi1⟩, ⟨hf0, hf1⟩, ⟨ho0, ho1⟩, h40, h4, hmost⟩ := hok
  clear HR hf
  have hdm : decide (20 + (n1 : Int) + n2 ≤ mtu) = false := by simp; omega
  have hand : bits .and .i64 flags 2 = 2 := by rw [and_2 flags hf0 hf1]; omega
  clear hfl
  go_enter Tryd.func6, Tryd.ntmps6
  go_wp2_with fail
  refine (HRH.out _).mono ?_
  rintro e w1 ⟨rfl, hb1⟩
  have hbox : Blk w1 w.heap.size 25 #[.int .i64 tos, .int .i64 id, .int .i64 flags, .int .i64 off, .int .i64 ttl, .int .i64 proto, .int .u32 src, .int .u32 dst, .slice A1 n1 c1, .slice A2 n2 c2] := (Blk.new w _ _).below hb1 (by simp)
  have hc0 := hbox.cell 0
  have hc1 := hbox.cell 1
  have hc2 := hbox.cell 2
  have hc3 := hbox.cell 3
  have hc4 := hbox.cell 4
  have hc5 := hbox.cell 5
  have hc6 := hbox.cell 6
  have hc7 := hbox.cell 7
  have hc8 := hbox.cell 8
  have hc9 := hbox.cell 9
  have HBX := Lib.hid hbox
  clear hbox
  go_wp2_with fail
  go_ret2
  exact ⟨rfl, below_then ((Below.refl _ _).alloc (Nat.le_refl _) _) (by simp) hb1⟩

set_option maxRecDepth 100000 in
set_option maxHeartbeats 2000000 in
theorem cut_arg (tos id flags off ttl proto src dst : Int) (A1 A2 : Option Addr) (n1 c1 n2 c2 : Nat) (xs1 xs2 : List UInt8) (mtu : Int) (w : World) (hok : IpRight tos id flags off ttl proto n1 n2) (hm : mtu < 20 + (n1 : Int) + n2) (hfl : flags / 2 % 2 = 0) (hbad : mtu < 20 + (n1 : Int) + 8 ∨ 8191 < off + ((n2 : Int) + 7) / 8) :
    Calls Tryd.prog 6 #[.agg #[.int .i64 tos, .int .i64 id, .int .i64 flags, .int .i64 off, .int .i64 ttl, .int .i64 proto, .int .u32 src, .int .u32 dst, .slice A1 n1 c1, .slice A2 n2 c2], .int .i64 mtu] w fun e w' => e = .returned (.tuple #[.slice none 0 0, .int .i64 2]) ∧ Below w.heap.size w w' := by
  have HR := fun W => ipright_any tos id flags off ttl proto src dst A1 A2 n1 c1 n2 c2 xs1 xs2 W (by have := hok.2.2.2.2.2.2; omega) (by have := hok.2.2.2.2.2.2; omega)
  have hf : ipRightB tos id flags off ttl proto n1 n2 = true := decide_eq_true hok
  rw [hf] at HR
  have HRH := Lib.hid HR
  obtain ⟨⟨ht0, ht1⟩, ⟨htt0, htt1⟩, ⟨hp0, hp1⟩, ⟨hi0, hi1⟩, ⟨hf0, hf1⟩, ⟨ho0, ho1⟩, h40, h4, hmost⟩ := hok
  clear HR hf
  have hdm : decide (20 + (n1 : Int) + n2 ≤ mtu) = false := by simp; omega
  have hand : bits .and .i64 flags 2 = 0 := by rw [and_2 flags hf0 hf1]; omega
  clear hfl
  obtain ⟨u, hu⟩ : ∃ u, ((n2 : Int) + 8 - 1) / 8 = u := ⟨_, rfl⟩
  have hu0 : 0 ≤ u := by omega
  have hu1 : u ≤ 8190 := by omega
  have hbad2 : mtu < 20 + (n1 : Int) + 8 ∨ 8191 < off + u := by omega
  clear hbad
  go_enter Tryd.func6, Tryd.ntmps6
  go_wp2_with fail
  refine (HRH.out _).mono ?_
  rintro e w1 ⟨rfl, hb1⟩
  have hbox : Blk w1 w.heap.size 25 #[.int .i64 tos, .int .i64 id, .int .i64 flags, .int .i64 off, .int .i64 ttl, .int .i64 proto, .int .u32 src, .int .u32 dst, .slice A1 n1 c1, .slice A2 n2 c2] := (Blk.new w _ _).below hb1 (by simp)
  have hc0 := hbox.cell 0
  have hc1 := hbox.cell 1
  have hc2 := hbox.cell 2
  have hc3 := hbox.cell 3
  have hc4 := hbox.cell 4
  have hc5 := hbox.cell 5
  have hc6 := hbox.cell 6
  have hc7 := hbox.cell 7
  have hc8 := hbox.cell 8
  have hc9 := hbox.cell 9
  have HBX := Lib.hid hbox
  clear hbox
  by_cases hlow : mtu < 20 + (n1 : Int) + 8
  · clear hbad2
    have hd2 : decide (mtu < 20 + (n1 : Int) + 8) = true := by simpa using hlow
    go_wp2_with fail
    go_ret2
    exact ⟨rfl, below_then ((Below.refl _ _).alloc (Nat.le_refl _) _) (by simp) hb1⟩
  · have hd2 : decide (mtu < 20 + (n1 : Int) + 8) = false := by simpa using hlow
    have hoff : 8191 < off + u := by omega
    clear hbad2
    go_wp2_with fail
    go_ret2
    exact ⟨rfl, below_then ((Below.refl _ _).alloc (Nat.le_refl _) _) (by simp) hb1⟩
end Go.Proofs.YtfkkjhfncmfahaaDoor
