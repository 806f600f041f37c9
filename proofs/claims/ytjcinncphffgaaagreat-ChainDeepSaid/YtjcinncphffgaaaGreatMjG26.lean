/- channel: wins, of any state. coin.Fits of any output. coin.Fits of any output, as one. block.First of outputs that may be; what is odd among outputs. -/
import Derived.Outline
import Derived.Deep.RegionHeld3
import Derived.Deep.DeepCutAuto
import Derived.Deep.CutBlock
import Derived.Test.YtjcinncphffgaaaGreatMjG14
import Derived.Test.YtjcinncphffgaaaGreatMjG15
import Derived.Test.YtjcinncphffgaaaGreatMjG21
import Derived.Test.YtjcinncphffgaaaGreatMjG25
import Derived.Test.YtjcinncphffgaaaGreatMjNote
import Derived.Test.YtjcinncphffgaaaGreatMjNum
import Derived.Test.YtjcinncphffgaaaGreatMjSha
set_option linter.unusedVariables false
set_option linter.unusedSimpArgs false
namespace Go.Proofs.YtjcinncphffgaaaGreat
open Go.RowKit Go.Maps
end Go.Proofs.YtjcinncphffgaaaGreat
namespace Go.Proofs.YtjcinncphffgaaaGreat
open Go.RowKit
theorem toList_nil (s : ByteArray) : s.toList = [] ↔ s.size = 0 := by
  rw [Lib.toList_data, ← ba_size s, List.length_eq_zero_iff]
def fits2B (am : Nat) (key gate anchor of_ : ByteArray) (ex : Int) (unit : Nat) (tok : Int) : Bool := decide (0 < am) && decide (key.size = 16) && decide (anchor.size = 16) && decide (0 ≤ tok) && decide (tok ≤ 4096) && decide (gate.size = 16) && decide (1 ≤ ex) && decide (ex ≤ 4294967295) && decide (of_.size = 0)
set_option maxRecDepth 100000 in
set_option maxHeartbeats 4000000 in
theorem fits2_any (am : Nat) (key gate anchor of_ : ByteArray) (ex : Int) (unit : Nat) (tok : Int) (w : World) :
    Calls Tryz.prog 83 #[.agg #[.int .i64 2, .int .u64 (am : Nat), .string key, .string gate, .int .i64 ex, .string anchor, .int .u64 (unit : Nat), .int .i64 tok, .string of_]] w fun e w' => e = .returned (.bool (fits2B am key gate anchor of_ ex unit tok)) ∧ Below w.heap.size w w' := by
  by_cases h_am : 0 < am
  rotate_left
  · have f_am : decide ((0 : Int) < am) = false := decide_eq_false (by omega)
    have f_amN : ¬0 < am := h_am
    have hE : fits2B am key gate anchor of_ ex unit tok = false := by
      rw [Bool.eq_false_iff]; intro hc; unfold fits2B at hc; simp only [Bool.and_eq_true, decide_eq_true_eq] at hc; omega
    rw [hE]
    clear hE  h_am
    go_enter Tryz.func83, Tryz.ntmps83
    go_wp2
    go_region
    go_wp2
    go_region
    go_wp2
    all_goals
      go_ret
      refine ⟨by first | rfl | contradiction, ?_⟩
      repeat (first | exact Below.refl _ _ | refine Below.setCell ?_ (by simp) _ | refine Below.alloc ?_ (by simp <;> omega) _ | refine Below.drew ?_)
  by_cases h_key : key.size = 16
  rotate_left
  · have f_am : decide ((0 : Int) < am) = true := decide_eq_true (by omega)
    have f_key : ((key.size : Int) == 16) = false := beq_eq_false_iff_ne.2 (by omega)
    have hE : fits2B am key gate anchor of_ ex unit tok = false := by
      rw [Bool.eq_false_iff]; intro hc; unfold fits2B at hc; simp only [Bool.and_eq_true, decide_eq_true_eq] at hc; omega
    rw [hE]
    clear hE
    go_enter Tryz.func83, Tryz.ntmps83
    go_wp2
    go_region
    go_wp2
    go_region
    go_wp2
    all_goals
      go_ret
      refine ⟨by first | rfl | contradiction, ?_⟩
      repeat (first | exact Below.refl _ _ | refine Below.setCell ?_ (by simp) _ | refine Below.alloc ?_ (by simp <;> omega) _ | refine Below.drew ?_)
  by_cases h_an : anchor.size = 16
  rotate_left
  · have f_am : decide ((0 : Int) < am) = true := decide_eq_true (by omega)
    have f_key : ((key.size : Int) == 16) = true := by rw [beq_iff_eq]; omega
    have f_an : ((anchor.size : Int) == 16) = false := beq_eq_false_iff_ne.2 (by omega)
    have hE : fits2B am key gate anchor of_ ex unit tok = false := by
      rw [Bool.eq_false_iff]; intro hc; unfold fits2B at hc; simp only [Bool.and_eq_true, decide_eq_true_eq] at hc; omega
    rw [hE]
    clear hE
    go_enter Tryz.func83, Tryz.ntmps83
    go_wp2
    go_region
    go_wp2
    go_region
    go_wp2
    all_goals
      go_ret
      refine ⟨by first | rfl | contradiction, ?_⟩
      repeat (first | exact Below.refl _ _ | refine Below.setCell ?_ (by simp) _ | refine Below.alloc ?_ (by simp <;> omega) _ | refine Below.drew ?_)
  by_cases h_t0 : 0 ≤ tok
  rotate_left
  · have f_am : decide ((0 : Int) < am) = true := decide_eq_true (by omega)
    have f_key : ((key.size : Int) == 16) = true := by rw [beq_iff_eq]; omega
    have f_an : ((anchor.size : Int) == 16) = true := by rw [beq_iff_eq]; omega
    have f_t0 : decide ((0 : Int) ≤ tok) = false := decide_eq_false (by omega)
    have hE : fits2B am key gate anchor of_ ex unit tok = false := by
      rw [Bool.eq_false_iff]; intro hc; unfold fits2B at hc; simp only [Bool.and_eq_true, decide_eq_true_eq] at hc; omega
    rw [hE]
    clear hE
    go_enter Tryz.func83, Tryz.ntmps83
    go_wp2
    go_region
    go_wp2
    go_region
    go_wp2
    all_goals
      go_ret
      refine ⟨by first | rfl | contradiction, ?_⟩
      repeat (first | exact Below.refl _ _ | refine Below.setCell ?_ (by simp) _ | refine Below.alloc ?_ (by simp <;> omega) _ | refine Below.drew ?_)
  by_cases h_t1 : tok ≤ 4096
  rotate_left
  · have f_am : decide ((0 : Int) < am) = true := decide_eq_true (by omega)
    have f_key : ((key.size : Int) == 16) = true := by rw [beq_iff_eq]; omega
    have f_an : ((anchor.size : Int) == 16) = true := by rw [beq_iff_eq]; omega
    have f_t0 : decide ((0 : Int) ≤ tok) = true := decide_eq_true (by omega)
    have f_t1 : decide (tok ≤ 4096) = false := decide_eq_false (by omega)
    have hE : fits2B am key gate anchor of_ ex unit tok = false := by
      rw [Bool.eq_false_iff]; intro hc; unfold fits2B at hc; simp only [Bool.and_eq_true, decide_eq_true_eq] at hc; omega
    rw [hE]
    clear hE
    go_enter Tryz.func83, Tryz.ntmps83
    go_wp2
    go_region
    go_wp2
    go_region
    go_wp2
    all_goals
      go_ret
      refine ⟨by first | rfl | contradiction, ?_⟩
      repeat (first | exact Below.refl _ _ | refine Below.setCell ?_ (by simp) _ | refine Below.alloc ?_ (by simp <;> omega) _ | refine Below.drew ?_)
  by_cases h_ga : gate.size = 16
  rotate_left
  · have f_am : decide ((0 : Int) < am) = true := decide_eq_true (by omega)
    have f_key : ((key.size : Int) == 16) = true := by rw [beq_iff_eq]; omega
    have f_an : ((anchor.size : Int) == 16) = true := by rw [beq_iff_eq]; omega
    have f_t0 : decide ((0 : Int) ≤ tok) = true := decide_eq_true (by omega)
    have f_t1 : decide (tok ≤ 4096) = true := decide_eq_true (by omega)
    have f_ga : ((gate.size : Int) == 16) = false := beq_eq_false_iff_ne.2 (by omega)
    have hE : fits2B am key gate anchor of_ ex unit tok = false := by
      rw [Bool.eq_false_iff]; intro hc; unfold fits2B at hc; simp only [Bool.and_eq_true, decide_eq_true_eq] at hc; omega
    rw [hE]
    clear hE
    go_enter Tryz.func83, Tryz.ntmps83
    go_wp2
    go_region
    go_wp2
    go_region
    go_wp2
    all_goals
      go_ret
      refine ⟨by first | rfl | contradiction, ?_⟩
      repeat (first | exact Below.refl _ _ | refine Below.setCell ?_ (by simp) _ | refine Below.alloc ?_ (by simp <;> omega) _ | refine Below.drew ?_)
  by_cases h_e0 : 1 ≤ ex
  rotate_left
  · have f_am : decide ((0 : Int) < am) = true := decide_eq_true (by omega)
    have f_key : ((key.size : Int) == 16) = true := by rw [beq_iff_eq]; omega
    have f_an : ((anchor.size : Int) == 16) = true := by rw [beq_iff_eq]; omega
    have f_t0 : decide ((0 : Int) ≤ tok) = true := decide_eq_true (by omega)
    have f_t1 : decide (tok ≤ 4096) = true := decide_eq_true (by omega)
    have f_ga : ((gate.size : Int) == 16) = true := by rw [beq_iff_eq]; omega
    have f_e0 : decide ((1 : Int) ≤ ex) = false := decide_eq_false (by omega)
    have hE : fits2B am key gate anchor of_ ex unit tok = false := by
      rw [Bool.eq_false_iff]; intro hc; unfold fits2B at hc; simp only [Bool.and_eq_true, decide_eq_true_eq] at hc; omega
    rw [hE]
    clear hE
    go_enter Tryz.func83, Tryz.ntmps83
    go_wp2
    go_region
    go_wp2
    go_region
    go_wp2
    all_goals
      go_ret
      refine ⟨by first | rfl | contradiction, ?_⟩
      repeat (first | exact Below.refl _ _ | refine Below.setCell ?_ (by simp) _ | refine Below.alloc ?_ (by simp <;> omega) _ | refine Below.drew ?_)
  by_cases h_e1 : ex ≤ 4294967295
  rotate_left
  · have f_am : decide ((0 : Int) < am) = true := decide_eq_true (by omega)
    have f_key : ((key.size : Int) == 16) = true := by rw [beq_iff_eq]; omega
    have f_an : ((anchor.size : Int) == 16) = true := by rw [beq_iff_eq]; omega
    have f_t0 : decide ((0 : Int) ≤ tok) = true := decide_eq_true (by omega)
    have f_t1 : decide (tok ≤ 4096) = true := decide_eq_true (by omega)
    have f_ga : ((gate.size : Int) == 16) = true := by rw [beq_iff_eq]; omega
    have f_e0 : decide ((1 : Int) ≤ ex) = true := decide_eq_true (by omega)
    have f_e1 : decide (ex ≤ 4294967295) = false := decide_eq_false (by omega)
    have hE : fits2B am key gate anchor of_ ex unit tok = false := by
      rw [Bool.eq_false_iff]; intro hc; unfold fits2B at hc; simp only [Bool.and_eq_true, decide_eq_true_eq] at hc; omega
    rw [hE]
    clear hE
    go_enter Tryz.func83, Tryz.ntmps83
    go_wp2
    go_region
    go_wp2
    go_region
    go_wp2
    all_goals
      go_ret
      refine ⟨by first | rfl | contradiction, ?_⟩
      repeat (first | exact Below.refl _ _ | refine Below.setCell ?_ (by simp) _ | refine Below.alloc ?_ (by simp <;> omega) _ | refine Below.drew ?_)
  by_cases h_of : of_.size = 0
  rotate_left
  · have f_am : decide ((0 : Int) < am) = true := decide_eq_true (by omega)
    have f_key : ((key.size : Int) == 16) = true := by rw [beq_iff_eq]; omega
    have f_an : ((anchor.size : Int) == 16) = true := by rw [beq_iff_eq]; omega
    have f_t0 : decide ((0 : Int) ≤ tok) = true := decide_eq_true (by omega)
    have f_t1 : decide (tok ≤ 4096) = true := decide_eq_true (by omega)
    have f_ga : ((gate.size : Int) == 16) = true := by rw [beq_iff_eq]; omega
    have f_e0 : decide ((1 : Int) ≤ ex) = true := decide_eq_true (by omega)
    have f_e1 : decide (ex ≤ 4294967295) = true := decide_eq_true (by omega)
    have f_of : ¬of_.toList = [] := fun e => h_of ((toList_nil of_).1 e)
    have hE : fits2B am key gate anchor of_ ex unit tok = false := by
      rw [Bool.eq_false_iff]; intro hc; unfold fits2B at hc; simp only [Bool.and_eq_true, decide_eq_true_eq] at hc; omega
    rw [hE]
    clear hE
    go_enter Tryz.func83, Tryz.ntmps83
    go_wp2
    go_region
    go_wp2
    go_region
    go_wp2
    all_goals
      go_ret
      refine ⟨by first | rfl | contradiction, ?_⟩
      repeat (first | exact Below.refl _ _ | refine Below.setCell ?_ (by simp) _ | refine Below.alloc ?_ (by simp <;> omega) _ | refine Below.drew ?_)
  have f_am : decide ((0 : Int) < am) = true := decide_eq_true (by omega)
  have f_key : ((key.size : Int) == 16) = true := by rw [beq_iff_eq]; omega
  have f_an : ((anchor.size : Int) == 16) = true := by rw [beq_iff_eq]; omega
  have f_t0 : decide ((0 : Int) ≤ tok) = true := decide_eq_true (by omega)
  have f_t1 : decide (tok ≤ 4096) = true := decide_eq_true (by omega)
  have f_ga : ((gate.size : Int) == 16) = true := by rw [beq_iff_eq]; omega
  have f_e0 : decide ((1 : Int) ≤ ex) = true := decide_eq_true (by omega)
  have f_e1 : decide (ex ≤ 4294967295) = true := decide_eq_true (by omega)
  have f_of : of_.toList = [] := (toList_nil of_).2 h_of
  have hE : fits2B am key gate anchor of_ ex unit tok = true := by
    unfold fits2B; simp only [Bool.and_eq_true, decide_eq_true_eq]; omega
  rw [hE]
  clear hE
  go_enter Tryz.func83, Tryz.ntmps83
  go_wp2
  go_region
  go_wp2
  go_region
  go_wp2
  all_goals
    go_ret
    refine ⟨by first | rfl | contradiction, ?_⟩
    repeat (first | exact Below.refl _ _ | refine Below.setCell ?_ (by simp) _ | refine Below.alloc ?_ (by simp <;> omega) _ | refine Below.drew ?_)
def fits3B (am : Nat) (key gate anchor of_ : ByteArray) (ex : Int) (unit : Nat) (tok : Int) : Bool := decide (0 < am) && decide (key.size = 16) && decide (gate.size = 16) && decide (1 ≤ ex) && decide (ex ≤ 4294967295) && decide (of_.size = 16) && decide (anchor.size = 0) && decide (unit = 0) && decide (tok = 0)
set_option maxRecDepth 100000 in
set_option maxHeartbeats 4000000 in
theorem fits3_any (am : Nat) (key gate anchor of_ : ByteArray) (ex : Int) (unit : Nat) (tok : Int) (w : World) :
    Calls Tryz.prog 83 #[.agg #[.int .i64 3, .int .u64 (am : Nat), .string key, .string gate, .int .i64 ex, .string anchor, .int .u64 (unit : Nat), .int .i64 tok, .string of_]] w fun e w' => e = .returned (.bool (fits3B am key gate anchor of_ ex unit tok)) ∧ Below w.heap.size w w' := by
  by_cases h_am : 0 < am
  rotate_left
  · have f_am : decide ((0 : Int) < am) = false := decide_eq_false (by omega)
    have f_amN : ¬0 < am := h_am
    have hE : fits3B am key gate anchor of_ ex unit tok = false := by
      rw [Bool.eq_false_iff]; intro hc; unfold fits3B at hc; simp only [Bool.and_eq_true, decide_eq_true_eq] at hc; omega
    rw [hE]
    clear hE  h_am
    go_enter Tryz.func83, Tryz.ntmps83
    go_wp2
    go_region
    go_wp2
    all_goals
      go_ret
      refine ⟨by first | rfl | contradiction, ?_⟩
      repeat (first | exact Below.refl _ _ | refine Below.setCell ?_ (by simp) _ | refine Below.alloc ?_ (by simp <;> omega) _ | refine Below.drew ?_)
  by_cases h_key : key.size = 16
  rotate_left
  · have f_am : decide ((0 : Int) < am) = true := decide_eq_true (by omega)
    have f_key : ((key.size : Int) == 16) = false := beq_eq_false_iff_ne.2 (by omega)
    have hE : fits3B am key gate anchor of_ ex unit tok = false := by
      rw [Bool.eq_false_iff]; intro hc; unfold fits3B at hc; simp only [Bool.and_eq_true, decide_eq_true_eq] at hc; omega
    rw [hE]
    clear hE
    go_enter Tryz.func83, Tryz.ntmps83
    go_wp2
    go_region
    go_wp2
    all_goals
      go_ret
      refine ⟨by first | rfl | contradiction, ?_⟩
      repeat (first | exact Below.refl _ _ | refine Below.setCell ?_ (by simp) _ | refine Below.alloc ?_ (by simp <;> omega) _ | refine Below.drew ?_)
  by_cases h_ga : gate.size = 16
  rotate_left
  · have f_am : decide ((0 : Int) < am) = true := decide_eq_true (by omega)
    have f_key : ((key.size : Int) == 16) = true := by rw [beq_iff_eq]; omega
    have f_ga : ((gate.size : Int) == 16) = false := beq_eq_false_iff_ne.2 (by omega)
    have hE : fits3B am key gate anchor of_ ex unit tok = false := by
      rw [Bool.eq_false_iff]; intro hc; unfold fits3B at hc; simp only [Bool.and_eq_true, decide_eq_true_eq] at hc; omega
    rw [hE]
    clear hE
    go_enter Tryz.func83, Tryz.ntmps83
    go_wp2
    go_region
    go_wp2
    all_goals
      go_ret
      refine ⟨by first | rfl | contradiction, ?_⟩
      repeat (first | exact Below.refl _ _ | refine Below.setCell ?_ (by simp) _ | refine Below.alloc ?_ (by simp <;> omega) _ | refine Below.drew ?_)
  by_cases h_e0 : 1 ≤ ex
  rotate_left
  · have f_am : decide ((0 : Int) < am) = true := decide_eq_true (by omega)
    have f_key : ((key.size : Int) == 16) = true := by rw [beq_iff_eq]; omega
    have f_ga : ((gate.size : Int) == 16) = true := by rw [beq_iff_eq]; omega
    have f_e0 : decide ((1 : Int) ≤ ex) = false := decide_eq_false (by omega)
    have hE : fits3B am key gate anchor of_ ex unit tok = false := by
      rw [Bool.eq_false_iff]; intro hc; unfold fits3B at hc; simp only [Bool.and_eq_true, decide_eq_true_eq] at hc; omega
    rw [hE]
    clear hE
    go_enter Tryz.func83, Tryz.ntmps83
    go_wp2
    go_region
    go_wp2
    all_goals
      go_ret
      refine ⟨by first | rfl | contradiction, ?_⟩
      repeat (first | exact Below.refl _ _ | refine Below.setCell ?_ (by simp) _ | refine Below.alloc ?_ (by simp <;> omega) _ | refine Below.drew ?_)
  by_cases h_e1 : ex ≤ 4294967295
  rotate_left
  · have f_am : decide ((0 : Int) < am) = true := decide_eq_true (by omega)
    have f_key : ((key.size : Int) == 16) = true := by rw [beq_iff_eq]; omega
    have f_ga : ((gate.size : Int) == 16) = true := by rw [beq_iff_eq]; omega
    have f_e0 : decide ((1 : Int) ≤ ex) = true := decide_eq_true (by omega)
    have f_e1 : decide (ex ≤ 4294967295) = false := decide_eq_false (by omega)
    have hE : fits3B am key gate anchor of_ ex unit tok = false := by
      rw [Bool.eq_false_iff]; intro hc; unfold fits3B at hc; simp only [Bool.and_eq_true, decide_eq_true_eq] at hc; omega
    rw [hE]
    clear hE
    go_enter Tryz.func83, Tryz.ntmps83
    go_wp2
    go_region
    go_wp2
    all_goals
      go_ret
      refine ⟨by first | rfl | contradiction, ?_⟩
      repeat (first | exact Below.refl _ _ | refine Below.setCell ?_ (by simp) _ | refine Below.alloc ?_ (by simp <;> omega) _ | refine Below.drew ?_)
  by_cases h_of : of_.size = 16
  rotate_left
  · have f_am : decide ((0 : Int) < am) = true := decide_eq_true (by omega)
    have f_key : ((key.size : Int) == 16) = true := by rw [beq_iff_eq]; omega
    have f_ga : ((gate.size : Int) == 16) = true := by rw [beq_iff_eq]; omega
    have f_e0 : decide ((1 : Int) ≤ ex) = true := decide_eq_true (by omega)
    have f_e1 : decide (ex ≤ 4294967295) = true := decide_eq_true (by omega)
    have f_of : ((of_.size : Int) == 16) = false := beq_eq_false_iff_ne.2 (by omega)
    have hE : fits3B am key gate anchor of_ ex unit tok = false := by
      rw [Bool.eq_false_iff]; intro hc; unfold fits3B at hc; simp only [Bool.and_eq_true, decide_eq_true_eq] at hc; omega
    rw [hE]
    clear hE
    go_enter Tryz.func83, Tryz.ntmps83
    go_wp2
    go_region
    go_wp2
    all_goals
      go_ret
      refine ⟨by first | rfl | contradiction, ?_⟩
      repeat (first | exact Below.refl _ _ | refine Below.setCell ?_ (by simp) _ | refine Below.alloc ?_ (by simp <;> omega) _ | refine Below.drew ?_)
  by_cases h_an : anchor.size = 0
  rotate_left
  · have f_am : decide ((0 : Int) < am) = true := decide_eq_true (by omega)
    have f_key : ((key.size : Int) == 16) = true := by rw [beq_iff_eq]; omega
    have f_ga : ((gate.size : Int) == 16) = true := by rw [beq_iff_eq]; omega
    have f_e0 : decide ((1 : Int) ≤ ex) = true := decide_eq_true (by omega)
    have f_e1 : decide (ex ≤ 4294967295) = true := decide_eq_true (by omega)
    have f_of : ((of_.size : Int) == 16) = true := by rw [beq_iff_eq]; omega
    have f_an : ¬anchor.toList = [] := fun e => h_an ((toList_nil anchor).1 e)
    have hE : fits3B am key gate anchor of_ ex unit tok = false := by
      rw [Bool.eq_false_iff]; intro hc; unfold fits3B at hc; simp only [Bool.and_eq_true, decide_eq_true_eq] at hc; omega
    rw [hE]
    clear hE
    go_enter Tryz.func83, Tryz.ntmps83
    go_wp2
    go_region
    go_wp2
    all_goals
      go_ret
      refine ⟨by first | rfl | contradiction, ?_⟩
      repeat (first | exact Below.refl _ _ | refine Below.setCell ?_ (by simp) _ | refine Below.alloc ?_ (by simp <;> omega) _ | refine Below.drew ?_)
  by_cases h_un : unit = 0
  rotate_left
  · have f_am : decide ((0 : Int) < am) = true := decide_eq_true (by omega)
    have f_key : ((key.size : Int) == 16) = true := by rw [beq_iff_eq]; omega
    have f_ga : ((gate.size : Int) == 16) = true := by rw [beq_iff_eq]; omega
    have f_e0 : decide ((1 : Int) ≤ ex) = true := decide_eq_true (by omega)
    have f_e1 : decide (ex ≤ 4294967295) = true := decide_eq_true (by omega)
    have f_of : ((of_.size : Int) == 16) = true := by rw [beq_iff_eq]; omega
    have f_an : anchor.toList = [] := (toList_nil anchor).2 h_an
    have f_un : ¬unit = 0 := h_un
    have hE : fits3B am key gate anchor of_ ex unit tok = false := by
      rw [Bool.eq_false_iff]; intro hc; unfold fits3B at hc; simp only [Bool.and_eq_true, decide_eq_true_eq] at hc; omega
    rw [hE]
    clear hE
    go_enter Tryz.func83, Tryz.ntmps83
    go_wp2
    go_region
    go_wp2
    all_goals
      go_ret
      refine ⟨by first | rfl | contradiction, ?_⟩
      repeat (first | exact Below.refl _ _ | refine Below.setCell ?_ (by simp) _ | refine Below.alloc ?_ (by simp <;> omega) _ | refine Below.drew ?_)
  by_cases h_to : tok = 0
  rotate_left
  · have f_am : decide ((0 : Int) < am) = true := decide_eq_true (by omega)
    have f_key : ((key.size : Int) == 16) = true := by rw [beq_iff_eq]; omega
    have f_ga : ((gate.size : Int) == 16) = true := by rw [beq_iff_eq]; omega
    have f_e0 : decide ((1 : Int) ≤ ex) = true := decide_eq_true (by omega)
    have f_e1 : decide (ex ≤ 4294967295) = true := decide_eq_true (by omega)
    have f_of : ((of_.size : Int) == 16) = true := by rw [beq_iff_eq]; omega
    have f_an : anchor.toList = [] := (toList_nil anchor).2 h_an
    have f_un : unit = 0 := h_un
    have f_to : ¬tok = 0 := h_to
    have hE : fits3B am key gate anchor of_ ex unit tok = false := by
      rw [Bool.eq_false_iff]; intro hc; unfold fits3B at hc; simp only [Bool.and_eq_true, decide_eq_true_eq] at hc; omega
    rw [hE]
    clear hE
    go_enter Tryz.func83, Tryz.ntmps83
    go_wp2
    go_region
    go_wp2
    all_goals
      go_ret
      refine ⟨by first | rfl | contradiction, ?_⟩
      repeat (first | exact Below.refl _ _ | refine Below.setCell ?_ (by simp) _ | refine Below.alloc ?_ (by simp <;> omega) _ | refine Below.drew ?_)
  have f_am : decide ((0 : Int) < am) = true := decide_eq_true (by omega)
  have f_key : ((key.size : Int) == 16) = true := by rw [beq_iff_eq]; omega
  have f_ga : ((gate.size : Int) == 16) = true := by rw [beq_iff_eq]; omega
  have f_e0 : decide ((1 : Int) ≤ ex) = true := decide_eq_true (by omega)
  have f_e1 : decide (ex ≤ 4294967295) = true := decide_eq_true (by omega)
  have f_of : ((of_.size : Int) == 16) = true := by rw [beq_iff_eq]; omega
  have f_an : anchor.toList = [] := (toList_nil anchor).2 h_an
  have f_un : unit = 0 := h_un
  have f_to : tok = 0 := h_to
  have hE : fits3B am key gate anchor of_ ex unit tok = true := by
    unfold fits3B; simp only [Bool.and_eq_true, decide_eq_true_eq]; omega
  rw [hE]
  clear hE
  go_enter Tryz.func83, Tryz.ntmps83
  go_wp2
  go_region
  go_wp2
  all_goals
    go_ret
    refine ⟨by first | rfl | contradiction, ?_⟩
    repeat (first | exact Below.refl _ _ | refine Below.setCell ?_ (by simp) _ | refine Below.alloc ?_ (by simp <;> omega) _ | refine Below.drew ?_)
def fits1B (am : Nat) (key gate anchor of_ : ByteArray) (ex : Int) (unit : Nat) (tok : Int) : Bool := decide (0 < am) && decide (key.size = 16) && decide (gate.size = 0) && decide (ex = 0) && decide (anchor.size = 0) && decide (unit = 0) && decide (tok = 0) && decide (of_.size = 0)
set_option maxRecDepth 100000 in
set_option maxHeartbeats 4000000 in
theorem fits1_any (am : Nat) (key gate anchor of_ : ByteArray) (ex : Int) (unit : Nat) (tok : Int) (w : World) :
    Calls Tryz.prog 83 #[.agg #[.int .i64 1, .int .u64 (am : Nat), .string key, .string gate, .int .i64 ex, .string anchor, .int .u64 (unit : Nat), .int .i64 tok, .string of_]] w fun e w' => e = .returned (.bool (fits1B am key gate anchor of_ ex unit tok)) ∧ Below w.heap.size w w' := by
  by_cases h_am : 0 < am
  rotate_left
  · have f_am : decide ((0 : Int) < am) = false := decide_eq_false (by omega)
    have f_amN : ¬0 < am := h_am
    have hE : fits1B am key gate anchor of_ ex unit tok = false := by
      rw [Bool.eq_false_iff]; intro hc; unfold fits1B at hc; simp only [Bool.and_eq_true, decide_eq_true_eq] at hc; omega
    rw [hE]
    clear hE  h_am
    go_enter Tryz.func83, Tryz.ntmps83
    go_wp2
    all_goals
      go_ret
      refine ⟨by first | rfl | contradiction, ?_⟩
      repeat (first | exact Below.refl _ _ | refine Below.setCell ?_ (by simp) _ | refine Below.alloc ?_ (by simp <;> omega) _ | refine Below.drew ?_)
  by_cases h_key : key.size = 16
  rotate_left
  · have f_am : decide ((0 : Int) < am) = true := decide_eq_true (by omega)
    have f_key : ((key.size : Int) == 16) = false := beq_eq_false_iff_ne.2 (by omega)
    have hE : fits1B am key gate anchor of_ ex unit tok = false := by
      rw [Bool.eq_false_iff]; intro hc; unfold fits1B at hc; simp only [Bool.and_eq_true, decide_eq_true_eq] at hc; omega
    rw [hE]
    clear hE
    go_enter Tryz.func83, Tryz.ntmps83
    go_wp2
    all_goals
      go_ret
      refine ⟨by first | rfl | contradiction, ?_⟩
      repeat (first | exact Below.refl _ _ | refine Below.setCell ?_ (by simp) _ | refine Below.alloc ?_ (by simp <;> omega) _ | refine Below.drew ?_)
  by_cases h_ga : gate.size = 0
  rotate_left
  · have f_am : decide ((0 : Int) < am) = true := decide_eq_true (by omega)
    have f_key : ((key.size : Int) == 16) = true := by rw [beq_iff_eq]; omega
    have f_ga : ¬gate.toList = [] := fun e => h_ga ((toList_nil gate).1 e)
    have hE : fits1B am key gate anchor of_ ex unit tok = false := by
      rw [Bool.eq_false_iff]; intro hc; unfold fits1B at hc; simp only [Bool.and_eq_true, decide_eq_true_eq] at hc; omega
    rw [hE]
    clear hE
    go_enter Tryz.func83, Tryz.ntmps83
    go_wp2
    all_goals
      go_ret
      refine ⟨by first | rfl | contradiction, ?_⟩
      repeat (first | exact Below.refl _ _ | refine Below.setCell ?_ (by simp) _ | refine Below.alloc ?_ (by simp <;> omega) _ | refine Below.drew ?_)
  by_cases h_ex : ex = 0
  rotate_left
  · have f_am : decide ((0 : Int) < am) = true := decide_eq_true (by omega)
    have f_key : ((key.size : Int) == 16) = true := by rw [beq_iff_eq]; omega
    have f_ga : gate.toList = [] := (toList_nil gate).2 h_ga
    have f_ex : ¬ex = 0 := h_ex
    have hE : fits1B am key gate anchor of_ ex unit tok = false := by
      rw [Bool.eq_false_iff]; intro hc; unfold fits1B at hc; simp only [Bool.and_eq_true, decide_eq_true_eq] at hc; omega
    rw [hE]
    clear hE
    go_enter Tryz.func83, Tryz.ntmps83
    go_wp2
    all_goals
      go_ret
      refine ⟨by first | rfl | contradiction, ?_⟩
      repeat (first | exact Below.refl _ _ | refine Below.setCell ?_ (by simp) _ | refine Below.alloc ?_ (by simp <;> omega) _ | refine Below.drew ?_)
  by_cases h_an : anchor.size = 0
  rotate_left
  · have f_am : decide ((0 : Int) < am) = true := decide_eq_true (by omega)
    have f_key : ((key.size : Int) == 16) = true := by rw [beq_iff_eq]; omega
    have f_ga : gate.toList = [] := (toList_nil gate).2 h_ga
    have f_ex : ex = 0 := h_ex
    have f_an : ¬anchor.toList = [] := fun e => h_an ((toList_nil anchor).1 e)
    have hE : fits1B am key gate anchor of_ ex unit tok = false := by
      rw [Bool.eq_false_iff]; intro hc; unfold fits1B at hc; simp only [Bool.and_eq_true, decide_eq_true_eq] at hc; omega
    rw [hE]
    clear hE
    go_enter Tryz.func83, Tryz.ntmps83
    go_wp2
    all_goals
      go_ret
      refine ⟨by first | rfl | contradiction, ?_⟩
      repeat (first | exact Below.refl _ _ | refine Below.setCell ?_ (by simp) _ | refine Below.alloc ?_ (by simp <;> omega) _ | refine Below.drew ?_)
  by_cases h_un : unit = 0
  rotate_left
  · have f_am : decide ((0 : Int) < am) = true := decide_eq_true (by omega)
    have f_key : ((key.size : Int) == 16) = true := by rw [beq_iff_eq]; omega
    have f_ga : gate.toList = [] := (toList_nil gate).2 h_ga
    have f_ex : ex = 0 := h_ex
    have f_an : anchor.toList = [] := (toList_nil anchor).2 h_an
    have f_un : ¬unit = 0 := h_un
    have hE : fits1B am key gate anchor of_ ex unit tok = false := by
      rw [Bool.eq_false_iff]; intro hc; unfold fits1B at hc; simp only [Bool.and_eq_true, decide_eq_true_eq] at hc; omega
    rw [hE]
    clear hE
    go_enter Tryz.func83, Tryz.ntmps83
    go_wp2
    all_goals
      go_ret
      refine ⟨by first | rfl | contradiction, ?_⟩
      repeat (first | exact Below.refl _ _ | refine Below.setCell ?_ (by simp) _ | refine Below.alloc ?_ (by simp <;> omega) _ | refine Below.drew ?_)
  by_cases h_to : tok = 0
  rotate_left
  · have f_am : decide ((0 : Int) < am) = true := decide_eq_true (by omega)
    have f_key : ((key.size : Int) == 16) = true := by rw [beq_iff_eq]; omega
    have f_ga : gate.toList = [] := (toList_nil gate).2 h_ga
    have f_ex : ex = 0 := h_ex
    have f_an : anchor.toList = [] := (toList_nil anchor).2 h_an
    have f_un : unit = 0 := h_un
    have f_to : ¬tok = 0 := h_to
    have hE : fits1B am key gate anchor of_ ex unit tok = false := by
      rw [Bool.eq_false_iff]; intro hc; unfold fits1B at hc; simp only [Bool.and_eq_true, decide_eq_true_eq] at hc; omega
    rw [hE]
    clear hE
    go_enter Tryz.func83, Tryz.ntmps83
    go_wp2
    all_goals
      go_ret
      refine ⟨by first | rfl | contradiction, ?_⟩
      repeat (first | exact Below.refl _ _ | refine Below.setCell ?_ (by simp) _ | refine Below.alloc ?_ (by simp <;> omega) _ | refine Below.drew ?_)
  by_cases h_of : of_.size = 0
  rotate_left
  · have f_am : decide ((0 : Int) < am) = true := decide_eq_true (by omega)
    have f_key : ((key.size : Int) == 16) = true := by rw [beq_iff_eq]; omega
    have f_ga : gate.toList = [] := (toList_nil gate).2 h_ga
    have f_ex : ex = 0 := h_ex
    have f_an : anchor.toList = [] := (toList_nil anchor).2 h_an
    have f_un : unit = 0 := h_un
    have f_to : tok = 0 := h_to
    have f_of : ¬of_.toList = [] := fun e => h_of ((toList_nil of_).1 e)
    have hE : fits1B am key gate anchor of_ ex unit tok = false := by
      rw [Bool.eq_false_iff]; intro hc; unfold fits1B at hc; simp only [Bool.and_eq_true, decide_eq_true_eq] at hc; omega
    rw [hE]
    clear hE
    go_enter Tryz.func83, Tryz.ntmps83
    go_wp2
    all_goals
      go_ret
      refine ⟨by first | rfl | contradiction, ?_⟩
      repeat (first | exact Below.refl _ _ | refine Below.setCell ?_ (by simp) _ | refine Below.alloc ?_ (by simp <;> omega) _ | refine Below.drew ?_)
  have f_am : decide ((0 : Int) < am) = true := decide_eq_true (by omega)
  have f_key : ((key.size : Int) == 16) = true := by rw [beq_iff_eq]; omega
  have f_ga : gate.toList = [] := (toList_nil gate).2 h_ga
  have f_ex : ex = 0 := h_ex
  have f_an : anchor.toList = [] := (toList_nil anchor).2 h_an
  have f_un : unit = 0 := h_un
  have f_to : tok = 0 := h_to
  have f_of : of_.toList = [] := (toList_nil of_).2 h_of
  have hE : fits1B am key gate anchor of_ ex unit tok = true := by
    unfold fits1B; simp only [Bool.and_eq_true, decide_eq_true_eq]; omega
  rw [hE]
  clear hE
  go_enter Tryz.func83, Tryz.ntmps83
  go_wp2
  all_goals
    go_ret
    refine ⟨by first | rfl | contradiction, ?_⟩
    repeat (first | exact Below.refl _ _ | refine Below.setCell ?_ (by simp) _ | refine Below.alloc ?_ (by simp <;> omega) _ | refine Below.drew ?_)
set_option maxRecDepth 100000 in
set_option maxHeartbeats 2000000 in
theorem fits_odd (kind : Int) (am : Nat) (key gate anchor of_ : ByteArray) (ex : Int) (unit : Nat) (tok : Int) (w : World) (k1 : kind ≠ 1) (k2 : kind ≠ 2) (k3 : kind ≠ 3) :
    Calls Tryz.prog 83 #[.agg #[.int .i64 kind, .int .u64 (am : Nat), .string key, .string gate, .int .i64 ex, .string anchor, .int .u64 (unit : Nat), .int .i64 tok, .string of_]] w fun e w' => e = .returned (.bool false) ∧ Below w.heap.size w w' := by
  have d1 : (kind == 1) = false := beq_eq_false_iff_ne.2 k1
  have d2 : (kind == 2) = false := beq_eq_false_iff_ne.2 k2
  have d3 : (kind == 3) = false := beq_eq_false_iff_ne.2 k3
  by_cases h_am : 0 < am
  · have f_am : decide ((0 : Int) < am) = true := decide_eq_true (by omega)
    go_enter Tryz.func83, Tryz.ntmps83
    go_wp2
    all_goals
      go_ret
      refine ⟨by first | rfl | contradiction, ?_⟩
      repeat (first | exact Below.refl _ _ | refine Below.setCell ?_ (by simp) _ | refine Below.alloc ?_ (by simp <;> omega) _ | refine Below.drew ?_)
  · have f_am : decide ((0 : Int) < am) = false := decide_eq_false (by omega)
    have f_amN : ¬0 < am := h_am
    go_enter Tryz.func83, Tryz.ntmps83
    go_wp2
    all_goals
      go_ret
      refine ⟨by first | rfl | contradiction, ?_⟩
      repeat (first | exact Below.refl _ _ | refine Below.setCell ?_ (by simp) _ | refine Below.alloc ?_ (by simp <;> omega) _ | refine Below.drew ?_)
end Go.Proofs.YtjcinncphffgaaaGreat
namespace Go.Proofs.YtjcinncphffgaaaGreat
open Go.RowKit
def fitsB (o : Ou) : Bool :=
  if o.kind = 2 then fits2B o.am o.key o.gate o.anchor o.of_ o.ex o.unit o.tok else if o.kind = 3 then fits3B o.am o.key o.gate o.anchor o.of_ o.ex o.unit o.tok else if o.kind = 1 then fits1B o.am o.key o.gate o.anchor o.of_ o.ex o.unit o.tok else false
theorem fits_gen (o : Ou) (w : World) : Calls Tryz.prog 83 #[.agg o.cs] w fun e w' => e = .returned (.bool (fitsB o)) ∧ Below w.heap.size w w' := by
  obtain ⟨kind, am, key, gate, ex, anchor, unit, tok, of_⟩ := o
  unfold fitsB Ou.cs
  by_cases k2 : kind = 2
  · subst k2
    exact fits2_any am key gate anchor of_ ex unit tok w
  · by_cases k3 : kind = 3
    · subst k3
      exact fits3_any am key gate anchor of_ ex unit tok w
    · by_cases k1 : kind = 1
      · subst k1
        exact fits1_any am key gate anchor of_ ex unit tok w
      · simp only [if_neg k2, if_neg k3, if_neg k1]
        exact fits_odd kind am key gate anchor of_ ex unit tok w k1 k2 k3
end Go.Proofs.YtjcinncphffgaaaGreat
namespace Go.Proofs.YtjcinncphffgaaaGreat
open Go.RowKit Go.Maps
theorem infoOu9 : (Tryz.prog.info? 81).map (·.size) = some 9 := by kernel_rfl
theorem ouv_over (o : Ou) {cs : Array Value} (h : cs.size = 9) : over cs 0 o.cs.toList = o.cs := (over_full o.cs.toList cs (by rw [h]; rfl)).trans (Array.toArray_toList ..)
def Ou.cl (o : Ou) : List Value := o.cs.toList
/-- one of a list of outputs is read -/
theorem wpList_load_ou {ops : Array Oper} {rest : List Oper} {o : Oper} {a : Act} {w : World} {Q : Exit → Act → World → Prop} (hgd : o.guard = none) (x : Operand) (ho : o.op = .load 81 x) (b off : Nat) (hx : a.eval x = .pointer (some ⟨b, off, none⟩)) (y : Ou)
    (hc : ∀ j u, y.cl[j]? = some u → w.cell? ⟨b, off + j, none⟩ = some u) (h : wpList Tryz.prog ops Q rest (a.put o.dst (.agg y.cs)) w) : wpList Tryz.prog ops Q (o :: rest) a w := by
  refine wpList_load_mid (P := Tryz.prog) hgd 81 x ho b off hx y.cl _ hc Tryz.underlying81 rfl (by rw [infoOu9]; rfl) ?_
  show wpList Tryz.prog ops Q rest (a.put o.dst (.agg y.cs.toList.toArray)) w
  rw [Array.toArray_toList]
  exact h
def tellB (o : Ou) : ByteArray := putB o.am ++ o.key
def joinF (l : List Ou) : ByteArray := l.foldl (fun s o => s ++ tellB o) ByteArray.empty
theorem joinF_snoc (l : List Ou) (o : Ou) : joinF (l ++ [o]) = joinF l ++ tellB o := by simp [joinF]
theorem joinF_size : ∀ (l : List Ou) (s : ByteArray), (∀ o ∈ l, o.key.size = 16) → (l.foldl (fun s o => s ++ tellB o) s).size = s.size + 24 * l.length
  | [], s, _ => by simp
  | o :: r, s, h => by
    rw [List.foldl_cons, joinF_size r _ (fun x hx => h x (by simp [hx])), ByteArray.size_append, tellB, ByteArray.size_append, putB_size, h o (by simp), List.length_cons]; omega
def wFirst : ByteArray := ⟨#[102, 105, 114, 115, 116]⟩
def firstB (l : List Ou) : ByteArray := tagB wFirst [joinF l]
theorem firstB_size (l : List Ou) : (firstB l).size = 16 := tagB_size _ _
set_option maxRecDepth 100000 in
set_option maxHeartbeats 1000000 in
theorem first1_any (o : Ou) (w : World) (ham : o.am < 18446744073709551616) (hk : o.key.size = 16) :
    Calls Tryz.prog 129 #[.agg o.cs] w fun e w' => e = .returned (.string (tellB o)) ∧ Below w.heap.size w w' := by
  have HX := Lib.hid (Blk.new w 81 o.cs)
  have HP := fun W => Lib.hid (put_any o.am W ham)
  have hp := putB_size o.am
  have HT : Hid (putB o.am ++ o.key = tellB o) := rfl
  have hk' : o.key.size ≤ 16 := by omega
  generalize putB o.am = pb at HP HT hp
  have hp' : pb.size ≤ 8 := by omega
  clear hk hp
  go_enter Tryz.func129, Tryz.ntmps129
  go_upto_region 1 with fail
  have q1 := cell_rg (show (w.alloc (.cells o.cs 81)).cell? ⟨w.heap.size, 1, none⟩ = some (.int .u64 o.am) from HX.out.cell 1)
  have q2 := cell_rg (show (w.alloc (.cells o.cs 81)).cell? ⟨w.heap.size, 2, none⟩ = some (.string o.key) from HX.out.cell 2)
  refine wp_region_quiet_below (by kernel_rfl) (by kernel_rfl) ?_
  repeat (first | go_big_quiet_skip | (go_big_quiet_want; first | (fail; go_big_quiet_on) | (go_big_quiet_op; first | go_big_quiet_on | go_big_quiet_call ((go_at_call 130; exact Calls.rg fun W _ => (HP W).out)))))
  refine wpQuiet_nil ?_
  intro U hp
  have hb := bel_regrown hp
  clear hp
  have HB : Hid (Below w.heap.size w U) := ((Below.refl _ _).alloc (Nat.le_refl _) _).trans (hb.mono (by simp))
  clear hb q1 q2
  rw [HT.out]
  go_wp2_with fail
  go_ret
  exact ⟨rfl, HB.out⟩
theorem ouv_ext (s : Ou) : s.cs.extract 0 (0 + 9) = s.cs := by rw [Array.extract_eq_self_of_le (show s.cs.size ≤ 0 + 9 from Nat.le_refl 9)]
/-- an output that may be, in so far as First asks -/
def Ou.fz (o : Ou) : Prop := o.key.size = 16 ∧ o.am < 18446744073709551616
set_option maxRecDepth 100000 in
set_option maxHeartbeats 1000000 in
theorem joined_any (A : Option Addr) (l : List Ou) (c : Nat) (w : World) (hS : Sl w w.heap.size 9 Ou.cl A l) (hl : l.length ≤ 64) (hz : ∀ o ∈ l, o.fz) :
    Calls Tryz.prog 128 #[.slice A l.length c, .func (Fn.func 129) #[] #[]] w fun e w' => e = .returned (.string (joinF l)) ∧ Below w.heap.size w w' := by
  have HS := Lib.hid hS
  have HZ := Lib.hid hz
  clear hS hz
  go_enter Tryz.func128, Tryz.ntmps128
  go_wp2_with fail
  go_loopw [5, 10] (fun s i wr => ∃ k : Nat, k ≤ l.length ∧ i = .int .i64 k ∧ s = .string (joinF (l.take k)) ∧ Hid (Below w.heap.size w wr)) (fun _ i _ => l.length - (intOf i).toNat)
  case atStart => exact ⟨0, Nat.zero_le _, rfl, rfl, Lib.hid (Below.refl _ _)⟩
  case round =>
    obtain ⟨k, hk, rfl, rfl, HB⟩ := hrel
    have hzz := HB.out.size
    by_cases hlt : k < l.length
    · obtain ⟨ab, off, rfl, hbB, hc⟩ := (HS.out.below HB.out).at_ hlt
      have hx := HZ.out _ (List.getElem_mem hlt)
      have HJ : Hid (joinF (l.take (k + 1)) = joinF (l.take k) ++ tellB l[k]) := Lib.hid (by rw [List.take_succ_eq_append_getElem hlt, joinF_snoc])
      have hj := joinF_size (l.take k) ByteArray.empty (fun o ho => (HZ.out o (List.mem_of_mem_take ho)).1)
      have hj' : (joinF (l.take k)).size ≤ 24 * 64 := by
        have e : (joinF (l.take k)).size = _ := hj
        rw [e, List.length_take, show ByteArray.empty.size = 0 from rfl]; omega
      clear hj
      generalize l[k] = x at hc hx HJ
      generalize joinF (l.take k) = s at HJ hj' ⊢
      have HCC := Lib.hid hc
      have HF1 := fun W => Lib.hid (first1_any x W hx.2 hx.1)
      have ht : (tellB x).size ≤ 24 := by rw [tellB, ByteArray.size_append, putB_size, hx.1]; omega
      generalize tellB x = tb at HJ HF1 ht
      clear hc hx
      go_wp2_with (first
        | (refine wpList_load_ou rfl (.tmp 12) rfl ab (off + k * 9) (by rfl) x HCC.out ?_)
        | (refine wpList_store_part rfl 81 (.tmp 7) (.tmp 13) rfl wr.heap.size 0 (cs := zOu.cs) (Blk.new _ _ _) x.cs x.cs (by rfl) (by rfl) (Nat.le_refl 9) infoOu9 (oucs_one x) (ouv_over x rfl) ?_; intro W1 hb1 hc1; have HB1 := Lib.hid (HB.out.trans ((bel_st' hc1).mono hzz)); have HO1 := Lib.hid hb1; clear hb1 hc1)
        | (refine wpList_load_blk rfl 81 (.tmp 7) rfl wr.heap.size 0 9 HO1.out x.cs (by rfl) (ouv_ext x) Tryz.underlying81 infoOu9 (Nat.le_refl 9) ?_))
      refine (HF1 _).out.mono ?_
      rintro e W2 ⟨rfl, hb⟩
      have HB2 := Lib.hid (HB1.out.trans (hb.mono HB1.out.size))
      clear hb HF1
      go_wp2_with fail
      go_roundw
      case rel => exact ⟨k + 1, by omega, by go_num, by rw [HJ.out], HB2⟩
      case measure => simp [intOf]; omega
    · obtain rfl : k = l.length := by omega
      rw [List.take_length]
      go_wp2_with fail
      go_ret
      exact ⟨rfl, HB.out⟩
set_option maxRecDepth 100000 in
set_option maxHeartbeats 1000000 in
theorem first_any (A : Option Addr) (l : List Ou) (c : Nat) (w : World) (hS : Sl w w.heap.size 9 Ou.cl A l) (hl : l.length ≤ 64) (hz : ∀ o ∈ l, o.fz) :
    Calls Tryz.prog 56 #[.slice A l.length c] w fun e w' => e = .returned (.string (firstB l)) ∧ Below w.heap.size w w' := by
  have HJ := Lib.hid (joined_any A l c w hS hl hz)
  have hj := joinF_size l ByteArray.empty (fun o ho => (hz o ho).1)
  have hj' : (joinF l).size ≤ 1000000 := by
    have e : (joinF l).size = _ := hj
    rw [e, show ByteArray.empty.size = 0 from rfl]; omega
  have HF : Hid (tagB wFirst [joinF l] = firstB l) := rfl
  have HT := fun W g hg => Lib.hid (tag1 wFirst (joinF l) W g hg (by decide) hj')
  generalize joinF l = s at HJ HF HT
  clear hS hz hj hj'
  go_enter Tryz.func56, Tryz.ntmps56
  go_wp2_with fail
  refine HJ.out.mono ?_
  rintro e W ⟨rfl, hb⟩
  have HB := Lib.hid hb
  clear hb HJ
  go_wp2_with fail
  refine (HT _ _ rfl).out.mono ?_
  rintro e W2 ⟨rfl, hb⟩
  have HB2 : Hid (Below w.heap.size w W2) := HB.out.trans (hb.mono HB.out.size)
  clear hb HT
  rw [HF.out]
  go_wp2_with fail
  go_ret
  exact ⟨rfl, HB2.out⟩
end Go.Proofs.YtjcinncphffgaaaGreat
