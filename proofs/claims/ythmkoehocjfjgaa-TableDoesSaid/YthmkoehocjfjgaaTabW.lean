/- The reference's Reader: take, Blob, End, Left. -/
import Derived.Test.YthmkoehocjfjgaaTabV

namespace Go.Proofs.Ythmkoehocjfjgaa
open Go.RowKit Go.Maps Go.WideMaps

def RR (w : World) (b : Nat) (S : ByteArray) (at_ : Nat) (e : Int) : Prop := Blk w b 83 #[.string S, .int .i64 at_, .int .i64 e]
set_option maxRecDepth 100000 in
set_option maxHeartbeats 4000000 in
theorem rtake_ok (b : Nat) (S : ByteArray) (at_ n : Nat) (w : World) (hs : S.size ≤ maxLen) (h1 : at_ + n ≤ S.size) (h : RR w b S at_ 0) :
    Calls Try.prog 61 #[.pointer (some ⟨b, 0, none⟩), .int .i64 (n : Int)] w fun ee w' => ee = .returned (.string (S.extract at_ (at_ + n))) ∧ RR w' b S (at_ + n) 0 ∧ Ch [b] w w' := by
  have c0 : w.cell? ⟨b, 0, none⟩ = some (.string S) := Blk.cell h 0
  have c1 : w.cell? ⟨b, 1, none⟩ = some (.int .i64 at_) := Blk.cell h 1
  have c2 : w.cell? ⟨b, 2, none⟩ = some (.int .i64 0) := Blk.cell h 2
  have f1 : w.frozen? ⟨b, 1, none⟩ = false := Blk.frozen h 1
  have H := Lib.hid h
  have _u : True := (fun _ => trivial) hs
  unfold maxLen at hs
  have hx : decide ((S.size : Int) - (at_ : Int) < (n : Int)) = false := decide_eq_false (by omega)
  have hx2 : (S.size : Int) ≤ 9223372036854775807 := by omega
  clear h
  go_enter Try.func61, Try.ntmps61
  go_wp2_with fail
  go_quiet (fail)
  go_wp2_with fail
  have hr : RR ((w.drewN nq).setCell ⟨b, 1, none⟩ (.int .i64 ((at_ : Int) + (n : Int)))) b S (at_ + n) 0 := by
    have := Blk.set_ (Blk.drewN H.out nq) 1 (.int .i64 ((at_ : Int) + (n : Int)))
    unfold RR
    rw [show (((at_ + n : Nat) : Int)) = (at_ : Int) + (n : Int) by omega]
    exact this
  have hch : Ch [b] w ((w.drewN nq).setCell ⟨b, 1, none⟩ (.int .i64 ((at_ : Int) + (n : Int)))) := (Ch.drewN [b] w nq).trans (Ch.set_ (by simp) _ _ _)
  generalize (w.drewN nq).setCell ⟨b, 1, none⟩ (.int .i64 ((at_ : Int) + (n : Int))) = w1 at hr hch ⊢
  have d0 : w1.cell? ⟨b, 0, none⟩ = some (.string S) := Blk.cell hr 0
  have d1 : w1.cell? ⟨b, 1, none⟩ = some (.int .i64 ((at_ + n : Nat) : Int)) := Blk.cell hr 1
  have hsub : IntKind.i64.wrap (((at_ + n : Nat) : Int) - (n : Int)) = (at_ : Int) := by rw [IntWalk.i64_in _ (by omega)]; omega
  have hsub2 : ((at_ + n : Nat) : Int) - (n : Int) = (at_ : Int) := by omega
  clear c0 c1 c2 f1
  go_quiet (fail)
  go_wp2_with fail
  go_ret
  exact ⟨rfl, hr, hch.trans (Ch.drewN _ _ _)⟩
set_option maxRecDepth 100000 in
set_option maxHeartbeats 4000000 in
theorem rtake_no (b : Nat) (S : ByteArray) (at_ : Nat) (e n : Int) (w : World) (hs : S.size ≤ maxLen) (hn : 0 ≤ n) (hn1 : n ≤ 100000) (ha : at_ ≤ S.size) (h1 : e ≠ 0 ∨ (S.size : Int) - (at_ : Int) < n) (h : RR w b S at_ e) :
    Calls Try.prog 61 #[.pointer (some ⟨b, 0, none⟩), .int .i64 n] w fun ee w' => ee = .returned (.string ByteArray.empty) ∧ RR w' b S at_ (failE e) ∧ Ch [b] w w' := by
  have c0 : w.cell? ⟨b, 0, none⟩ = some (.string S) := Blk.cell h 0
  have c1 : w.cell? ⟨b, 1, none⟩ = some (.int .i64 at_) := Blk.cell h 1
  have c2 : w.cell? ⟨b, 2, none⟩ = some (.int .i64 e) := Blk.cell h 2
  have f2 : w.frozen? ⟨b, 2, none⟩ = false := Blk.frozen h 2
  have H := Lib.hid h
  have _u : True := (fun _ => trivial) hs
  unfold maxLen at hs
  have hx2 : (S.size : Int) ≤ 9223372036854775807 := by omega
  have ha2 : (at_ : Int) ≤ (S.size : Int) := by omega
  have hn0 : 0 ≤ n ∧ n ≤ 100000 := ⟨hn, hn1⟩
  clear h
  by_cases he : e = 0
  · subst he
    have hx : decide ((S.size : Int) - (at_ : Int) < n) = true := decide_eq_true (by rcases h1 with h | h; exact absurd rfl h; exact h)
    clear h1
    go_enter Try.func61, Try.ntmps61
    go_wp2_with fail
    go_quiet (fail)
    go_wp2_with fail
    go_ret
    refine ⟨rfl, ?_, (Ch.drewN [b] w _).trans (Ch.set_ (by simp) _ _ _)⟩
    exact Blk.set_ (Blk.drewN H.out _) 2 _
  · have hf : failE e = e := if_neg he
    rw [hf]
    have hb1 : (e == 0) = false := beq_eq_false_iff_ne.2 he
    have hb2 : (e != 0) = true := by rw [bne, hb1]; rfl
    clear h1 he hf
    go_enter Try.func61, Try.ntmps61
    go_wp2_with fail
    go_quiet (fail)
    go_wp2_with fail
    go_ret
    exact ⟨rfl, Blk.drewN H.out _, Ch.drewN _ _ _⟩
set_option maxRecDepth 100000 in
set_option maxHeartbeats 4000000 in
theorem rleft_any (b : Nat) (S : ByteArray) (at_ : Nat) (e : Int) (w : World) (hs : S.size ≤ maxLen) (ha : at_ ≤ S.size) (h : RR w b S at_ e) :
    Calls Try.prog 62 #[.pointer (some ⟨b, 0, none⟩)] w fun ee w' => ee = .returned (.int .i64 ((S.size : Int) - (at_ : Int))) ∧ ∃ n, w' = w.drewN n := by
  have c0 : w.cell? ⟨b, 0, none⟩ = some (.string S) := Blk.cell h 0
  have c1 : w.cell? ⟨b, 1, none⟩ = some (.int .i64 at_) := Blk.cell h 1
  unfold maxLen at hs
  have hx2 : (S.size : Int) ≤ 9223372036854775807 := by omega
  have ha2 : (at_ : Int) ≤ (S.size : Int) := by omega
  clear h
  go_enter Try.func62, Try.ntmps62
  go_wp2_with fail
  go_quiet (fail)
  go_wp2_with fail
  go_ret
  exact ⟨rfl, _, rfl⟩
set_option maxRecDepth 100000 in
set_option maxHeartbeats 4000000 in
theorem rend_any (b : Nat) (S : ByteArray) (at_ : Nat) (e : Int) (w : World) (hs : S.size ≤ maxLen) (ha : at_ ≤ S.size) (h : RR w b S at_ e) :
    Calls Try.prog 46 #[.pointer (some ⟨b, 0, none⟩)] w fun ee w' => ee = .returned (.int .i64 (endE (S.extract at_ S.size) e)) ∧ ∃ n, w' = w.drewN n := by
  have c2 : w.cell? ⟨b, 2, none⟩ = some (.int .i64 e) := Blk.cell h 2
  have H := Lib.hid h
  have hsz : (S.extract at_ S.size).size = S.size - at_ := by rw [ByteArray.size_extract]; omega
  have HS := Lib.hid hs
  clear h
  by_cases he : e = 0
  · subst he
    by_cases hz : at_ = S.size
    · have hee : endE (S.extract at_ S.size) 0 = 0 := by unfold endE; rw [if_neg (fun h => h.2 (by omega))]
      rw [hee]
      clear hee hsz
      go_enter Try.func46, Try.ntmps46
      go_wp2_with (go_at_call 62; refine (rleft_any b S at_ 0 _ HS.out ha H.out).mono ?_; rintro ee w1 ⟨rfl, n, rfl⟩)
      go_ret
      exact ⟨rfl, _, rfl⟩
    · have hee : endE (S.extract at_ S.size) 0 = 4 := by unfold endE; rw [if_pos ⟨rfl, by omega⟩]
      have hgt : (0 : Int) < (S.size : Int) - (at_ : Int) := by omega
      rw [hee]
      clear hee hsz
      go_enter Try.func46, Try.ntmps46
      go_wp2_with (go_at_call 62; refine (rleft_any b S at_ 0 _ HS.out ha H.out).mono ?_; rintro ee w1 ⟨rfl, n, rfl⟩)
      go_ret
      exact ⟨rfl, _, rfl⟩
  · have hee : endE (S.extract at_ S.size) e = e := by unfold endE; rw [if_neg (fun h => he h.1)]
    rw [hee]
    have hb1 : (e == 0) = false := beq_eq_false_iff_ne.2 he
    have hb2 : (e != 0) = true := by rw [bne, hb1]; rfl
    clear he hee hsz
    go_enter Try.func46, Try.ntmps46
    go_wp2_with fail
    go_ret
    exact ⟨rfl, 0, rfl⟩
end Go.Proofs.Ythmkoehocjfjgaa
