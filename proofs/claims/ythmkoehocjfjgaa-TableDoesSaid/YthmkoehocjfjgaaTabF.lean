/- codec.Reader: take, Byte, Blob, Fail, End. -/
import Derived.Test.YthmkoehocjfjgaaTabE

import Derived.Outline
namespace Go.Proofs.Ythmkoehocjfjgaa
open Go.RowKit Go.Maps Go.WideMaps

def RdAt (w : World) (b : Nat) (s : ByteArray) (e : Int) : Prop := Blk w b 89 #[.string s, .int .i64 e]
def fB1 : Value := .func (.func 53) #[] #[]
def fB2 : Value := .func (.func 54) #[] #[]
def fB3 : Value := .func (.func 57) #[] #[]
/-- byte i of a text -/
def byteI (s : ByteArray) (i : Nat) : Int := ((s.data.toList.getD i 0).toNat : Int)
theorem byteI_bd (s : ByteArray) (i : Nat) : 0 ≤ byteI s i ∧ byteI s i ≤ 255 := by
  unfold byteI
  have := (s.data.toList.getD i 0).toNat_lt
  omega
theorem byteI_at (s : ByteArray) (i : Nat) (h : i < s.size) : byteI s i = (s[i].toNat : Int) := by
  unfold byteI
  rw [List.getD_eq_getElem?_getD, List.getElem?_eq_getElem (by simpa using h)]
  rfl
set_option maxRecDepth 100000 in
set_option maxHeartbeats 400000 in
theorem b1_any (s : ByteArray) (w : World) (h : 0 < s.size) :
    Calls Try.prog 53 #[.string s] w fun e w' => e = .returned (.int .i64 (byteI s 0)) ∧ w = w' := by
  have HB := Lib.hid (byteI_at s 0 h)
  go_enter Try.func53, Try.ntmps53
  have hlt : (s[0].toNat : Int) < 256 := by have := s[0].toNat_lt; omega
  go_wp2_with fail
  go_ret
  exact ⟨ret_int (by rw [HB.out]), rfl⟩
set_option maxRecDepth 100000 in
set_option maxHeartbeats 400000 in
theorem b3_any (s : ByteArray) (w : World) :
    Calls Try.prog 57 #[.string s] w fun e w' => e = .returned (.string s) ∧ w = w' := by
  go_enter Try.func57, Try.ntmps57
  go_wp2_with fail
  go_ret
  exact ⟨rfl, rfl⟩
theorem wrap_small (n : Int) (h0 : 0 ≤ n) (h1 : n ≤ 1000000) : wrap64 n = n := IntWalk.wrap64_in n ⟨by omega, by omega⟩
theorem or_word (a b : UInt8) : bits .or .i64 (wrap64 (wrap64 (a.toNat : Int) * 256)) (wrap64 (b.toNat : Int)) = (a.toNat : Int) * 256 + b.toNat := by
  have ha := a.toNat_lt
  have hb := b.toNat_lt
  rw [wrap_small (a.toNat : Int) (by omega) (by omega), wrap_small (b.toNat : Int) (by omega) (by omega), wrap_small _ (by omega) (by omega)]
  have h : bits .or .i64 ((a.toNat : Int) * 256) (b.toNat : Int) = IntKind.i64.wrap ((BitVec.ofInt 64 ((a.toNat : Int) * 256) ||| BitVec.ofInt 64 (b.toNat : Int)).toNat : Int) := rfl
  have e1 : BitVec.ofInt 64 ((a.toNat : Int) * 256) = BitVec.ofNat 64 (a.toNat * 256) := by
    have : ((a.toNat : Int) * 256) = ((a.toNat * 256 : Nat) : Int) := by omega
    rw [this, BitVec.ofInt_natCast]
  have e2 : BitVec.ofInt 64 (b.toNat : Int) = BitVec.ofNat 64 b.toNat := by rw [BitVec.ofInt_natCast]
  rw [h, e1, e2, BitVec.toNat_or, BitVec.toNat_ofNat, BitVec.toNat_ofNat, Nat.mod_eq_of_lt (by omega), Nat.mod_eq_of_lt (by omega)]
  have e3 : a.toNat * 256 ||| b.toNat = a.toNat * 256 + b.toNat := by
    have := Nat.shiftLeft_add_eq_or_of_lt (i := 8) (b := b.toNat) (by omega) a.toNat
    rw [Nat.shiftLeft_eq, show (2 : Nat) ^ 8 = 256 from rfl] at this
    omega
  rw [e3, IntKind.wrap_i64]
  omega
set_option maxRecDepth 100000 in
set_option maxHeartbeats 400000 in
theorem b2_any (s : ByteArray) (w : World) (h : 2 ≤ s.size) :
    Calls Try.prog 54 #[.string s] w fun e w' => e = .returned (.int .i64 (byteI s 0 * 256 + byteI s 1)) ∧ ∃ n, w' = w.drewN n := by
  have HB := Lib.hid (byteI_at s 0 (by omega))
  have HB1 := Lib.hid (byteI_at s 1 (by omega))
  have h0 : 0 < s.size := by omega
  have h1 : 1 < s.size := by omega
  have h2 : (1 : Int) < (s.size : Int) := by omega
  go_enter Try.func54, Try.ntmps54
  go_wp2_with fail
  go_quiet (fail)
  go_wp2_with fail
  go_ret
  exact ⟨ret_int (by rw [or_word, HB.out, HB1.out]), nq, rfl⟩
set_option maxRecDepth 100000 in
set_option maxHeartbeats 400000 in
theorem fail_any (b : Nat) (s : ByteArray) (e er : Int) (w : World) (h : RdAt w b s e) :
    Calls Try.prog 55 #[.pointer (some ⟨b, 0, none⟩), .int .i64 er] w fun ee w' => ee = .returned (.tuple #[]) ∧ RdAt w' b s (if e = 0 then er else e) ∧ Ch [b] w w' := by
  have c1 : w.cell? ⟨b, 1, none⟩ = some (.int .i64 e) := Blk.cell h 1
  have f1 : w.frozen? ⟨b, 1, none⟩ = false := Blk.frozen h 1
  have H := Lib.hid h
  clear h
  by_cases he : e = 0
  · subst he
    go_enter Try.func55, Try.ntmps55
    go_wp2
    go_end0
    exact ⟨rfl, Blk.set_ H.out 1 _, Ch.set_ (by simp) _ _ _⟩
  · have hb : (e == 0) = false := beq_eq_false_iff_ne.2 he
    rw [if_neg he]
    clear he
    go_enter Try.func55, Try.ntmps55
    go_wp2
    go_end0
    exact ⟨rfl, H.out, Ch.refl _ _⟩

def failE (e : Int) : Int := if e = 0 then 3 else e
set_option maxRecDepth 100000 in
set_option maxHeartbeats 400000 in
theorem takeI_no (b : Nat) (s : ByteArray) (e : Int) (n : Int) (f : Value) (w : World) (hs : s.size ≤ maxLen) (hn : 0 ≤ n) (hc : e ≠ 0 ∨ (s.size : Int) < n) (h : RdAt w b s e) :
    Calls Try.prog 52 #[.pointer (some ⟨b, 0, none⟩), .int .i64 n, f] w fun ee w' => ee = .returned (.int .i64 0) ∧ RdAt w' b s (failE e) ∧ Ch [b] w w' := by
  have c0 : w.cell? ⟨b, 0, none⟩ = some (.string s) := Blk.cell h 0
  have c1 : w.cell? ⟨b, 1, none⟩ = some (.int .i64 e) := Blk.cell h 1
  have H := Lib.hid h
  have HE : Hid (failE e = if e = 0 then 3 else e) := rfl
  have _u : True := (fun _ _ => trivial) hs hn
  unfold maxLen at hs
  clear h
  by_cases hlt : (s.size : Int) < n
  · clear hc
    have hne : ((failE e : Int) == 0) = false := beq_eq_false_iff_ne.2 (by unfold failE; split <;> omega)
    have hne' : ((failE e : Int) != 0) = true := by rw [bne_iff_ne]; exact beq_eq_false_iff_ne.1 hne
    generalize failE e = fe at HE hne hne' ⊢
    go_enter Try.func52, Try.ntmps52
    go_wp2_with fail
    refine (fail_any b s e 3 _ H.out).mono ?_
    rintro ee w1 ⟨rfl, hr, hch⟩
    rw [← HE.out] at hr
    have d1 : w1.cell? ⟨b, 1, none⟩ = some (.int .i64 fe) := Blk.cell hr 1
    have HR := Lib.hid hr
    have HC := Lib.hid hch
    clear hr hch c0 c1
    go_wp2_with fail
    go_ret
    exact ⟨rfl, HR.out, HC.out⟩
  · have he : e ≠ 0 := by
      rcases hc with h | h
      · exact h
      · exact absurd h hlt
    have hf : failE e = e := by rw [failE, if_neg he]
    rw [hf]
    have hne : ((e : Int) == 0) = false := beq_eq_false_iff_ne.2 he
    have hne' : ((e : Int) != 0) = true := by rw [bne_iff_ne]; exact he
    clear hc he hf HE
    go_enter Try.func52, Try.ntmps52
    go_wp2_with fail
    go_ret
    exact ⟨rfl, H.out, Ch.refl _ _⟩
set_option maxRecDepth 100000 in
set_option maxHeartbeats 400000 in
theorem takeS_no (b : Nat) (s : ByteArray) (e : Int) (n : Int) (f : Value) (w : World) (hs : s.size ≤ maxLen) (hn : 0 ≤ n) (hc : e ≠ 0 ∨ (s.size : Int) < n) (h : RdAt w b s e) :
    Calls Try.prog 56 #[.pointer (some ⟨b, 0, none⟩), .int .i64 n, f] w fun ee w' => ee = .returned (.string ByteArray.empty) ∧ RdAt w' b s (failE e) ∧ Ch [b] w w' := by
  have c0 : w.cell? ⟨b, 0, none⟩ = some (.string s) := Blk.cell h 0
  have c1 : w.cell? ⟨b, 1, none⟩ = some (.int .i64 e) := Blk.cell h 1
  have H := Lib.hid h
  have HE : Hid (failE e = if e = 0 then 3 else e) := rfl
  have _u : True := (fun _ _ => trivial) hs hn
  unfold maxLen at hs
  clear h
  by_cases hlt : (s.size : Int) < n
  · clear hc
    have hne : ((failE e : Int) == 0) = false := beq_eq_false_iff_ne.2 (by unfold failE; split <;> omega)
    have hne' : ((failE e : Int) != 0) = true := by rw [bne_iff_ne]; exact beq_eq_false_iff_ne.1 hne
    generalize failE e = fe at HE hne hne' ⊢
    go_enter Try.func56, Try.ntmps56
    go_wp2_with fail
    refine (fail_any b s e 3 _ H.out).mono ?_
    rintro ee w1 ⟨rfl, hr, hch⟩
    rw [← HE.out] at hr
    have d1 : w1.cell? ⟨b, 1, none⟩ = some (.int .i64 fe) := Blk.cell hr 1
    have HR := Lib.hid hr
    have HC := Lib.hid hch
    clear hr hch c0 c1
    go_wp2_with fail
    go_ret
    exact ⟨rfl, HR.out, HC.out⟩
  · have he : e ≠ 0 := by
      rcases hc with h | h
      · exact h
      · exact absurd h hlt
    have hf : failE e = e := by rw [failE, if_neg he]
    rw [hf]
    have hne : ((e : Int) == 0) = false := beq_eq_false_iff_ne.2 he
    have hne' : ((e : Int) != 0) = true := by rw [bne_iff_ne]; exact he
    clear hc he hf HE
    go_enter Try.func56, Try.ntmps56
    go_wp2_with fail
    go_ret
    exact ⟨rfl, H.out, Ch.refl _ _⟩
set_option maxRecDepth 100000 in
set_option maxHeartbeats 400000 in
theorem take1_ok (b : Nat) (s : ByteArray) (w : World) (hs : s.size ≤ maxLen) (h1 : 0 < s.size) (h : RdAt w b s 0) :
    Calls Try.prog 52 #[.pointer (some ⟨b, 0, none⟩), .int .i64 1, .func (.func 53) #[] #[]] w fun ee w' => ee = .returned (.int .i64 (byteI s 0)) ∧ RdAt w' b (s.extract 1 s.size) 0 ∧ Ch [b] w w' := by
  have c0 : w.cell? ⟨b, 0, none⟩ = some (.string s) := Blk.cell h 0
  have c1 : w.cell? ⟨b, 1, none⟩ = some (.int .i64 0) := Blk.cell h 1
  have f0 : w.frozen? ⟨b, 0, none⟩ = false := Blk.frozen h 0
  have H := Lib.hid h
  have HE : Hid (byteI (s.extract 0 1) 0 = byteI s 0) := by
    show _ = _
    unfold byteI
    rw [ByteArray.data_extract, Array.toList_extract, List.extract_eq_take_drop]
    simp [List.getD_eq_getElem?_getD]
  have hz : 0 < (s.extract 0 1).size := by rw [ByteArray.size_extract]; omega
  unfold maxLen at hs
  have hx : ¬ (s.size : Int) < 1 := by omega
  clear h
  go_enter Try.func52, Try.ntmps52
  go_wp2_with fail
  refine (b1_any (s.extract 0 1) _ hz).mono ?_
  rintro e w' ⟨rfl, rfl⟩
  rw [HE.out]
  go_wp2
  go_ret
  exact ⟨rfl, Blk.set_ H.out 0 _, Ch.set_ (by simp) _ _ _⟩
end Go.Proofs.Ythmkoehocjfjgaa
