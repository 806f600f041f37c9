/- codec.Reader: Byte, Blob, End. -/
import Derived.Test.YthmkoehocjfjgaaTabF

namespace Go.Proofs.Ythmkoehocjfjgaa
open Go.RowKit Go.Maps Go.WideMaps

theorem byteI_ext (s : ByteArray) (n i : Nat) (h : i < n) : byteI (s.extract 0 n) i = byteI s i := by
  unfold byteI
  rw [ByteArray.data_extract, Array.toList_extract, List.extract_eq_take_drop]
  simp [List.getD_eq_getElem?_getD, h]
set_option maxRecDepth 100000 in
set_option maxHeartbeats 400000 in
theorem take2_ok (b : Nat) (s : ByteArray) (w : World) (hs : s.size ≤ maxLen) (h1 : 2 ≤ s.size) (h : RdAt w b s 0) :
    Calls Try.prog 52 #[.pointer (some ⟨b, 0, none⟩), .int .i64 2, .func (.func 54) #[] #[]] w fun ee w' => ee = .returned (.int .i64 (byteI s 0 * 256 + byteI s 1)) ∧ RdAt w' b (s.extract 2 s.size) 0 ∧ Ch [b] w w' := by
  have c0 : w.cell? ⟨b, 0, none⟩ = some (.string s) := Blk.cell h 0
  have c1 : w.cell? ⟨b, 1, none⟩ = some (.int .i64 0) := Blk.cell h 1
  have f0 : w.frozen? ⟨b, 0, none⟩ = false := Blk.frozen h 0
  have H := Lib.hid h
  have HE : Hid (byteI (s.extract 0 2) 0 = byteI s 0 ∧ byteI (s.extract 0 2) 1 = byteI s 1) := ⟨byteI_ext s 2 0 (by omega), byteI_ext s 2 1 (by omega)⟩
  have hz : 2 ≤ (s.extract 0 2).size := by rw [ByteArray.size_extract]; omega
  unfold maxLen at hs
  have hx : ¬ (s.size : Int) < 2 := by omega
  clear h
  go_enter Try.func52, Try.ntmps52
  go_wp2_with fail
  refine (b2_any (s.extract 0 2) _ hz).mono ?_
  rintro e w' ⟨rfl, nq, rfl⟩
  rw [HE.out.1, HE.out.2]
  go_wp2
  go_ret
  exact ⟨rfl, Blk.set_ H.out 0 _, (Ch.set_ (S := [b]) (by simp) w 0 (.string (s.extract 2 s.size))).trans (Ch.drewN _ _ _)⟩
set_option maxRecDepth 100000 in
set_option maxHeartbeats 400000 in
theorem takeS_ok (b : Nat) (s : ByteArray) (n : Nat) (w : World) (hs : s.size ≤ maxLen) (h1 : n ≤ s.size) (h : RdAt w b s 0) :
    Calls Try.prog 56 #[.pointer (some ⟨b, 0, none⟩), .int .i64 (n : Int), .func (.func 57) #[] #[]] w fun ee w' => ee = .returned (.string (s.extract 0 n)) ∧ RdAt w' b (s.extract n s.size) 0 ∧ Ch [b] w w' := by
  have c0 : w.cell? ⟨b, 0, none⟩ = some (.string s) := Blk.cell h 0
  have c1 : w.cell? ⟨b, 1, none⟩ = some (.int .i64 0) := Blk.cell h 1
  have f0 : w.frozen? ⟨b, 0, none⟩ = false := Blk.frozen h 0
  have H := Lib.hid h
  have _u : True := (fun _ => trivial) hs
  unfold maxLen at hs
  have hx : ¬ (s.size : Int) < n := by omega
  clear h
  go_enter Try.func56, Try.ntmps56
  go_wp2_with fail
  refine (b3_any (s.extract 0 n) _).mono ?_
  rintro e w' ⟨rfl, rfl⟩
  go_wp2
  go_ret
  exact ⟨rfl, Blk.set_ H.out 0 _, Ch.set_ (by simp) _ _ _⟩
set_option maxRecDepth 100000 in
set_option maxHeartbeats 400000 in
theorem rByte_ok (b : Nat) (s : ByteArray) (w : World) (hs : s.size ≤ maxLen) (h1 : 0 < s.size) (h : RdAt w b s 0) :
    Calls Try.prog 39 #[.pointer (some ⟨b, 0, none⟩)] w fun ee w' => ee = .returned (.int .i64 (byteI s 0)) ∧ RdAt w' b (s.extract 1 s.size) 0 ∧ Ch [b] w w' := by
  go_enter Try.func39, Try.ntmps39
  go_wp2_with (go_at_call 52; refine (take1_ok b s _ hs h1 h).mono ?_; rintro e w1 ⟨rfl, hr, hc⟩)
  go_ret
  exact ⟨rfl, hr, hc⟩
set_option maxRecDepth 100000 in
set_option maxHeartbeats 400000 in
theorem rByte_no (b : Nat) (s : ByteArray) (e : Int) (w : World) (hs : s.size ≤ maxLen) (h1 : e ≠ 0 ∨ (s.size : Int) < 1) (h : RdAt w b s e) :
    Calls Try.prog 39 #[.pointer (some ⟨b, 0, none⟩)] w fun ee w' => ee = .returned (.int .i64 0) ∧ RdAt w' b s (failE e) ∧ Ch [b] w w' := by
  have H1 := Lib.hid h1
  clear h1
  go_enter Try.func39, Try.ntmps39
  go_wp2_with (go_at_call 52; refine (takeI_no b s e 1 _ _ hs (by omega) H1.out h).mono ?_; rintro e w1 ⟨rfl, hr, hc⟩)
  go_ret
  exact ⟨rfl, hr, hc⟩
/-- what is read, what is left, what is wrong -/
def rBlob (most : Int) (s : ByteArray) (e : Int) : ByteArray × ByteArray × Int :=
  if e ≠ 0 ∨ (s.size : Int) < 2 then (ByteArray.empty, s, failE e)
  else if most < byteI s 0 * 256 + byteI s 1 ∨ 4096 < byteI s 0 * 256 + byteI s 1 then (ByteArray.empty, s, 5)
  else if ((s.extract 2 s.size).size : Int) < byteI s 0 * 256 + byteI s 1 then (ByteArray.empty, s, 3)
  else ((s.extract 2 s.size).extract 0 (byteI s 0 * 256 + byteI s 1).toNat, (s.extract 2 s.size).extract (byteI s 0 * 256 + byteI s 1).toNat (s.extract 2 s.size).size, 0)
theorem failE_ne (e : Int) : failE e ≠ 0 := by unfold failE; split <;> omega
set_option maxRecDepth 100000 in
set_option maxHeartbeats 1000000 in
theorem rBlob_any (b : Nat) (s : ByteArray) (e most : Int) (w : World) (hs : s.size ≤ maxLen) (h : RdAt w b s e) :
    Calls Try.prog 40 #[.pointer (some ⟨b, 0, none⟩), .int .i64 most] w fun ee w' => ee = .returned (.string (rBlob most s e).1) ∧ RdAt w' b (rBlob most s e).2.1 (rBlob most s e).2.2 ∧ Ch [b] w w' := by
  have c0 : w.cell? ⟨b, 0, none⟩ = some (.string s) := Blk.cell h 0
  have H := Lib.hid h
  have HR : Hid (rBlob most s e = if e ≠ 0 ∨ (s.size : Int) < 2 then (ByteArray.empty, s, failE e)
    else if most < byteI s 0 * 256 + byteI s 1 ∨ 4096 < byteI s 0 * 256 + byteI s 1 then (ByteArray.empty, s, 5)
    else if ((s.extract 2 s.size).size : Int) < byteI s 0 * 256 + byteI s 1 then (ByteArray.empty, s, 3)
    else ((s.extract 2 s.size).extract 0 (byteI s 0 * 256 + byteI s 1).toNat, (s.extract 2 s.size).extract (byteI s 0 * 256 + byteI s 1).toNat (s.extract 2 s.size).size, 0)) := rfl
  generalize rBlob most s e = rb at HR ⊢
  clear h
  by_cases hc : e ≠ 0 ∨ (s.size : Int) < 2
  · rw [show rb = (ByteArray.empty, s, failE e) by rw [HR.out, if_pos hc]]
    have HC := Lib.hid hc
    have hne : ((failE e : Int) == 0) = false := beq_eq_false_iff_ne.2 (failE_ne e)
    have hne' : ((failE e : Int) != 0) = true := by rw [bne_iff_ne]; exact failE_ne e
    clear hc HR
    dsimp only
    generalize hfe : failE e = fe at hne hne' ⊢
    have HF := Lib.hid hfe
    clear hfe
    go_enter Try.func40, Try.ntmps40
    go_wp2_with (go_at_call 52; refine (takeI_no b s e 2 _ _ hs (by omega) HC.out H.out).mono ?_; rintro ee w1 ⟨rfl, hr, hch⟩; rw [HF.out] at hr; have d1 : w1.cell? ⟨b, 1, none⟩ = some (.int .i64 fe) := Blk.cell hr 1; have HR := Lib.hid hr; have HC := Lib.hid hch; clear hr hch c0)
    go_ret
    exact ⟨rfl, HR.out, HC.out⟩
  · have he : e = 0 := by omega
    have h2 : 2 ≤ s.size := by omega
    subst he
    have hn0 := byteI_bd s 0
    have hn1 := byteI_bd s 1
    rw [if_neg hc] at HR
    generalize hn : byteI s 0 * 256 + byteI s 1 = n at HR
    have HN := Lib.hid hn
    have hb0 : 0 ≤ n := by omega
    have hb1 : n ≤ 65535 := by omega
    clear hc hn hn0 hn1
    by_cases hbig : most < n ∨ 4096 < n
    · rw [show rb = (ByteArray.empty, s, 5) by rw [HR.out, if_pos hbig]]
      clear HR
      dsimp only
      by_cases hm : most < n
      · clear hbig
        go_enter Try.func40, Try.ntmps40
        go_wp2_with (first
          | (go_at_call 52; refine (take2_ok b s _ hs h2 H.out).mono ?_; rintro ee w1 ⟨rfl, hr, hch⟩; rw [HN.out] at *; have d1 : w1.cell? ⟨b, 1, none⟩ = some (.int .i64 0) := Blk.cell hr 1; have HR1 := Lib.hid hr; have HC1 := Lib.hid hch; clear hr hch c0)
          | (go_at_call 55; refine (fail_any b (s.extract 2 s.size) 0 5 _ HR1.out).mono ?_; rintro ee w2 ⟨rfl, hr, hch⟩; have HR2 : Hid (RdAt w2 b (s.extract 2 s.size) 5) := hr; have HC2 := Lib.hid hch; clear hr hch d1)
          | (go_at_call 56; refine (takeS_no b (s.extract 2 s.size) 5 n _ _ (by rw [ByteArray.size_extract]; omega) hb0 (by omega) HR2.out).mono ?_; rintro ee w3 ⟨rfl, hr, hch⟩; have d3 : w3.cell? ⟨b, 1, none⟩ = some (.int .i64 5) := Blk.cell hr 1; have f3 : w3.frozen? ⟨b, 0, none⟩ = false := Blk.frozen hr 0; have d0 : w3.cell? ⟨b, 0, none⟩ = some (.string (s.extract 2 s.size)) := Blk.cell hr 0; have HR3 := Lib.hid hr; have HC3 := Lib.hid hch; clear hr hch))
        go_ret
        exact ⟨rfl, Blk.set_ HR3.out 0 _, ((HC1.out.trans HC2.out).trans HC3.out).trans (Ch.set_ (by simp) _ _ _)⟩
      · have hm' : 4096 < n := by omega
        clear hbig
        have hd : decide (most < n) = false := decide_eq_false hm
        clear hm
        go_enter Try.func40, Try.ntmps40
        go_wp2_with (first
          | (go_at_call 52; refine (take2_ok b s _ hs h2 H.out).mono ?_; rintro ee w1 ⟨rfl, hr, hch⟩; rw [HN.out] at *; have d1 : w1.cell? ⟨b, 1, none⟩ = some (.int .i64 0) := Blk.cell hr 1; have HR1 := Lib.hid hr; have HC1 := Lib.hid hch; clear hr hch c0)
          | (go_at_call 55; refine (fail_any b (s.extract 2 s.size) 0 5 _ HR1.out).mono ?_; rintro ee w2 ⟨rfl, hr, hch⟩; have HR2 : Hid (RdAt w2 b (s.extract 2 s.size) 5) := hr; have HC2 := Lib.hid hch; clear hr hch d1)
          | (go_at_call 56; refine (takeS_no b (s.extract 2 s.size) 5 n _ _ (by rw [ByteArray.size_extract]; omega) hb0 (by omega) HR2.out).mono ?_; rintro ee w3 ⟨rfl, hr, hch⟩; have d3 : w3.cell? ⟨b, 1, none⟩ = some (.int .i64 5) := Blk.cell hr 1; have f3 : w3.frozen? ⟨b, 0, none⟩ = false := Blk.frozen hr 0; have d0 : w3.cell? ⟨b, 0, none⟩ = some (.string (s.extract 2 s.size)) := Blk.cell hr 0; have HR3 := Lib.hid hr; have HC3 := Lib.hid hch; clear hr hch))
        go_ret
        exact ⟨rfl, Blk.set_ HR3.out 0 _, ((HC1.out.trans HC2.out).trans HC3.out).trans (Ch.set_ (by simp) _ _ _)⟩
    · have hm : ¬ most < n := by omega
      have hm' : ¬ 4096 < n := by omega
      have hd : decide (most < n) = false := decide_eq_false hm
      have hd' : decide (4096 < n) = false := decide_eq_false hm'
      rw [if_neg hbig] at HR
      clear hbig hm hm'
      generalize hs2 : s.extract 2 s.size = s2 at HR
      have HS2 := Lib.hid hs2
      have hs2m : s2.size ≤ maxLen := by rw [← hs2, ByteArray.size_extract]; omega
      clear hs2
      by_cases hsh : (s2.size : Int) < n
      · rw [show rb = (ByteArray.empty, s, 3) by rw [HR.out, if_pos hsh]]
        clear HR
        dsimp only
        have HC := Lib.hid (show (0 : Int) ≠ 0 ∨ (s2.size : Int) < n from .inr hsh)
        clear hsh
        go_enter Try.func40, Try.ntmps40
        go_wp2_with (first
          | (go_at_call 52; refine (take2_ok b s _ hs h2 H.out).mono ?_; rintro ee w1 ⟨rfl, hr, hch⟩; rw [HN.out, HS2.out] at *; have d1 : w1.cell? ⟨b, 1, none⟩ = some (.int .i64 0) := Blk.cell hr 1; have HR1 := Lib.hid hr; have HC1 := Lib.hid hch; clear hr hch c0)
          | (go_at_call 56; refine (takeS_no b s2 0 n _ _ hs2m hb0 HC.out HR1.out).mono ?_; rintro ee w3 ⟨rfl, hr, hch⟩; have d3 : w3.cell? ⟨b, 1, none⟩ = some (.int .i64 3) := Blk.cell hr 1; have f3 : w3.frozen? ⟨b, 0, none⟩ = false := Blk.frozen hr 0; have d0 : w3.cell? ⟨b, 0, none⟩ = some (.string s2) := Blk.cell hr 0; have HR3 := Lib.hid hr; have HC3 := Lib.hid hch; clear hr hch d1))
        go_ret
        exact ⟨rfl, Blk.set_ HR3.out 0 _, (HC1.out.trans HC3.out).trans (Ch.set_ (by simp) _ _ _)⟩
      · rw [show rb = (s2.extract 0 n.toNat, s2.extract n.toNat s2.size, 0) by rw [HR.out, if_neg hsh]]
        clear HR
        dsimp only
        obtain ⟨k, rfl⟩ := Int.eq_ofNat_of_zero_le hb0
        have hk : k ≤ s2.size := by omega
        rw [Int.toNat_natCast]
        clear hsh
        go_enter Try.func40, Try.ntmps40
        go_wp2_with (first
          | (go_at_call 52; refine (take2_ok b s _ hs h2 H.out).mono ?_; rintro ee w1 ⟨rfl, hr, hch⟩; rw [HN.out, HS2.out] at *; have d1 : w1.cell? ⟨b, 1, none⟩ = some (.int .i64 0) := Blk.cell hr 1; have HR1 := Lib.hid hr; have HC1 := Lib.hid hch; clear hr hch c0)
          | (go_at_call 56; refine (takeS_ok b s2 k _ hs2m hk HR1.out).mono ?_; rintro ee w3 ⟨rfl, hr, hch⟩; have d3 : w3.cell? ⟨b, 1, none⟩ = some (.int .i64 0) := Blk.cell hr 1; have HR3 := Lib.hid hr; have HC3 := Lib.hid hch; clear hr hch d1))
        go_ret
        exact ⟨rfl, HR3.out, HC1.out.trans HC3.out⟩
end Go.Proofs.Ythmkoehocjfjgaa
