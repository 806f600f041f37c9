/- The reference's Reader: Blob; its table: Do. -/
import Derived.Test.YthmkoehocjfjgaaTabW

namespace Go.Proofs.Ythmkoehocjfjgaa
open Go.RowKit Go.Maps Go.WideMaps

theorem ext2 (S : ByteArray) (a i j : Nat) (hij : i ≤ j) (hj : a + j ≤ S.size) : (S.extract a S.size).extract i j = S.extract (a + i) (a + j) := by
  have hl : S.data.toList.length = S.size := by simp
  refine ba_ext ?_
  simp only [ByteArray.data_extract, Array.toList_extract, List.extract_eq_take_drop]
  rw [List.take_of_length_le (l := List.drop a S.data.toList) (by rw [List.length_drop, hl]; omega), List.drop_drop, show a + j - (a + i) = j - i by omega]
theorem word_nat {a b : Nat} (ha : (a : Int) < 256) (hb : (b : Int) < 256) : ∃ n : Nat, (a : Int) * (256 : Int) + (b : Int) = (n : Int) ∧ n ≤ 65535 := ⟨a * 256 + b, by omega, by omega⟩
theorem rr_ch {w w' : World} {S : List Nat} {b at_ : Nat} {s : ByteArray} {e : Int} (h : RR w b s at_ e) (hc : Ch S w w') (hn : b ∉ S) : RR w' b s at_ e := Blk.ch h hc hn
def RB (w : World) (b : Nat) (S : ByteArray) (most : Int) (r : ByteArray) (e : Int) (ee : Ending) (w' : World) : Prop :=
  ee = .returned (.string (rBlob most r e).1) ∧ (∃ a, a ≤ S.size ∧ S.extract a S.size = (rBlob most r e).2.1 ∧ RR w' b S a (rBlob most r e).2.2) ∧ Ch [b] w w'
set_option maxRecDepth 100000 in
set_option maxHeartbeats 8000000 in
theorem rrBlob_any (b : Nat) (S : ByteArray) (at_ : Nat) (e most : Int) (w : World) (hs : S.size ≤ maxLen) (ha : at_ ≤ S.size) (h : RR w b S at_ e) :
    Calls Try.prog 45 #[.pointer (some ⟨b, 0, none⟩), .int .i64 most] w (RB w b S most (S.extract at_ S.size) e) := by
  have c1 : w.cell? ⟨b, 1, none⟩ = some (.int .i64 at_) := Blk.cell h 1
  have H := Lib.hid h
  have hsz : (S.extract at_ S.size).size = S.size - at_ := by rw [ByteArray.size_extract]; omega
  have HS := Lib.hid hs
  clear h
  by_cases hA : e ≠ 0 ∨ ((S.extract at_ S.size).size : Int) < 2
  · have HP : Hid (rBlob most (S.extract at_ S.size) e = (ByteArray.empty, S.extract at_ S.size, failE e)) := by show _ = _; rw [rBlob, if_pos hA]
    have HA : Hid (e ≠ 0 ∨ (S.size : Int) - (at_ : Int) < 2) := by rcases hA with h | h; exact .inl h; exact .inr (by omega)
    clear hA hsz
    go_enter Try.func45, Try.ntmps45
    go_wp2_with (go_at_call 61; refine (rtake_no b S at_ e 2 _ HS.out (by omega) (by omega) ha HA.out H.out).mono ?_; rintro ee w1 ⟨rfl, hr, hc⟩; have HR := Lib.hid hr; have HC := Lib.hid hc; clear hr hc)
    go_ret
    exact ⟨by rw [HP.out]; rfl, ⟨at_, ha, by rw [HP.out], by rw [HP.out]; exact HR.out⟩, HC.out⟩
  · have he : e = 0 := Classical.not_not.1 (fun h => hA (.inl h))
    have h2 : at_ + 2 ≤ S.size := by
      have : ¬ ((S.extract at_ S.size).size : Int) < 2 := fun h => hA (.inr h)
      omega
    subst he
    have hh0 : byteI (S.extract at_ S.size) 0 = byteI (S.extract at_ (at_ + 2)) 0 := by rw [← byteI_ext (S.extract at_ S.size) 2 0 (by omega), ext2 S at_ 0 2 (by omega) (by omega)]; rfl
    have hh1 : byteI (S.extract at_ S.size) 1 = byteI (S.extract at_ (at_ + 2)) 1 := by rw [← byteI_ext (S.extract at_ S.size) 2 1 (by omega), ext2 S at_ 0 2 (by omega) (by omega)]; rfl
    have hx2 : (S.extract at_ S.size).extract 2 (S.extract at_ S.size).size = S.extract (at_ + 2) S.size := by
      rw [hsz, ext2 S at_ 2 (S.size - at_) (by omega) (by omega), show at_ + (S.size - at_) = S.size by omega]
    have hrb : rBlob most (S.extract at_ S.size) 0 = if most < byteI (S.extract at_ (at_ + 2)) 0 * 256 + byteI (S.extract at_ (at_ + 2)) 1 ∨ 4096 < byteI (S.extract at_ (at_ + 2)) 0 * 256 + byteI (S.extract at_ (at_ + 2)) 1 then (ByteArray.empty, S.extract at_ S.size, 5)
        else if (S.size : Int) - ((at_ + 2 : Nat) : Int) < byteI (S.extract at_ (at_ + 2)) 0 * 256 + byteI (S.extract at_ (at_ + 2)) 1 then (ByteArray.empty, S.extract at_ S.size, 3)
        else (S.extract (at_ + 2) (at_ + 2 + (byteI (S.extract at_ (at_ + 2)) 0 * 256 + byteI (S.extract at_ (at_ + 2)) 1).toNat), S.extract (at_ + 2 + (byteI (S.extract at_ (at_ + 2)) 0 * 256 + byteI (S.extract at_ (at_ + 2)) 1).toNat) S.size, 0) := by
      rw [rBlob, if_neg hA, hh0, hh1, hx2]
      have hsz2 : (S.extract (at_ + 2) S.size).size = S.size - (at_ + 2) := by rw [ByteArray.size_extract]; omega
      have b0 := byteI_bd (S.extract at_ (at_ + 2)) 0
      have b1 := byteI_bd (S.extract at_ (at_ + 2)) 1
      generalize byteI (S.extract at_ (at_ + 2)) 0 * 256 + byteI (S.extract at_ (at_ + 2)) 1 = n at *
      split
      · rfl
      · have hc : ((S.extract (at_ + 2) S.size).size : Int) = (S.size : Int) - ((at_ + 2 : Nat) : Int) := by omega
        rw [hc]
        split
        · rfl
        · next hq =>
          have hn : at_ + 2 + n.toNat ≤ S.size := by omega
          rw [ext2 S (at_ + 2) 0 n.toNat (by omega) hn, hsz2, ext2 S (at_ + 2) n.toNat (S.size - (at_ + 2)) (by omega) (by omega), show at_ + 2 + (S.size - (at_ + 2)) = S.size by omega]
    have hz : (S.extract at_ (at_ + 2)).size = 2 := by rw [ByteArray.size_extract]; omega
    have hz0 : 0 < (S.extract at_ (at_ + 2)).size := by omega
    have hz1 : 1 < (S.extract at_ (at_ + 2)).size := by omega
    have hz3 : (1 : Int) < ((S.extract at_ (at_ + 2)).size : Int) := by omega
    have hne : ¬ (S.extract at_ (at_ + 2)).toList = [] := fun e => by have := str_nil e; omega
    have hem : (S.extract at_ (at_ + 2)).toList.isEmpty = false := by simp [hne]
    have hb0 := byteI_at _ 0 hz0
    have hb1 := byteI_at _ 1 hz1
    have HT := Lib.hid (fun W h => rtake_ok b S at_ 2 W HS.out h2 h)
    generalize S.extract at_ (at_ + 2) = hd at *
    have l0 : (hd[0].toNat : Int) < 256 := by have := hd[0].toNat_lt; omega
    have l1 : (hd[1].toNat : Int) < 256 := by have := hd[1].toNat_lt; omega
    have g0 : (0 : Int) ≤ (hd[0].toNat : Int) := by omega
    have g1 : (0 : Int) ≤ (hd[1].toNat : Int) := by omega
    rw [hb0, hb1] at hrb
    have HRB := Lib.hid hrb
    clear hrb hb0 hb1 hh0 hh1 hx2 hsz hA
    go_enter Try.func45, Try.ntmps45
    go_wp2_with (go_at_call 61; refine (HT.out _ H.out).mono ?_; rintro ee w1 ⟨rfl, hr, hc⟩; have HR := Lib.hid hr; have HC := Lib.hid hc; clear hr hc)
    go_quiet (fail)
    obtain ⟨n, hn, hn1⟩ := word_nat l0 l1
    have HRB2 : Hid (rBlob most (S.extract at_ S.size) 0 = if most < (n : Int) ∨ 4096 < (n : Int) then (ByteArray.empty, S.extract at_ S.size, 5) else if (S.size : Int) - ((at_ + 2 : Nat) : Int) < (n : Int) then (ByteArray.empty, S.extract at_ S.size, 3)
        else (S.extract (at_ + 2) (at_ + 2 + n), S.extract (at_ + 2 + n) S.size, 0)) := by
      have := HRB.out
      rw [hn] at this
      exact this
    rw [hn]
    clear hn HRB HT hne hem
    have f1 : w1.frozen? ⟨b, 1, none⟩ = false := Blk.frozen HR.out 1
    have f2 : w1.frozen? ⟨b, 2, none⟩ = false := Blk.frozen HR.out 2
    have e1 : w1.cell? ⟨b, 1, none⟩ = some (.int .i64 ((at_ + 2 : Nat) : Int)) := Blk.cell HR.out 1
    have e2 : w1.cell? ⟨b, 2, none⟩ = some (.int .i64 0) := Blk.cell HR.out 2
    have HN := Lib.hid hn1
    by_cases hb1 : most < (n : Int)
    · have HE : Hid (rBlob most (S.extract at_ S.size) 0 = (ByteArray.empty, S.extract at_ S.size, 5)) := by show _ = _; rw [HRB2.out, if_pos (.inl hb1)]
      go_wp2_with fail
      go_ret
      refine ⟨by rw [HE.out]; rfl, ⟨at_, ha, by rw [HE.out], ?_⟩, ((HC.out.trans (Ch.drewN _ _ _)).trans (Ch.set_ (by simp) _ _ _)).trans (Ch.set_ (by simp) _ _ _)⟩
      rw [HE.out]
      exact Blk.set_ (Blk.set_ (Blk.drewN HR.out _) 2 _) 1 _
    · by_cases hb2 : 4096 < (n : Int)
      · have HE : Hid (rBlob most (S.extract at_ S.size) 0 = (ByteArray.empty, S.extract at_ S.size, 5)) := by show _ = _; rw [HRB2.out, if_pos (.inr hb2)]
        go_wp2_with fail
        go_ret
        refine ⟨by rw [HE.out]; rfl, ⟨at_, ha, by rw [HE.out], ?_⟩, ((HC.out.trans (Ch.drewN _ _ _)).trans (Ch.set_ (by simp) _ _ _)).trans (Ch.set_ (by simp) _ _ _)⟩
        rw [HE.out]
        exact Blk.set_ (Blk.set_ (Blk.drewN HR.out _) 2 _) 1 _
      · have HC2 := Lib.hid (HC.out.trans (Ch.drewN [b] w1 nq))
        by_cases hb3 : (S.size : Int) - ((at_ + 2 : Nat) : Int) < (n : Int)
        · have HE : Hid (rBlob most (S.extract at_ S.size) 0 = (ByteArray.empty, S.extract at_ S.size, 3)) := by show _ = _; rw [HRB2.out, if_neg (by omega), if_pos hb3]
          have HB3 := Lib.hid hb3
          clear hb3
          go_wp2_with (go_at_call 61; refine (rtake_no b S (at_ + 2) 0 n _ HS.out (by omega) (by have := HN.out; omega) h2 (.inr HB3.out) (Blk.drewN HR.out _)).mono ?_; rintro ee w2 ⟨rfl, hr, hc⟩; have HR3 : Hid (RR w2 b S (at_ + 2) 3) := hr; have HC3 := Lib.hid hc; have d2 : w2.cell? ⟨b, 2, none⟩ = some (.int .i64 3) := Blk.cell HR3.out 2; have d1 : w2.cell? ⟨b, 1, none⟩ = some (.int .i64 ((at_ + 2 : Nat) : Int)) := Blk.cell HR3.out 1; have f3 : w2.frozen? ⟨b, 1, none⟩ = false := Blk.frozen HR3.out 1; clear hr hc)
          go_ret
          refine ⟨by rw [HE.out]; rfl, ⟨at_, ha, by rw [HE.out], ?_⟩, (HC2.out.trans HC3.out).trans (Ch.set_ (by simp) _ _ _)⟩
          rw [HE.out]
          exact Blk.set_ HR3.out 1 _
        · have HE : Hid (rBlob most (S.extract at_ S.size) 0 = (S.extract (at_ + 2) (at_ + 2 + n), S.extract (at_ + 2 + n) S.size, 0)) := by show _ = _; rw [HRB2.out, if_neg (by omega), if_neg hb3]
          have HB3 : Hid (at_ + 2 + n ≤ S.size) := by show _ ≤ _; omega
          clear hb3
          go_wp2_with (go_at_call 61; refine (rtake_ok b S (at_ + 2) n _ HS.out HB3.out (Blk.drewN HR.out _)).mono ?_; rintro ee w2 ⟨rfl, hr, hc⟩; have HR3 := Lib.hid hr; have HC3 := Lib.hid hc; have d2 : w2.cell? ⟨b, 2, none⟩ = some (.int .i64 0) := Blk.cell HR3.out 2; clear hr hc)
          go_ret
          refine ⟨by rw [HE.out]; rfl, ⟨at_ + 2 + n, HB3.out, by rw [HE.out], ?_⟩, HC2.out.trans HC3.out⟩
          rw [HE.out]
          exact HR3.out
theorem rrBlob_v (b : Nat) (S r r2 t : ByteArray) (at_ : Nat) (e e2 most : Int) (w : World) (hs : S.size ≤ maxLen) (ha : at_ ≤ S.size) (hx : S.extract at_ S.size = r) (h : RR w b S at_ e) (hb : rBlob most r e = (t, r2, e2)) :
    Calls Try.prog 45 #[.pointer (some ⟨b, 0, none⟩), .int .i64 most] w fun ee w' => ee = .returned (.string t) ∧ (∃ a, a ≤ S.size ∧ S.extract a S.size = r2 ∧ RR w' b S a e2) ∧ Ch [b] w w' := by
  have := rrBlob_any b S at_ e most w hs ha h
  unfold RB at this
  rwa [hx, hb] at this
theorem rend_v (b : Nat) (S r : ByteArray) (at_ : Nat) (e er : Int) (w : World) (hs : S.size ≤ maxLen) (ha : at_ ≤ S.size) (hx : S.extract at_ S.size = r) (h : RR w b S at_ e) (he : endE r e = er) :
    Calls Try.prog 46 #[.pointer (some ⟨b, 0, none⟩)] w fun ee w' => ee = .returned (.int .i64 er) ∧ ∃ n, w' = w.drewN n := by
  have := rend_any b S at_ e w hs ha h
  rwa [hx, he] at this
theorem RT.ch0 {w w' : World} {tr : Nat} {most : Int} {T : List KV} (h : RT w tr most T) (hc : Ch [] w w') : RT w' tr most T := by
  obtain ⟨A, c, hb, ho⟩ := h
  exact ⟨A, c, Blk.ch hb hc (by simp), Ch.owns hc ho (by simp)⟩
theorem RT.lt {w : World} {tr : Nat} {most : Int} {T : List KV} (h : RT w tr most T) : tr < w.heap.size := by
  obtain ⟨A, c, hb, _⟩ := h
  exact hb.lt
def RDoAt (w : World) (tr : Nat) (most : Int) (T : List KV) (s : ByteArray) (ee : Ending) (w' : World) : Prop := ee = .returned (.int .i64 (doE most T s)) ∧ RT w' tr most (doT most T s) ∧ Ch [tr] w w'
theorem rdo_err {w w' : World} {tr : Nat} {most : Int} {T : List KV} {s : ByteArray} {z : Int} (h : (pRec s).1 = z) (hz : z ≠ 0) (ht : RT w' tr most T) (hc : Ch [tr] w w') : RDoAt w tr most T s (.returned (.int .i64 z)) w' :=
  ⟨by rw [doE, h, if_pos hz], by rw [doT, h, if_pos hz]; exact ht, hc⟩
set_option maxRecDepth 100000 in
set_option maxHeartbeats 8000000 in
theorem rdo_any (tr : Nat) (most : Int) (T : List KV) (s : ByteArray) (w : World) (hs : s.size ≤ maxLen) (hT : okT T) (hsrt : Srt T) (h : RT w tr most T) :
    Calls Try.prog 28 #[.pointer (some ⟨tr, 0, none⟩), .string s] w (RDoAt w tr most T s) := by
  have H := Lib.hid h
  have htr := h.lt
  have HSR := Lib.hid hsrt
  have HS := Lib.hid hs
  have HT := Lib.hid hT
  clear h hsrt hs hT
  by_cases h0 : s.size = 0
  · have hp : (pRec s).1 = 3 := by rw [pRec, if_pos h0]
    have HP := Lib.hid hp
    have hl : s.toList = [] := by rw [Lib.toList_data]; exact List.eq_nil_of_length_eq_zero (by simpa using h0)
    have hl' : s.toList.isEmpty = true := by rw [hl]; rfl
    clear hp h0
    go_enter Try.func28, Try.ntmps28
    go_wp2_with fail
    go_ret
    exact rdo_err HP.out (by decide) H.out (Ch.refl _ _)
  · have hpos : 1 ≤ s.size := by omega
    have hz0 : 0 < s.size := by omega
    have hl : ¬ s.toList = [] := fun e => h0 (str_nil e)
    have hl' : s.toList.isEmpty = false := by simp [hl]
    have hby := byteI_at s 0 hz0
    by_cases hk : byteI s 0 = 80
    · have hp : pRec s = (let k := rBlob 64 (s.extract 1 s.size) 0
          let v := rBlob 2048 k.2.1 k.2.2
          if endE v.2.1 v.2.2 ≠ 0 then (endE v.2.1 v.2.2, ByteArray.empty, ByteArray.empty, 0)
          else if k.1.size = 0 then (4, ByteArray.empty, ByteArray.empty, 0)
          else (0, k.1, v.1, 80)) := by
        rw [pRec, if_neg h0, if_neg (by rw [hk]; decide)]
        simp only [hk, if_true]
      have hsz1 : (s.extract 1 s.size).size ≤ s.size := by rw [ByteArray.size_extract]; omega
      have hle := rBlob_le 64 (s.extract 1 s.size) 0
      generalize hkk : rBlob 64 (s.extract 1 s.size) 0 = kk at hp hle
      obtain ⟨k, s2, e2⟩ := kk
      dsimp only at hp hle
      have hle2 := rBlob_le 2048 s2 e2
      generalize hvv : rBlob 2048 s2 e2 = vv at hp hle2
      obtain ⟨v, s3, e3⟩ := vv
      dsimp only at hp hle2
      have hkm : k.size ≤ maxLen := by have := HS.out; omega
      have hvm : v.size ≤ maxLen := by have := HS.out; omega
      generalize hee : endE s3 e3 = er at hp
      have HK := Lib.hid hkk
      have HV := Lib.hid hvv
      have HE := Lib.hid hee
      have HPR := Lib.hid hp
      rw [hby] at hk
      have hq1 : ((s[0].toNat : Int) != 80) = false := by simpa using hk
      have hq2 : ((s[0].toNat : Int) == 80) = true := by simpa using hk
      clear hkk hvv hee hp hle hle2 hk hby hsz1 h0
      by_cases her : er = 0
      · have hb : (er != 0) = false := by simpa using her
        by_cases hkz : k.toList = []
        · have hke : k.toList.isEmpty = true := by simp [hkz]
          have HP : Hid ((pRec s).1 = 4) := by show _ = _; rw [HPR.out, if_neg (by simpa using her), if_pos (str_nil hkz)]
          clear her
          have h4 : (4 : Int) ≠ 0 := by decide
          have tok1 : True := trivial
          have tok3 : True := trivial
          have tok2 : True := trivial
          go_enter Try.func28, Try.ntmps28
          go_wp2_with (first
            | (go_at_call 45; have _t := tok1; refine (rrBlob_v w.heap.size s (s.extract 1 s.size) s2 k 1 0 e2 64 _ HS.out hpos rfl (Blk.new w _ _) HK.out).mono ?_; rintro ee w2 ⟨rfl, ⟨a2, ha2, hx2, hr⟩, hc⟩; have HR2 := Lib.hid hr; have HX2 := Lib.hid hx2; have HC2 := Lib.hid ((Ch.alloc [w.heap.size] w _).trans hc); clear hr hc hx2 tok1)
            | (go_at_call 45; have _t := tok2; refine (rrBlob_v w.heap.size s s2 s3 v a2 e2 e3 2048 _ HS.out ha2 HX2.out HR2.out HV.out).mono ?_; rintro ee w3 ⟨rfl, ⟨a3, ha3, hx3, hr⟩, hc⟩; have HR3 := Lib.hid hr; have HX3 := Lib.hid hx3; have HC3 := Lib.hid (HC2.out.trans hc); clear hr hc hx3 tok2)
            | (go_at_call 46; have _t := tok3; refine (rend_v w.heap.size s s3 a3 e3 er _ HS.out ha3 HX3.out HR3.out HE.out).mono ?_; rintro ee w' ⟨rfl, nn, rfl⟩; have HR4 := Lib.hid (Blk.drewN HR3.out nn); clear tok3)
              | (go_at_call 46; refine (rend_v w.heap.size s s3 a3 e3 er _ HS.out ha3 HX3.out HR4.out HE.out).mono ?_; rintro ee w' ⟨rfl, nn', rfl⟩))
          go_ret
          first
            | exact rdo_err HP.out (by assumption) (RT.ch0 H.out ((HC3.out.trans (Ch.drewN _ _ _)).mono (by simp))) ((HC3.out.trans (Ch.drewN _ _ _)).mono (by simp))
            | exact rdo_err HP.out (by assumption) (RT.ch0 H.out (((HC3.out.trans (Ch.drewN _ _ _)).trans (Ch.drewN _ _ _)).mono (by simp))) (((HC3.out.trans (Ch.drewN _ _ _)).trans (Ch.drewN _ _ _)).mono (by simp))
        · have hke : k.toList.isEmpty = false := by simp [hkz]
          have hks : ¬ k.size = 0 := fun e => hkz (by rw [Lib.toList_data]; exact List.eq_nil_of_length_eq_zero (by simpa using e))
          have HP : Hid (pRec s = (0, k, v, 80)) := by show _ = _; rw [HPR.out, if_neg (by simpa using her), if_neg hks]
          clear her hks
          have tok1 : True := trivial
          have tok3 : True := trivial
          have tok2 : True := trivial
          go_enter Try.func28, Try.ntmps28
          go_wp2_with (first
            | (go_at_call 45; have _t := tok1; refine (rrBlob_v w.heap.size s (s.extract 1 s.size) s2 k 1 0 e2 64 _ HS.out hpos rfl (Blk.new w _ _) HK.out).mono ?_; rintro ee w2 ⟨rfl, ⟨a2, ha2, hx2, hr⟩, hc⟩; have HR2 := Lib.hid hr; have HX2 := Lib.hid hx2; have HC2 := Lib.hid ((Ch.alloc [w.heap.size] w _).trans hc); clear hr hc hx2 tok1)
            | (go_at_call 45; have _t := tok2; refine (rrBlob_v w.heap.size s s2 s3 v a2 e2 e3 2048 _ HS.out ha2 HX2.out HR2.out HV.out).mono ?_; rintro ee w3 ⟨rfl, ⟨a3, ha3, hx3, hr⟩, hc⟩; have HR3 := Lib.hid hr; have HX3 := Lib.hid hx3; have HC3 := Lib.hid (HC2.out.trans hc); clear hr hc hx3 tok2)
            | (go_at_call 46; have _t := tok3; refine (rend_v w.heap.size s s3 a3 e3 er _ HS.out ha3 HX3.out HR3.out HE.out).mono ?_; rintro ee w' ⟨rfl, nn, rfl⟩; have HR4 := Lib.hid (Blk.drewN HR3.out nn); clear tok3)
              | (go_at_call 46; refine (rend_v w.heap.size s s3 a3 e3 er _ HS.out ha3 HX3.out HR4.out HE.out).mono ?_; rintro ee w' ⟨rfl, nn', rfl⟩)
            | (go_at_call 26; refine (rput_any tr most T k v _ hkm hvm HT.out HSR.out (RT.ch0 H.out ((HC3.out.trans (Ch.drewN _ _ _)).mono (by simp)))).mono ?_; rintro ee w5 ⟨rfl, ht, hc⟩; have HT5 := Lib.hid ht; have HC5 := Lib.hid hc; clear ht hc))
          go_ret
          refine ⟨ret_int (by rw [doE, HP.out]; rfl), by rw [doT, HP.out]; exact HT5.out, ?_⟩
          exact ((HC3.out.trans (Ch.drewN _ _ _)).mono (by simp)).trans HC5.out
      · have hb : (er != 0) = true := by simpa using her
        have HP : Hid ((pRec s).1 = er) := by show _ = _; rw [HPR.out, if_pos her]
        have tok1 : True := trivial
        have tok3 : True := trivial
        have tok2 : True := trivial
        go_enter Try.func28, Try.ntmps28
        go_wp2_with (first
          | (go_at_call 45; have _t := tok1; refine (rrBlob_v w.heap.size s (s.extract 1 s.size) s2 k 1 0 e2 64 _ HS.out hpos rfl (Blk.new w _ _) HK.out).mono ?_; rintro ee w2 ⟨rfl, ⟨a2, ha2, hx2, hr⟩, hc⟩; have HR2 := Lib.hid hr; have HX2 := Lib.hid hx2; have HC2 := Lib.hid ((Ch.alloc [w.heap.size] w _).trans hc); clear hr hc hx2 tok1)
          | (go_at_call 45; have _t := tok2; refine (rrBlob_v w.heap.size s s2 s3 v a2 e2 e3 2048 _ HS.out ha2 HX2.out HR2.out HV.out).mono ?_; rintro ee w3 ⟨rfl, ⟨a3, ha3, hx3, hr⟩, hc⟩; have HR3 := Lib.hid hr; have HX3 := Lib.hid hx3; have HC3 := Lib.hid (HC2.out.trans hc); clear hr hc hx3 tok2)
          | (go_at_call 46; have _t := tok3; refine (rend_v w.heap.size s s3 a3 e3 er _ HS.out ha3 HX3.out HR3.out HE.out).mono ?_; rintro ee w' ⟨rfl, nn, rfl⟩; have HR4 := Lib.hid (Blk.drewN HR3.out nn); clear tok3)
            | (go_at_call 46; refine (rend_v w.heap.size s s3 a3 e3 er _ HS.out ha3 HX3.out HR4.out HE.out).mono ?_; rintro ee w' ⟨rfl, nn', rfl⟩))
        go_ret
        first
          | exact rdo_err HP.out (by assumption) (RT.ch0 H.out ((HC3.out.trans (Ch.drewN _ _ _)).mono (by simp))) ((HC3.out.trans (Ch.drewN _ _ _)).mono (by simp))
          | exact rdo_err HP.out (by assumption) (RT.ch0 H.out (((HC3.out.trans (Ch.drewN _ _ _)).trans (Ch.drewN _ _ _)).mono (by simp))) (((HC3.out.trans (Ch.drewN _ _ _)).trans (Ch.drewN _ _ _)).mono (by simp))
    · by_cases hk2 : byteI s 0 = 68
      · have hp : pRec s = (let k := rBlob 64 (s.extract 1 s.size) 0
            if endE k.2.1 k.2.2 ≠ 0 then (endE k.2.1 k.2.2, ByteArray.empty, ByteArray.empty, 0)
            else if k.1.size = 0 then (4, ByteArray.empty, ByteArray.empty, 0)
            else (0, k.1, ByteArray.empty, 68)) := by
          rw [pRec, if_neg h0, if_neg (by rw [hk2]; decide)]
          simp only [if_neg hk]
          rw [hk2]
        have hsz1 : (s.extract 1 s.size).size ≤ s.size := by rw [ByteArray.size_extract]; omega
        have hle := rBlob_le 64 (s.extract 1 s.size) 0
        generalize hkk : rBlob 64 (s.extract 1 s.size) 0 = kk at hp hle
        obtain ⟨k, s2, e2⟩ := kk
        dsimp only at hp hle
        have hkm : k.size ≤ maxLen := by have := HS.out; omega
        generalize hee : endE s2 e2 = er at hp
        have HK := Lib.hid hkk
        have HE := Lib.hid hee
        have HPR := Lib.hid hp
        rw [hby] at hk hk2
        have hq1 : ((s[0].toNat : Int) != 80) = true := by simpa using hk
        have hq2 : ((s[0].toNat : Int) == 80) = false := by simpa using hk
        have hq3 : ((s[0].toNat : Int) != 68) = false := by simpa using hk2
        clear hkk hee hp hle hk hk2 hby hsz1 h0
        by_cases her : er = 0
        · have hb : (er != 0) = false := by simpa using her
          by_cases hkz : k.toList = []
          · have hke : k.toList.isEmpty = true := by simp [hkz]
            have HP : Hid ((pRec s).1 = 4) := by show _ = _; rw [HPR.out, if_neg (by simpa using her), if_pos (str_nil hkz)]
            clear her
            have h4 : (4 : Int) ≠ 0 := by decide
            have tok1 : True := trivial
            have tok3 : True := trivial
            have tok2 : True := trivial
            go_enter Try.func28, Try.ntmps28
            go_wp2_with (first
              | (go_at_call 45; have _t := tok1; refine (rrBlob_v w.heap.size s (s.extract 1 s.size) s2 k 1 0 e2 64 _ HS.out hpos rfl (Blk.new w _ _) HK.out).mono ?_; rintro ee w2 ⟨rfl, ⟨a2, ha2, hx2, hr⟩, hc⟩; have HR2 := Lib.hid hr; have HX2 := Lib.hid hx2; have HC2 := Lib.hid ((Ch.alloc [w.heap.size] w _).trans hc); clear hr hc hx2 tok1)
              | (go_at_call 46; have _t := tok3; refine (rend_v w.heap.size s s2 a2 e2 er _ HS.out ha2 HX2.out HR2.out HE.out).mono ?_; rintro ee w' ⟨rfl, nn, rfl⟩; have HR4 := Lib.hid (Blk.drewN HR2.out nn); clear tok3)
                | (go_at_call 46; refine (rend_v w.heap.size s s2 a2 e2 er _ HS.out ha2 HX2.out HR4.out HE.out).mono ?_; rintro ee w' ⟨rfl, nn', rfl⟩))
            go_ret
            first
              | exact rdo_err HP.out (by assumption) (RT.ch0 H.out ((HC2.out.trans (Ch.drewN _ _ _)).mono (by simp))) ((HC2.out.trans (Ch.drewN _ _ _)).mono (by simp))
              | exact rdo_err HP.out (by assumption) (RT.ch0 H.out (((HC2.out.trans (Ch.drewN _ _ _)).trans (Ch.drewN _ _ _)).mono (by simp))) (((HC2.out.trans (Ch.drewN _ _ _)).trans (Ch.drewN _ _ _)).mono (by simp))
          · have hke : k.toList.isEmpty = false := by simp [hkz]
            have hks : ¬ k.size = 0 := fun e => hkz (by rw [Lib.toList_data]; exact List.eq_nil_of_length_eq_zero (by simpa using e))
            have HP : Hid (pRec s = (0, k, ByteArray.empty, 68)) := by show _ = _; rw [HPR.out, if_neg (by simpa using her), if_neg hks]
            clear her hks
            have tok1 : True := trivial
            have tok3 : True := trivial
            have tok2 : True := trivial
            go_enter Try.func28, Try.ntmps28
            go_wp2_with (first
              | (go_at_call 45; have _t := tok1; refine (rrBlob_v w.heap.size s (s.extract 1 s.size) s2 k 1 0 e2 64 _ HS.out hpos rfl (Blk.new w _ _) HK.out).mono ?_; rintro ee w2 ⟨rfl, ⟨a2, ha2, hx2, hr⟩, hc⟩; have HR2 := Lib.hid hr; have HX2 := Lib.hid hx2; have HC2 := Lib.hid ((Ch.alloc [w.heap.size] w _).trans hc); clear hr hc hx2 tok1)
              | (go_at_call 46; have _t := tok3; refine (rend_v w.heap.size s s2 a2 e2 er _ HS.out ha2 HX2.out HR2.out HE.out).mono ?_; rintro ee w' ⟨rfl, nn, rfl⟩; have HR4 := Lib.hid (Blk.drewN HR2.out nn); clear tok3)
                | (go_at_call 46; refine (rend_v w.heap.size s s2 a2 e2 er _ HS.out ha2 HX2.out HR4.out HE.out).mono ?_; rintro ee w' ⟨rfl, nn', rfl⟩)
              | (go_at_call 27; refine (rdel_any tr most T k _ hkm HT.out HSR.out (RT.ch0 H.out ((HC2.out.trans (Ch.drewN _ _ _)).mono (by simp)))).mono ?_; rintro ee w5 ⟨rfl, ht, hc⟩; have HT5 := Lib.hid ht; have HC5 := Lib.hid hc; clear ht hc))
            go_ret
            refine ⟨ret_int (by rw [doE, HP.out]; rfl), by rw [doT, HP.out]; exact HT5.out, ?_⟩
            exact ((HC2.out.trans (Ch.drewN _ _ _)).mono (by simp)).trans HC5.out
        · have hb : (er != 0) = true := by simpa using her
          have HP : Hid ((pRec s).1 = er) := by show _ = _; rw [HPR.out, if_pos her]
          have tok1 : True := trivial
          have tok3 : True := trivial
          have tok2 : True := trivial
          go_enter Try.func28, Try.ntmps28
          go_wp2_with (first
            | (go_at_call 45; have _t := tok1; refine (rrBlob_v w.heap.size s (s.extract 1 s.size) s2 k 1 0 e2 64 _ HS.out hpos rfl (Blk.new w _ _) HK.out).mono ?_; rintro ee w2 ⟨rfl, ⟨a2, ha2, hx2, hr⟩, hc⟩; have HR2 := Lib.hid hr; have HX2 := Lib.hid hx2; have HC2 := Lib.hid ((Ch.alloc [w.heap.size] w _).trans hc); clear hr hc hx2 tok1)
            | (go_at_call 46; have _t := tok3; refine (rend_v w.heap.size s s2 a2 e2 er _ HS.out ha2 HX2.out HR2.out HE.out).mono ?_; rintro ee w' ⟨rfl, nn, rfl⟩; have HR4 := Lib.hid (Blk.drewN HR2.out nn); clear tok3)
              | (go_at_call 46; refine (rend_v w.heap.size s s2 a2 e2 er _ HS.out ha2 HX2.out HR4.out HE.out).mono ?_; rintro ee w' ⟨rfl, nn', rfl⟩))
          go_ret
          first
            | exact rdo_err HP.out (by assumption) (RT.ch0 H.out ((HC2.out.trans (Ch.drewN _ _ _)).mono (by simp))) ((HC2.out.trans (Ch.drewN _ _ _)).mono (by simp))
            | exact rdo_err HP.out (by assumption) (RT.ch0 H.out (((HC2.out.trans (Ch.drewN _ _ _)).trans (Ch.drewN _ _ _)).mono (by simp))) (((HC2.out.trans (Ch.drewN _ _ _)).trans (Ch.drewN _ _ _)).mono (by simp))
      · have hp : (pRec s).1 = 4 := by rw [pRec, if_neg h0, if_pos ⟨hk, hk2⟩]
        have HP := Lib.hid hp
        rw [hby] at hk hk2
        have hq1 : ((s[0].toNat : Int) != 80) = true := by simpa using hk
        have hq2 : ((s[0].toNat : Int) != 68) = true := by simpa using hk2
        clear hp hk hk2 hby h0
        go_enter Try.func28, Try.ntmps28
        go_wp2_with fail
        go_ret
        exact rdo_err HP.out (by decide) H.out (Ch.refl _ _)
end Go.Proofs.Ythmkoehocjfjgaa
