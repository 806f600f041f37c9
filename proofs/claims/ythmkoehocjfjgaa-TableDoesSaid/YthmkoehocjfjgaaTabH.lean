/- codec.Reader: End; table.Table: Do. -/
import Derived.Test.YthmkoehocjfjgaaTabG

namespace Go.Proofs.Ythmkoehocjfjgaa
open Go.RowKit Go.Maps Go.WideMaps

def endE (s : ByteArray) (e : Int) : Int := if e = 0 ∧ s.size ≠ 0 then 4 else e
set_option maxRecDepth 100000 in
set_option maxHeartbeats 400000 in
theorem end_any (b : Nat) (s : ByteArray) (e : Int) (w : World) (h : RdAt w b s e) :
    Calls Try.prog 41 #[.pointer (some ⟨b, 0, none⟩)] w fun ee w' => ee = .returned (.int .i64 (endE s e)) ∧ w = w' := by
  have c0 : w.cell? ⟨b, 0, none⟩ = some (.string s) := Blk.cell h 0
  have c1 : w.cell? ⟨b, 1, none⟩ = some (.int .i64 e) := Blk.cell h 1
  have HE : Hid (endE s e = if e = 0 ∧ s.size ≠ 0 then 4 else e) := rfl
  generalize endE s e = ee at HE ⊢
  clear h
  by_cases he : e = 0
  · subst he
    by_cases hs : s.toList = []
    · have hs' : (!s.toList.isEmpty) = false := by rw [hs]; rfl
      rw [show ee = 0 by rw [HE.out, if_neg]; exact fun h => h.2 (str_nil hs)]
      go_enter Try.func41, Try.ntmps41
      go_wp2
      go_ret
      exact ⟨rfl, rfl⟩
    · have hs' : (!s.toList.isEmpty) = true := by simp [hs]
      rw [show ee = 4 by rw [HE.out, if_pos]; exact ⟨rfl, by have := str_pos hs; omega⟩]
      go_enter Try.func41, Try.ntmps41
      go_wp2
      go_ret
      exact ⟨rfl, rfl⟩
  · have hb : (e == 0) = false := beq_eq_false_iff_ne.2 he
    rw [show ee = e by rw [HE.out, if_neg]; exact fun h => he h.1]
    clear he HE
    go_enter Try.func41, Try.ntmps41
    go_wp2
    go_ret
    exact ⟨rfl, rfl⟩
set_option maxRecDepth 100000 in
set_option maxHeartbeats 400000 in
theorem read_any (s : ByteArray) (w : World) :
    Calls Try.prog 38 #[.string s] w fun ee w' => ee = .returned (.pointer (some ⟨w.heap.size, 0, none⟩)) ∧ RdAt w' w.heap.size s 0 ∧ Below w.heap.size w w' := by
  go_enter Try.func38, Try.ntmps38
  go_wp2
  go_ret
  exact ⟨rfl, Blk.new w _ _, (Below.refl _ _).alloc (Nat.le_refl _) _⟩
theorem rBlob_le (most : Int) (s : ByteArray) (e : Int) : (rBlob most s e).1.size ≤ s.size ∧ (rBlob most s e).2.1.size ≤ s.size := by
  unfold rBlob
  split
  · simp
  · split
    · simp
    · split
      · simp
      · simp only [ByteArray.size_extract]; omega
/-- what a record says: what is wrong, the key, the value, the kind -/
def pRec (s : ByteArray) : Int × ByteArray × ByteArray × Int :=
  if s.size = 0 then (3, ByteArray.empty, ByteArray.empty, 0)
  else if byteI s 0 ≠ 80 ∧ byteI s 0 ≠ 68 then (4, ByteArray.empty, ByteArray.empty, 0)
  else
    let k := rBlob 64 (s.extract 1 s.size) 0
    let v := if byteI s 0 = 80 then rBlob 2048 k.2.1 k.2.2 else (ByteArray.empty, k.2.1, k.2.2)
    if endE v.2.1 v.2.2 ≠ 0 then (endE v.2.1 v.2.2, ByteArray.empty, ByteArray.empty, 0)
    else if k.1.size = 0 then (4, ByteArray.empty, ByteArray.empty, 0)
    else (0, k.1, v.1, byteI s 0)
def doE (most : Int) (T : List KV) (s : ByteArray) : Int := if (pRec s).1 ≠ 0 then (pRec s).1 else if (pRec s).2.2.2 = 80 then putE most (pRec s).2.1 (pRec s).2.2.1 T else delE (pRec s).2.1 T
def doT (most : Int) (T : List KV) (s : ByteArray) : List KV := if (pRec s).1 ≠ 0 then T else if (pRec s).2.2.2 = 80 then putR most (pRec s).2.1 (pRec s).2.2.1 T else delT (pRec s).2.1 T
def DoAt (w : World) (tb mb : Nat) (most : Int) (T : List KV) (s : ByteArray) (ee : Ending) (w' : World) : Prop := ee = .returned (.int .i64 (doE most T s)) ∧ TabAt w' tb mb most (doT most T s) ∧ Ch [mb] w w'
theorem doAt_err {w w' : World} {tb mb : Nat} {most : Int} {T : List KV} {s : ByteArray} {z : Int} (h : (pRec s).1 = z) (hz : z ≠ 0) (ht : TabAt w' tb mb most T) (hc : Ch [mb] w w') : DoAt w tb mb most T s (.returned (.int .i64 z)) w' :=
  ⟨by rw [doE, h, if_pos hz], by rw [doT, h, if_pos hz]; exact ht, hc⟩
set_option maxRecDepth 100000 in
set_option maxHeartbeats 1000000 in
theorem do_any (tb mb : Nat) (most : Int) (T : List KV) (s : ByteArray) (w : World) (hs : s.size ≤ maxLen) (hT : T.length ≤ 1000) (hsrt : Srt T) (h : TabAt w tb mb most T) :
    Calls Try.prog 15 #[.pointer (some ⟨tb, 0, none⟩), .string s] w (DoAt w tb mb most T s) := by
  have H := Lib.hid h
  have htb : tb < w.heap.size := h.1.lt
  have hmb : mb < w.heap.size := h.2.lt
  have HSR := Lib.hid hsrt
  clear h hsrt
  by_cases h0 : s.size = 0
  · have hp : (pRec s).1 = 3 := by rw [pRec, if_pos h0]
    have HP := Lib.hid hp
    have hl : s.toList = [] := by rw [Lib.toList_data]; exact List.eq_nil_of_length_eq_zero (by simpa using h0)
    have hl' : (!s.toList.isEmpty) = false := by rw [hl]; rfl
    have HZ := Lib.hid h0
    clear hp h0
    go_enter Try.func15, Try.ntmps15
    go_wp2_with (first
      | (go_at_call 38; refine (read_any s _).mono ?_; rintro ee w1 ⟨rfl, hr, hb⟩; have HR1 := Lib.hid hr; have HB1 := Lib.hid hb; clear hr hb)
      | (go_at_call 39; refine (rByte_no w.heap.size s 0 _ hs (.inr (by have := HZ.out; omega)) HR1.out).mono ?_; rintro ee w2 ⟨rfl, hr, hc⟩; have HR2 : Hid (RdAt w2 w.heap.size s 3) := hr; have HC2 := Lib.hid hc; clear hr hc)
      | (go_at_call 40; refine (rBlob_any w.heap.size s 3 64 _ hs HR2.out).mono ?_; rintro ee w3 ⟨rfl, hr, hc⟩; have HR3 : Hid (RdAt w3 w.heap.size s 3) := hr; have HC3 := Lib.hid hc; clear hr hc)
      | (go_at_call 41; refine (end_any w.heap.size s 3 _ HR3.out).mono ?_; rintro ee w4 ⟨rfl, rfl⟩; (have e : endE s 3 = 3 := rfl); rw [e]; clear e))
    go_ret
    have hc : Ch [w.heap.size] w w3 := ((Ch.of_below HB1.out _).trans HC2.out).trans HC3.out
    exact doAt_err HP.out (by decide) (H.out.ch hc (by simp; omega) (by simp; omega)) (hc.mono (by simp))
  · have hpos : 0 < s.size := by omega
    have hl : ¬ s.toList = [] := fun e => h0 (str_nil e)
    have hl' : (!s.toList.isEmpty) = true := by simp [hl]
    have hs1 : (s.extract 1 s.size).size ≤ maxLen := by rw [ByteArray.size_extract]; omega
    by_cases hk : byteI s 0 = 80
    · have hp : pRec s = (let k := rBlob 64 (s.extract 1 s.size) 0
          let v := rBlob 2048 k.2.1 k.2.2
          if endE v.2.1 v.2.2 ≠ 0 then (endE v.2.1 v.2.2, ByteArray.empty, ByteArray.empty, 0)
          else if k.1.size = 0 then (4, ByteArray.empty, ByteArray.empty, 0)
          else (0, k.1, v.1, 80)) := by
        rw [pRec, if_neg h0, if_neg (by rw [hk]; decide)]
        simp only [hk, if_true]
      have hle := rBlob_le 64 (s.extract 1 s.size) 0
      have k1 := fun (W : World) (h : RdAt W w.heap.size (s.extract 1 s.size) 0) => rBlob_any w.heap.size (s.extract 1 s.size) 0 64 W hs1 h
      generalize rBlob 64 (s.extract 1 s.size) 0 = kk at hp hle k1
      obtain ⟨k, s2, e2⟩ := kk
      dsimp only at hp hle k1
      have hs2 : s2.size ≤ maxLen := by omega
      have hkm : k.size ≤ maxLen := by omega
      have hle2 := rBlob_le 2048 s2 e2
      have k2 := fun (W : World) (h : RdAt W w.heap.size s2 e2) => rBlob_any w.heap.size s2 e2 2048 W hs2 h
      generalize rBlob 2048 s2 e2 = vv at hp hle2 k2
      obtain ⟨v, s3, e3⟩ := vv
      dsimp only at hp hle2 k2
      have hvm : v.size ≤ maxLen := by omega
      have k3 := fun (W : World) (h : RdAt W w.heap.size s3 e3) => end_any w.heap.size s3 e3 W h
      generalize endE s3 e3 = er at hp k3
      have K1 := Lib.hid k1
      have K2 := Lib.hid k2
      have K3 := Lib.hid k3
      have HP := Lib.hid hp
      have HB := Lib.hid hk
      clear k1 k2 k3 hp hle hle2 h0 hk
      by_cases her : er = 0
      · subst her
        by_cases hkz : k.toList = []
        · have HE : Hid ((pRec s).1 = 4) := by show _ = _; rw [HP.out, if_neg (by decide), if_pos (str_nil hkz)]
          clear HP
          have tok1 : True := trivial
          have tok2 : True := trivial
          go_enter Try.func15, Try.ntmps15
          go_wp2_with (first
            | (go_at_call 38; refine (read_any s _).mono ?_; rintro ee w1 ⟨rfl, hr, hb⟩; have HR1 := Lib.hid hr; have HB1 := Lib.hid hb; clear hr hb)
            | (go_at_call 39; refine (rByte_ok w.heap.size s _ hs hpos HR1.out).mono ?_; rintro ee w2 ⟨rfl, hr, hc⟩; rw [HB.out]; have HR2 := Lib.hid hr; have HC2 := Lib.hid hc; clear hr hc)
            | (go_at_call 40; have _t := tok1; refine (K1.out _ HR2.out).mono ?_; rintro ee w3 ⟨rfl, hr, hc⟩; have HR3 := Lib.hid hr; have HC3 := Lib.hid hc; clear hr hc tok1)
            | (go_at_call 40; have _t := tok2; refine (K2.out _ HR3.out).mono ?_; rintro ee w4 ⟨rfl, hr, hc⟩; have HR4 := Lib.hid hr; have HC4 := Lib.hid hc; clear hr hc tok2)
            | (go_at_call 41; refine (K3.out _ HR4.out).mono ?_; rintro ee w5 ⟨rfl, rfl⟩))
          go_ret
          have hc : Ch [w.heap.size] w w4 := (((Ch.of_below HB1.out _).trans HC2.out).trans HC3.out).trans HC4.out
          exact doAt_err HE.out (by decide) (H.out.ch hc (by simp; omega) (by simp; omega)) (hc.mono (by simp))
        · have hkz' : k.toList.isEmpty = false := by simp [hkz]
          have HE : Hid (pRec s = (0, k, v, 80)) := by show _ = _; rw [HP.out, if_neg (by decide), if_neg (by have := str_pos hkz; omega)]
          clear HP
          have tok1 : True := trivial
          have tok2 : True := trivial
          go_enter Try.func15, Try.ntmps15
          go_wp2_with (first
            | (go_at_call 38; refine (read_any s _).mono ?_; rintro ee w1 ⟨rfl, hr, hb⟩; have HR1 := Lib.hid hr; have HB1 := Lib.hid hb; clear hr hb)
            | (go_at_call 39; refine (rByte_ok w.heap.size s _ hs hpos HR1.out).mono ?_; rintro ee w2 ⟨rfl, hr, hc⟩; rw [HB.out]; have HR2 := Lib.hid hr; have HC2 := Lib.hid hc; clear hr hc)
            | (go_at_call 40; have _t := tok1; refine (K1.out _ HR2.out).mono ?_; rintro ee w3 ⟨rfl, hr, hc⟩; have HR3 := Lib.hid hr; have HC3 := Lib.hid hc; clear hr hc tok1)
            | (go_at_call 40; have _t := tok2; refine (K2.out _ HR3.out).mono ?_; rintro ee w4 ⟨rfl, hr, hc⟩; have HR4 := Lib.hid hr; have HC4 := Lib.hid hc; clear hr hc tok2)
            | (go_at_call 41; refine (K3.out _ HR4.out).mono ?_; rintro ee w5 ⟨rfl, rfl⟩)
            | (go_at_call 14; refine (put_any tb mb most T k v _ hkm hvm hT HSR.out (H.out.ch ((((Ch.of_below HB1.out [w.heap.size]).trans HC2.out).trans HC3.out).trans HC4.out) (by simp; omega) (by simp; omega))).mono ?_; rintro ee w6 ⟨rfl, ht6, hc6⟩; have HT6 := Lib.hid ht6; have HC6 := Lib.hid hc6; clear ht6 hc6))
          go_ret
          have hc : Ch [] w w4 := ((((Ch.of_below HB1.out _).trans HC2.out).trans HC3.out).trans HC4.out).mono (by simp)
          refine ⟨?_, ?_, (hc.mono (by simp)).trans HC6.out⟩
          · simp only [doE, HE.out]; simp
          · simp only [doT, HE.out]; simpa using HT6.out
      · have HE : Hid ((pRec s).1 = er) := by show _ = _; rw [HP.out, if_pos her]
        have hne : ((er : Int) == 0) = false := beq_eq_false_iff_ne.2 her
        have hne' : ((er : Int) != 0) = true := by rw [bne_iff_ne]; exact her
        have HER := Lib.hid her
        clear HP her
        have tok1 : True := trivial
        have tok2 : True := trivial
        go_enter Try.func15, Try.ntmps15
        go_wp2_with (first
          | (go_at_call 38; refine (read_any s _).mono ?_; rintro ee w1 ⟨rfl, hr, hb⟩; have HR1 := Lib.hid hr; have HB1 := Lib.hid hb; clear hr hb)
          | (go_at_call 39; refine (rByte_ok w.heap.size s _ hs hpos HR1.out).mono ?_; rintro ee w2 ⟨rfl, hr, hc⟩; rw [HB.out]; have HR2 := Lib.hid hr; have HC2 := Lib.hid hc; clear hr hc)
          | (go_at_call 40; have _t := tok1; refine (K1.out _ HR2.out).mono ?_; rintro ee w3 ⟨rfl, hr, hc⟩; have HR3 := Lib.hid hr; have HC3 := Lib.hid hc; clear hr hc tok1)
          | (go_at_call 40; have _t := tok2; refine (K2.out _ HR3.out).mono ?_; rintro ee w4 ⟨rfl, hr, hc⟩; have HR4 := Lib.hid hr; have HC4 := Lib.hid hc; clear hr hc tok2)
          | (go_at_call 41; refine (K3.out _ HR4.out).mono ?_; rintro ee w5 ⟨rfl, rfl⟩))
        go_ret
        have hc : Ch [w.heap.size] w w4 := (((Ch.of_below HB1.out _).trans HC2.out).trans HC3.out).trans HC4.out
        exact doAt_err HE.out HER.out (H.out.ch hc (by simp; omega) (by simp; omega)) (hc.mono (by simp))
    · by_cases hk : byteI s 0 = 68
      · have hp : pRec s = (let k := rBlob 64 (s.extract 1 s.size) 0
            if endE k.2.1 k.2.2 ≠ 0 then (endE k.2.1 k.2.2, ByteArray.empty, ByteArray.empty, 0)
            else if k.1.size = 0 then (4, ByteArray.empty, ByteArray.empty, 0)
            else (0, k.1, ByteArray.empty, 68)) := by
          rw [pRec, if_neg h0, if_neg (by rw [hk]; decide)]
          simp [hk]
        have hle := rBlob_le 64 (s.extract 1 s.size) 0
        have k1 := fun (W : World) (h : RdAt W w.heap.size (s.extract 1 s.size) 0) => rBlob_any w.heap.size (s.extract 1 s.size) 0 64 W hs1 h
        generalize rBlob 64 (s.extract 1 s.size) 0 = kk at hp hle k1
        obtain ⟨k, s2, e2⟩ := kk
        dsimp only at hp hle k1
        have hs2 : s2.size ≤ maxLen := by omega
        have hkm : k.size ≤ maxLen := by omega
        have k3 := fun (W : World) (h : RdAt W w.heap.size s2 e2) => end_any w.heap.size s2 e2 W h
        generalize endE s2 e2 = er at hp k3
        have K1 := Lib.hid k1
        have K3 := Lib.hid k3
        have HP := Lib.hid hp
        have HB := Lib.hid hk
        clear k1 k3 hp hle h0 hk
        by_cases her : er = 0
        · subst her
          by_cases hkz : k.toList = []
          · have HE : Hid ((pRec s).1 = 4) := by show _ = _; rw [HP.out, if_neg (by decide), if_pos (str_nil hkz)]
            clear HP
            have tok1 : True := trivial
            have tok2 : True := trivial
            go_enter Try.func15, Try.ntmps15
            go_wp2_with (first
              | (go_at_call 38; refine (read_any s _).mono ?_; rintro ee w1 ⟨rfl, hr, hb⟩; have HR1 := Lib.hid hr; have HB1 := Lib.hid hb; clear hr hb)
              | (go_at_call 39; refine (rByte_ok w.heap.size s _ hs hpos HR1.out).mono ?_; rintro ee w2 ⟨rfl, hr, hc⟩; rw [HB.out]; have HR2 := Lib.hid hr; have HC2 := Lib.hid hc; clear hr hc)
              | (go_at_call 40; have _t := tok1; refine (K1.out _ HR2.out).mono ?_; rintro ee w3 ⟨rfl, hr, hc⟩; have HR3 := Lib.hid hr; have HC3 := Lib.hid hc; clear hr hc tok1)
              | (go_at_call 41; refine (K3.out _ HR3.out).mono ?_; rintro ee w5 ⟨rfl, rfl⟩))
            go_ret
            have hc : Ch [w.heap.size] w w3 := ((Ch.of_below HB1.out _).trans HC2.out).trans HC3.out
            exact doAt_err HE.out (by decide) (H.out.ch hc (by simp; omega) (by simp; omega)) (hc.mono (by simp))
          · have hkz' : k.toList.isEmpty = false := by simp [hkz]
            have HE : Hid (pRec s = (0, k, ByteArray.empty, 68)) := by show _ = _; rw [HP.out, if_neg (by decide), if_neg (by have := str_pos hkz; omega)]
            clear HP
            have tok1 : True := trivial
            have tok2 : True := trivial
            go_enter Try.func15, Try.ntmps15
            go_wp2_with (first
              | (go_at_call 38; refine (read_any s _).mono ?_; rintro ee w1 ⟨rfl, hr, hb⟩; have HR1 := Lib.hid hr; have HB1 := Lib.hid hb; clear hr hb)
              | (go_at_call 39; refine (rByte_ok w.heap.size s _ hs hpos HR1.out).mono ?_; rintro ee w2 ⟨rfl, hr, hc⟩; rw [HB.out]; have HR2 := Lib.hid hr; have HC2 := Lib.hid hc; clear hr hc)
              | (go_at_call 40; have _t := tok1; refine (K1.out _ HR2.out).mono ?_; rintro ee w3 ⟨rfl, hr, hc⟩; have HR3 := Lib.hid hr; have HC3 := Lib.hid hc; clear hr hc tok1)
              | (go_at_call 41; refine (K3.out _ HR3.out).mono ?_; rintro ee w5 ⟨rfl, rfl⟩)
              | (go_at_call 16; refine (del_any tb mb most T k _ hkm (H.out.ch (((Ch.of_below HB1.out [w.heap.size]).trans HC2.out).trans HC3.out) (by simp; omega) (by simp; omega))).mono ?_; rintro ee w6 ⟨rfl, ht6, hc6⟩; have HT6 := Lib.hid ht6; have HC6 := Lib.hid hc6; clear ht6 hc6))
            go_ret
            have hc : Ch [] w w3 := (((Ch.of_below HB1.out _).trans HC2.out).trans HC3.out).mono (by simp)
            refine ⟨?_, ?_, (hc.mono (by simp)).trans HC6.out⟩
            · simp only [doE, HE.out]; simp
            · simp only [doT, HE.out]; simpa using HT6.out
        · have HE : Hid ((pRec s).1 = er) := by show _ = _; rw [HP.out, if_pos her]
          have hne : ((er : Int) == 0) = false := beq_eq_false_iff_ne.2 her
          have hne' : ((er : Int) != 0) = true := by rw [bne_iff_ne]; exact her
          have HER := Lib.hid her
          clear HP her
          have tok1 : True := trivial
          have tok2 : True := trivial
          go_enter Try.func15, Try.ntmps15
          go_wp2_with (first
            | (go_at_call 38; refine (read_any s _).mono ?_; rintro ee w1 ⟨rfl, hr, hb⟩; have HR1 := Lib.hid hr; have HB1 := Lib.hid hb; clear hr hb)
            | (go_at_call 39; refine (rByte_ok w.heap.size s _ hs hpos HR1.out).mono ?_; rintro ee w2 ⟨rfl, hr, hc⟩; rw [HB.out]; have HR2 := Lib.hid hr; have HC2 := Lib.hid hc; clear hr hc)
            | (go_at_call 40; have _t := tok1; refine (K1.out _ HR2.out).mono ?_; rintro ee w3 ⟨rfl, hr, hc⟩; have HR3 := Lib.hid hr; have HC3 := Lib.hid hc; clear hr hc tok1)
            | (go_at_call 41; refine (K3.out _ HR3.out).mono ?_; rintro ee w5 ⟨rfl, rfl⟩))
          go_ret
          have hc : Ch [w.heap.size] w w3 := ((Ch.of_below HB1.out _).trans HC2.out).trans HC3.out
          exact doAt_err HE.out HER.out (H.out.ch hc (by simp; omega) (by simp; omega)) (hc.mono (by simp))
      · have hne1 : ((byteI s 0 : Int) != 80) = true := by rw [bne_iff_ne]; assumption
        have hne2 : ((byteI s 0 : Int) != 68) = true := by rw [bne_iff_ne]; exact hk
        have HE : Hid ((pRec s).1 = 4) := by show _ = _; rw [pRec, if_neg h0, if_pos ⟨by assumption, hk⟩]
        generalize hkb : byteI s 0 = kb at hne1 hne2 hk
        have HB := Lib.hid hkb
        clear hkb hk h0
        have tok1 : True := trivial
        have tok2 : True := trivial
        go_enter Try.func15, Try.ntmps15
        go_wp2_with (first
          | (go_at_call 38; refine (read_any s _).mono ?_; rintro ee w1 ⟨rfl, hr, hb⟩; have HR1 := Lib.hid hr; have HB1 := Lib.hid hb; clear hr hb)
          | (go_at_call 39; refine (rByte_ok w.heap.size s _ hs hpos HR1.out).mono ?_; rintro ee w2 ⟨rfl, hr, hc⟩; rw [HB.out]; have HR2 := Lib.hid hr; have HC2 := Lib.hid hc; clear hr hc))
        go_ret
        have hc : Ch [w.heap.size] w w2 := (Ch.of_below HB1.out _).trans HC2.out
        exact doAt_err HE.out (by decide) (H.out.ch hc (by simp; omega) (by simp; omega)) (hc.mono (by simp))
end Go.Proofs.Ythmkoehocjfjgaa
