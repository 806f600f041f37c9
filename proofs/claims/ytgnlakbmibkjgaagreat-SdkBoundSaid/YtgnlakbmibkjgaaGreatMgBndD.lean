/- SdkBound: the walk. -/
import Derived.Outline
import Derived.Deep.RegionHeld3
import Derived.Deep.AppendLies
import Derived.Deep.DeepCutAuto
import Derived.Deep.CutBlock
import Derived.Test.YtgnlakbmibkjgaaGreatMgBndE
import Derived.Test.YtgnlakbmibkjgaaGreatMgLotF
import Derived.Test.YtgnlakbmibkjgaaGreatMgSdkC
set_option linter.unusedVariables false
set_option linter.unusedSimpArgs false
namespace Go.Proofs.YtgnlakbmibkjgaaGreat
open Go.RowKit Go.Maps
def lkB (sd : ByteArray) : Lk := ⟨500, rootB sd 4, rootB sd 4, 50, tokB sd 20 0, 7, 20⟩
theorem lkB_ok (sd : ByteArray) : (lkB sd).ok := ⟨by simp [lkB], rootB_size _ _, rootB_size _ _, by simp [lkB], tokB_size _ _ _, by simp [lkB], by simp [lkB]⟩
def shC (p q r u : Nat) : Array Value := #[.int .u8 (p : Nat), .int .u8 (q : Nat), .int .u8 (r : Nat), .int .u8 (u : Nat)]
def Lens (k next : Nat) (V : List (Nat × Nat)) (T : List ByteArray) (Wi : List Wn) (O : List Of) : Prop := V.length ≤ k ∧ (T.length ≤ k + 1 ∧ 0 < T.length) ∧ Wi.length ≤ k ∧ O.length ≤ k ∧ next ≤ k + 1 ∧ ∀ o ∈ O, o.face ≤ 100
theorem Lens.more {k k' next : Nat} {V : List (Nat × Nat)} {T : List ByteArray} {Wi : List Wn} {O : List Of} (h : Lens k next V T Wi O) (hk : k ≤ k') : Lens k' next V T Wi O := by
  obtain ⟨h1, ⟨h2, h3⟩, h4, h5, h6, h7⟩ := h
  exact ⟨by omega, ⟨by omega, h3⟩, by omega, by omega, by omega, h7⟩
theorem Lens.addV {k next : Nat} {V : List (Nat × Nat)} {T : List ByteArray} {Wi : List Wn} {O : List Of} {p : Nat × Nat} (h : Lens k next V T Wi O) : Lens (k + 1) next (V ++ [p]) T Wi O := by
  obtain ⟨h1, ⟨h2, h3⟩, h4, h5, h6, h7⟩ := h
  exact ⟨by simp; omega, ⟨by omega, h3⟩, by omega, by omega, by omega, h7⟩
theorem Lens.addT {k next : Nat} {V : List (Nat × Nat)} {T : List ByteArray} {Wi : List Wn} {O : List Of} {p : ByteArray} (h : Lens k next V T Wi O) : Lens (k + 1) next V (T ++ [p]) Wi O := by
  obtain ⟨h1, ⟨h2, h3⟩, h4, h5, h6, h7⟩ := h
  exact ⟨by omega, ⟨by simp; omega, by simp⟩, by omega, by omega, by omega, h7⟩
theorem Lens.addO {k next : Nat} {V : List (Nat × Nat)} {T : List ByteArray} {Wi : List Wn} {O : List Of} {o : Of} (h : Lens k next V T Wi O) (ho : o.face ≤ 100) : Lens (k + 1) (next + 1) V T Wi (O ++ [o]) := by
  obtain ⟨h1, ⟨h2, h3⟩, h4, h5, h6, h7⟩ := h
  exact ⟨by omega, ⟨by omega, h3⟩, by omega, by simp; omega, by omega, fun x hx => by
    rcases List.mem_append.1 hx with hx | hx
    · exact h7 x hx
    · simp at hx; subst hx; exact ho⟩
theorem Lens.addOW {k next : Nat} {V : List (Nat × Nat)} {T : List ByteArray} {Wi : List Wn} {O : List Of} {o : Of} {x : Wn} (h : Lens k next V T Wi O) (ho : o.face ≤ 100) : Lens (k + 1) (next + 1) V T (Wi ++ [x]) (O ++ [o]) := by
  obtain ⟨h1, h2, h3, h4⟩ := h.addO ho
  obtain ⟨_, _, h3', _⟩ := h
  exact ⟨h1, h2, by simp; omega, h4⟩
theorem mkO_ok (ch salt : ByteArray) (next face raw : Nat) (h1 : next < 18446744073709551616) (h2 : face < 18446744073709551616) : Of.ok { mkO ch salt next face 1 1 raw with salt := ByteArray.empty, drawn := 0, taken := false } :=
  ⟨h1, h2, ⟨by show 1 ≤ 1; omega, by show 1 ≤ 4294967296; omega⟩, by show 1 ≤ 1; omega, by show face * 1 % 1 = 0; omega⟩
/-- an offer that was made -/
structure MkO (nm : ByteArray) (next fc : Nat) (o : Of) : Prop where
  ch : o.ch = nm
  ser : o.ser = next
  face : o.face = fc
  wins : o.wins = 1
  many : o.many = 1
  com : o.com = comB o.salt o.drawn
  drawn : o.drawn = 0
  salt : o.salt.size ≤ 32
  lt : next < 18446744073709551616 ∧ fc < 18446744073709551616
theorem mkO_is (nm salt : ByteArray) (next fc q : Nat) (h1 : next < 18446744073709551616) (h2 : fc < 18446744073709551616) (h3 : salt.size ≤ 32) : MkO nm next fc (mkO nm salt next fc 1 1 q) :=
  ⟨rfl, rfl, rfl, rfl, rfl, rfl, Nat.mod_one q, h3, h1, h2⟩
structure ShO (nm : ByteArray) (o os : Of) : Prop where
  ok : os.ok
  ch : os.ch = nm
  ser : os.ser = o.ser
  face : os.face = o.face
  wins : os.wins = 1
  many : os.many = 1
  com : os.com = comB o.salt o.drawn
theorem shown_is {nm : ByteArray} {next fc : Nat} {o os : Of} (h : MkO nm next fc o) (he : os = { o with salt := ByteArray.empty, drawn := 0, taken := false }) : ShO nm o os := by
  subst he
  exact ⟨⟨by show o.ser < _; rw [h.ser]; exact h.lt.1, by show o.face < _; rw [h.face]; exact h.lt.2, by show 1 ≤ o.many ∧ o.many ≤ _; rw [h.many]; omega, by show o.wins ≤ o.many; rw [h.wins, h.many]; omega, by show o.face * o.wins % o.many = 0; rw [h.many]; exact Nat.mod_one _⟩, h.ch, rfl, rfl, h.wins, h.many, h.com⟩
/-- the win that the client's ticket to it is -/
theorem win_is {sd nm : ByteArray} {next fc j cl : Nat} {o os : Of} {D : DU} (h : MkO nm next fc o) (hs : ShO nm o os) (hcl : cl < 18446744073709551616) (hj : j < 2 ^ 4) (hat : ∀ zd, D.atKey (ku os.ser) zd = .lit (ku os.face)) (hn : nm.size = 16) :
    (⟨(os.tk cl).signed (signB sd 4 j (textB (os.tk cl))), o.salt, o.drawn⟩ : Wn).t.ch = nm ∧ wonE (rootB sd 4) ⟨(os.tk cl).signed (signB sd 4 j (textB (os.tk cl))), o.salt, o.drawn⟩ = 0 ∧ (⟨(os.tk cl).signed (signB sd 4 j (textB (os.tk cl))), o.salt, o.drawn⟩ : Wn).fit ∧ wmayB ⟨(os.tk cl).signed (signB sd 4 j (textB (os.tk cl))), o.salt, o.drawn⟩ = true ∧ ∀ zd, D.atKey (ku (⟨(os.tk cl).signed (signB sd 4 j (textB (os.tk cl))), o.salt, o.drawn⟩ : Wn).t.ser) zd = .lit (ku (⟨(os.tk cl).signed (signB sd 4 j (textB (os.tk cl))), o.salt, o.drawn⟩ : Wn).t.face) := by
  have hz := signB_size sd hj (textB (os.tk cl))
  refine ⟨hs.ch, win_ok os cl o.drawn (by omega) hj hs.wins hs.many h.drawn (by rw [hs.ch]; exact hn) hs.com, ⟨hs.ok.ser, hs.ok.face, by show os.wins < _; rw [hs.wins]; decide, by show os.many < _; rw [hs.many]; decide, hcl, by show o.drawn < _; rw [h.drawn]; decide, by show o.salt.size ≤ _; have := h.salt; omega⟩, ?_, hat⟩
  have e1 : ((os.tk cl).signed (signB sd 4 j (textB (os.tk cl)))).ch.size = 16 := by show os.ch.size = 16; rw [hs.ch]; exact hn
  have e2 : ((os.tk cl).signed (signB sd 4 j (textB (os.tk cl)))).com.size = 16 := by show os.com.size = 16; rw [hs.com]; exact comB_size _ _
  have e3 : ((os.tk cl).signed (signB sd 4 j (textB (os.tk cl)))).sig.size ≤ 400 := by show (signB sd 4 j (textB (os.tk cl))).size ≤ 400; omega
  unfold wmayB tmayB
  show (decide (((os.tk cl).signed (signB sd 4 j (textB (os.tk cl)))).ch.size = 16) && decide (((os.tk cl).signed (signB sd 4 j (textB (os.tk cl)))).com.size = 16) && decide (((os.tk cl).signed (signB sd 4 j (textB (os.tk cl)))).sig.size ≤ 400) && decide (o.salt.size ≤ 32)) = true
  rw [e1, e2, decide_eq_true e3, decide_eq_true h.salt]; rfl
set_option maxRecDepth 100000 in
set_option maxHeartbeats 16000000 in
theorem bound_any (s : ByteArray) (A : Option Addr) (l : List Nat) (c : Nat) (z0 z1 z2 z3 : Nat) (w : World) (hs : s.size ≤ maxLen) (hl : l.length ≤ maxLen) (hch : ∀ x ∈ l, x < 4294967296) (hS : Sl w w.heap.size 1 encU A l) (hz0 : z0 < 256) (hz1 : z1 < 256) (hz2 : z2 < 256) (hz3 : z3 < 256)
    (HFIX : ∀ W, Calls Tryz.prog 22 #[] W fun e w' => e = .returned (.bool true) ∧ Below W.heap.size W w') :
    Calls Tryz.prog 5 #[.string s, .slice A l.length c, .agg (shC z0 z1 z2 z3)] w fun e w' => e = .returned (.bool true) ∧ Below w.heap.size w w' := by
  unfold maxLen at hs hl
  have HCH := Lib.hid hch
  have HS := Lib.hid hS
  obtain ⟨tx, htx⟩ : ∃ tx : ByteArray, tx = ⟨#[116, 116, 116, 116, 116, 116, 116, 116, 116, 116, 116, 116, 116, 116, 116, 116]⟩ := ⟨_, rfl⟩
  have htz : tx.size = 16 := by rw [htx]; rfl
  have HPL := fun W => Lib.hid (place_any W)
  rw [← htx] at HPL
  clear hch hS htx
  have HSH0 : Hid (Blk (w.alloc (.cells (shC z0 z1 z2 z3) 88)) w.heap.size 88 (shC z0 z1 z2 z3)) := Blk.new _ _ _
  have HB00 : Hid (Below w.heap.size w (w.alloc (.cells (shC z0 z1 z2 z3) 88))) := (Below.refl _ _).alloc (Nat.le_refl _) _
  obtain ⟨sh, hsh⟩ : ∃ sh, sh = shC z0 z1 z2 z3 := ⟨_, rfl⟩
  rw [← hsh] at HSH0 HB00 ⊢
  have HSHE := Lib.hid hsh
  clear hsh
  go_enter Tryz.func5, Tryz.ntmps5
  go_upto_region 1 with fail
  go_cut [0] from 30 to 34 (fun v wx => ∃ sd : ByteArray, v = .string sd ∧ sd.size ≤ 50 ∧ wx = w.alloc (.cells sh 88))
  case first =>
    by_cases h50 : s.size ≤ 50
    · go_wp2_with fail
      go_meet
      exact ⟨s, rfl, h50, rfl⟩
    · go_wp2_with fail
      go_meet
      exact ⟨s.extract 0 50, rfl, by rw [ByteArray.size_extract]; omega, rfl⟩
  case rest =>
    obtain ⟨sd, rfl, hsz, rfl⟩ := hcut
    have HNEW := fun W => Lib.hid (snew_any sd 4 20 W (by omega) (by omega) (by omega) (by omega))
    go_wp2_with fail
    refine (HNEW _).out.mono ?_
    rintro e V ⟨cb, kb, ctr, pb, mb, rfl, ⟨hcb, hct, hmb⟩, hz, hb0⟩
    have HC := Lib.hid hz
    have HSH := Lib.hid (HSH0.out.bel hb0)
    have HB := Lib.hid (HB00.out.trans (hb0.mono HB00.out.size))
    have hSW : ∀ x ∈ [cb, ctr, mb], w.heap.size ≤ x := by have := HB00.out.size; intro x hx; simp only [List.mem_cons, List.not_mem_nil, or_false] at hx; rcases hx with rfl | rfl | rfl <;> omega
    have HSW := Lib.hid hSW
    clear hSW HNEW hz hb0 hcb hct hmb HSH0 HB00
    go_wp2_with fail
    refine (HPL _).out.mono ?_
    rintro e V ⟨rfl, hb⟩
    replace HC := Lib.hid (HC.out.bel hb)
    replace HSH := Lib.hid (HSH.out.bel hb)
    replace HB := Lib.hid (HB.out.trans (hb.mono HB.out.size))
    clear hb
    go_wp2_with fail
    refine (zroot_any HC.out.at_).mono ?_
    rintro e V' ⟨rfl, hqq⟩
    rw [hqq]
    clear hqq V'
    go_wp2_with fail
    refine (zoutput_any HC.out.at_ (by omega) 500 50 7 (rootB sd 4)).mono ?_
    rintro e V ⟨rfl, hb⟩
    replace HC := Lib.hid (HC.out.bel hb)
    replace HSH := Lib.hid (HSH.out.bel hb)
    replace HB := Lib.hid (HB.out.trans (hb.mono HB.out.size))
    clear hb
    go_wp2_with (first
      | (refine wpList_store_part rfl 37 (.tmp 9) (.tmp 51) rfl V.heap.size 0 (cs := zEnt) (Blk.new _ _ _) (entC tx 1 (lkB sd)) (entC tx 1 (lkB sd)) (by rfl) (by rfl) (Nat.le_refl 11) infoEnt (entC_one _ _ _) ((over_full (entC tx 1 (lkB sd)).toList zEnt rfl).trans (Array.toArray_toList ..)) ?_; intro W1 hb1 hc1; have HEN := Lib.hid hb1; have hb := bel_st hc1; clear hb1 hc1)
      | (refine wpList_load_blk rfl 37 (.tmp 9) rfl _ 0 11 HEN.out (entC tx 1 (lkB sd)) (by rfl) (by rfl) Tryz.underlying37 infoEnt (Nat.le_refl 11) ?_))
    have hen : w.heap.size ≤ V.heap.size := HB.out.size
    generalize V.heap.size = en at HEN hen ⊢
    replace HC := Lib.hid (HC.out.bel hb)
    replace HSH := Lib.hid (HSH.out.bel hb)
    replace HB := Lib.hid (HB.out.trans (hb.mono HB.out.size))
    clear hb
    have hcl := HC.out.1
    refine (zattach_ok HC.out (by omega) tx 1 (lkB sd) (lkB_ok sd) rfl rfl rfl).mono ?_
    rintro e V ⟨rfl, hk, hc⟩
    replace HSH := Lib.hid (HSH.out.ch hc (by have := HSH.out.ne_ hcl (by decide); simpa using this))
    replace HEN := Lib.hid (HEN.out.ch hc (by have := HEN.out.ne_ hcl (by decide); simpa using this))
    replace hc := hc.mono (S' := [cb, ctr, mb]) (by simp <;> omega)
    replace HB := Lib.hid (HB.out.trans (hc.below HB.out.size HSW.out))
    replace HC : Hid (Cbd V cb kb ctr pb mb sd 4 20 tx 1 (lkB sd) 0 0 0 (.map []) 0 0) := ⟨hk, ⟨0, by simp [allD, sD, totI], by simp⟩, fun es he => by injection he with he; subst he; simp, by omega, Nat.le_of_eq rfl, by simp, by omega⟩
    have hlk := Lib.hid (lkB_ok sd)
    have hla : Hid ((lkB sd).am = 500) := rfl
    have hkey : Hid ((lkB sd).key = rootB sd 4) := rfl
    generalize hlE : lkB sd = lk at HC hlk hla hkey HEN
    have HLK := Lib.hid hlE
    have HR3 : Hid (R3 (((V.alloc (.cells #[] 45)).alloc (.cells #[.string ⟨#[]⟩] 9)).alloc (.cells #[] 97)) kb pb V.heap.size (.slice (some ⟨V.heap.size, 0, none⟩) 0 0) (.slice (some ⟨V.heap.size + 1, 0, none⟩) 1 1) (.slice (some ⟨V.heap.size + 1 + 1, 0, none⟩) 0 0)) := R3.make (Pin.of HC.out.cin)
    have HN := Lib.hid HB.out.size
    have hb : Below V.heap.size V (((V.alloc (.cells #[] 45)).alloc (.cells #[.string ⟨#[]⟩] 9)).alloc (.cells #[] 97)) := (((Below.refl _ _).alloc (Nat.le_refl _) _).alloc (by simp) _).alloc (by simp; omega) _
    clear hk hc hlE hcl
    go_wp2_with fail
    have hN3 := hb.size
    replace HEN := Lib.hid (HEN.out.bel hb)
    replace HC := Lib.hid (HC.out.bel hb)
    replace HSH := Lib.hid (HSH.out.bel hb)
    replace HB := Lib.hid (HB.out.trans (hb.mono HB.out.size))
    clear hb
    generalize ((V.alloc (.cells #[] 45)).alloc (.cells #[.string ⟨#[]⟩] 9)).alloc (.cells #[] 97) = V3 at HC HSH HEN HB HR3 hN3 ⊢
    generalize Value.slice (some ⟨V.heap.size, 0, none⟩) 0 0 = s1 at HR3 ⊢
    generalize Value.slice (some ⟨V.heap.size + 1, 0, none⟩) 1 1 = s2 at HR3 ⊢
    generalize Value.slice (some ⟨V.heap.size + 1 + 1, 0, none⟩) 0 0 = s3 at HR3 ⊢
    have HN0 : Hid (V.heap.size ≤ V3.heap.size) := Lib.hid hN3
    generalize V.heap.size = N at HN HR3 HN0
    clear V hN3
    refine (st_name HC.out.st (by omega) (by omega)).mono ?_
    rintro e V ⟨rfl, hb⟩
    replace HN0 := Lib.hid (Nat.le_trans HN0.out hb.size)
    replace HR3 := Lib.hid (HR3.out.bel hb)
    replace HEN := Lib.hid (HEN.out.bel hb)
    replace HC := Lib.hid (HC.out.bel hb)
    replace HSH := Lib.hid (HSH.out.bel hb)
    replace HB := Lib.hid (HB.out.trans (hb.mono HB.out.size))
    clear hb
    go_wp2_with fail
    refine (sroot_any HC.out.cin.at_).mono ?_
    rintro e V' ⟨rfl, hqq⟩
    rw [hqq]
    clear hqq V'
    go_wp2_with fail
    refine (lnew_own (nameB tx 1) (rootB sd 4) _ (nameB_size _ _) (rootB_size _ _)).mono ?_
    rintro e V ⟨bb, rfl, hbb, hbk, hb⟩
    have HNb : Hid (N ≤ bb) := Lib.hid (Nat.le_trans HN0.out hbb)
    replace HR3 := Lib.hid (HR3.out.bel hb)
    replace HEN := Lib.hid (HEN.out.bel hb)
    replace HC := Lib.hid (HC.out.bel hb)
    replace HSH := Lib.hid (HSH.out.bel hb)
    replace HB := Lib.hid (HB.out.trans (hb.mono HB.out.size))
    clear hb
    have HT : Hid (BSt V cb kb ctr pb mb bb N sd (nameB tx 1) tx lk 0 0 0 0 0 1 (.map []) [] [ByteArray.empty] [] [] s1 s2 s3) := ⟨HC.out, HR3.out.pin, hbk N, HR3.out.r1, HR3.out.r2, HR3.out.r3, ⟨by simp, by simp, by simp⟩⟩
    have HLN : Hid (Lens 0 1 [] [ByteArray.empty] [] []) := ⟨by simp, by simp, by simp, by simp, by omega, by simp⟩
    clear hbk hbb HC HR3 HN0
    have HFX := fun W => Lib.hid (HFIX W)
    have hnm := nameB_size tx 1
    obtain ⟨i0, hi, hy0, hy1, hy2⟩ := info_parts Tryz.infoOp'
    have Hhz := Lib.hid hy0
    obtain ⟨s0, hsi, hx0, hx1, hx2⟩ := info_parts Tryz.infoStr
    have Hsz := Lib.hid hx0
    obtain ⟨n0, hni, hw0, hw1, hw2⟩ := info_parts Tryz.infoWn'
    have Hnz := Lib.hid hw0
    clear hy0 hx0 hw0
    go_upto_block 0 with fail
    go_cut [10, 11, 12, 15] from 73 to 161 (fun v1 v2 v3 v4 wr => ∃ (k ii am tk b next : Nat) (D : DU) (VL : List (Nat × Nat)) (TL : List ByteArray) (WL : List Wn) (OL : List Of), k ≤ 12 ∧ Hid (Lens k next VL TL WL OL) ∧ Hid (BSt wr cb kb ctr pb mb bb N sd (nameB tx 1) tx lk k ii am tk b next D VL TL WL OL v1 v2 v3) ∧ Hid (Blk wr w.heap.size 88 sh) ∧ Hid (Blk wr en 37 (entC tx 1 lk)) ∧ Hid (Below w.heap.size w wr))
    case first =>
      go_wp2_with fail
      go_loopw [10, 11, 12, 15] (fun v1 v2 v3 i wr => ∃ (k ii am tk b next : Nat) (D : DU) (VL : List (Nat × Nat)) (TL : List ByteArray) (WL : List Wn) (OL : List Of), k ≤ l.length ∧ k ≤ 12 ∧ i = .int .i64 k ∧ Hid (Lens k next VL TL WL OL) ∧ Hid (BSt wr cb kb ctr pb mb bb N sd (nameB tx 1) tx lk k ii am tk b next D VL TL WL OL v1 v2 v3) ∧ Hid (Blk wr w.heap.size 88 sh) ∧ Hid (Blk wr en 37 (entC tx 1 lk)) ∧ Hid (Below w.heap.size w wr)) (fun _ _ _ i _ => l.length - (intOf i).toNat)
      case atStart => exact ⟨0, 0, 0, 0, 0, 1, _, _, _, _, _, Nat.zero_le _, Nat.zero_le _, rfl, HLN, HT, HSH, HEN, HB⟩
      case round =>
        clear HT HLN HB HSH HEN
        obtain ⟨k, ii, am, tk, b, next, D, VL, TL, WL, OL, hk, hk12, rfl, HLN, HT, HSH, HEN, HB⟩ := hrel
        obtain ⟨A1, c1, rfl⟩ := own_form HT.out.r1
        obtain ⟨A2, c2, rfl⟩ := own_form HT.out.r2
        obtain ⟨A3, c3, rfl⟩ := own_form HT.out.r3
        have hz := HB.out.size
        have hNz := HT.out.nle HNb.out
        obtain ⟨p1, ⟨p2, p3⟩, p4, p5, p6, p7⟩ := id HLN.out
        by_cases hlt : k < l.length ∧ k < 12
        · obtain ⟨hlt, hlt2⟩ := hlt
          obtain ⟨ab, off, rfl, hbB, hc⟩ := (HS.out.below HB.out).at_ hlt
          have hx := HCH.out _ (List.getElem_mem hlt)
          generalize l[k] = x at hc hx
          have hc0 : wr.cell? ⟨ab, off + k, none⟩ = some (.int .u32 x) := by have := hc 0 _ rfl; simpa using this
          clear hc
          obtain ⟨q, hq⟩ : ∃ q : Nat, (x : Int) / 4 = q := ⟨x / 4, by omega⟩
          obtain ⟨m0, hm0⟩ : ∃ m : Nat, (q : Int) % 100 = m := ⟨q % 100, by omega⟩
          obtain ⟨m1, hm1⟩ : ∃ m : Nat, (q : Int) % 5 = m := ⟨q % 5, by omega⟩
          have g0 : m0 < 100 := by omega
          have g1 : m1 < 5 := by omega
          have hqq : q < 1073741824 := by omega
          go_wp2_with fail
          · refine (pay_bd m0 HT.out.cl (by omega) hlk.out (by have := hla.out; omega) (by omega) (by omega) (by omega) (by omega) (by omega) (by omega)).mono ?_
            rintro e Z ⟨op, f, i2, am2, b2, rfl, hk2, hc2, hle, hop⟩
            replace HSH := Lib.hid (HT.out.cl.keeps hc2 HSH.out (by decide) (by decide))
            replace HEN := Lib.hid (HT.out.cl.keeps hc2 HEN.out (by decide) (by decide))
            replace HB := Lib.hid (HB.out.trans (hc2.below HB.out.size HSW.out))
            replace HT := Lib.hid (HT.out.client hc2 hk2 (HT.out.ok.mono hle (Nat.le_refl _) (fun _ _ h => h)))
            clear hk2 hc2
            have hNz := HT.out.nle HNb.out
            rcases hop with ⟨hf, hop⟩ | ⟨rfl, hpos, j, hj, hop⟩
            · have f1 : (f == 0) = false := beq_eq_false_iff_ne.2 hf
              have HO1 := Lib.hid (And.intro (show op.size = 27 by rw [hop]; rfl) (show op.all (·.oneCell') = true by rw [hop]; exact opP_one _ _ _ _))
              clear hf hop
              have hov := Lib.hid ((over_full op.toList (opP 0 ByteArray.empty 0 ByteArray.empty) (by rw [Array.length_toList, HO1.out.1]; rfl)).trans (Array.toArray_toList ..))
              go_wp2_with ((refine wpList_store_part rfl 45 (.tmp 17) (.tmp 132) rfl _ 0 (cs := opP 0 ByteArray.empty 0 ByteArray.empty) (Blk.new _ _ _) op op (by rfl) (by rfl) (by rw [HO1.out.1]; exact Nat.le_refl 27) (by rw [HO1.out.1]; exact infoOp) HO1.out.2 hov.out ?_; intro W1 hb1 hc1; have HA := Lib.hid hb1; have hb := bel_st hc1; skip; clear hb1 hc1))
              replace HT := Lib.hid (HT.out.bel hb)
              replace HEN := Lib.hid (HEN.out.bel hb)
              replace HSH := Lib.hid (HSH.out.bel hb)
              replace HB := Lib.hid (HB.out.trans (hb.mono HB.out.size))
              clear hb
              refine (st_bound HT.out.cl.st hlk.out (by omega) (by omega)).mono ?_
              rintro e Z ⟨rfl, hb⟩
              replace HT := Lib.hid (HT.out.bel hb)
              replace HEN := Lib.hid (HEN.out.bel hb)
              replace HSH := Lib.hid (HSH.out.bel hb)
              replace HB := Lib.hid (HB.out.trans (hb.mono HB.out.size))
              clear hb
              have hbd := HT.out.cl.bd
              rw [hla.out] at hbd
              go_wp2_with fail
              refine (st_whole HT.out.cl.st hlk.out 500 hla.out).mono ?_
              rintro e Z ⟨rfl, hb⟩
              replace HT := Lib.hid (HT.out.bel hb)
              replace HEN := Lib.hid (HEN.out.bel hb)
              replace HSH := Lib.hid (HSH.out.bel hb)
              replace HB := Lib.hid (HB.out.trans (hb.mono HB.out.size))
              clear hb
              go_wp2_with fail
              go_roundw
              case rel => exact ⟨k + 1, _, _, _, _, _, _, _, _, _, _, by omega, by omega, by go_num, Lib.hid (HLN.out.more (by omega)), Lib.hid (HT.out.more (by omega)), HSH, HEN, HB⟩
              case measure => simp [intOf]; omega
            · obtain ⟨sg, hsg⟩ : ∃ sg, sg = signB sd 4 j (vouchB (nameB tx 1) am2) := ⟨_, rfl⟩
              obtain ⟨nm2, hnm2⟩ : ∃ nm2, nm2 = nameB tx 1 := ⟨_, rfl⟩
              rw [← hsg, ← hnm2] at hop
              subst hop
              have HOP : Hid ((opP 2 nm2 am2 sg).toList = encVo sd (nameB tx 1) (am2, j)) := Lib.hid (by rw [hsg, hnm2]; rfl)
              have HO1 : Hid ((opP 2 nm2 am2 sg).size = 27 ∧ (opP 2 nm2 am2 sg).all (·.oneCell') = true) := Lib.hid ⟨rfl, opP_one _ _ _ _⟩
              have hov := Lib.hid (opP_over 0 ByteArray.empty 0 ByteArray.empty 2 nm2 am2 sg)
              clear hsg hnm2
              go_wp2_with (first
                | (refine wpList_store_part rfl 45 (.tmp 17) (.tmp 132) rfl _ 0 (cs := opP 0 ByteArray.empty 0 ByteArray.empty) (Blk.new _ _ _) (opP 2 nm2 am2 sg) (opP 2 nm2 am2 sg) (by rfl) (by rfl) (by rw [HO1.out.1]; exact Nat.le_refl 27) (by rw [HO1.out.1]; exact infoOp) HO1.out.2 hov.out ?_; intro W1 hb1 hc1; have HA := Lib.hid hb1; have hb := bel_st hc1; skip; clear hb1 hc1)
                | (refine wpList_load_blk rfl 45 (.tmp 17) rfl _ 0 27 HA.out #[.int .i64 (2 : Nat), .string nm2, .string ByteArray.empty, .int .i64 0, .int .i64 0, .int .u64 0, .string ByteArray.empty, .string ByteArray.empty, .int .i64 0, .string ByteArray.empty, .int .u64 0, .int .i64 0, .string ByteArray.empty, .int .u64 (am2 : Nat), .int .u64 0, .int .u64 0, .int .u64 0, .string sg, .string ByteArray.empty, .int .u64 0, .int .u64 0, .int .u64 0, .int .u64 0, .string ByteArray.empty, .int .u64 0, .string ByteArray.empty, .int .i64 0] (by rfl) (ext_full _ 27 rfl) Tryz.underlying45 infoOp (Nat.le_refl 27) ?_)
                | (at_builtin; go_must (refine wpList_append_own _ rfl (.tmp 136) (.tmp 138) _ rfl N 45 i0 _ 27 296 Tryz.underlying89 hi Hhz.out hy1 hy2 rfl (by decide) _ VL.length _ rfl ((HT.out.bel hb).r1.alloc _) ⟨W1.heap.size, 0, none⟩ 1 1 (opP 2 nm2 am2 sg).toList rfl rfl (World.news_of_block (cs := opP 2 nm2 am2 sg) (heap_alloc_new W1 _)) (one_all HO1.out.2) (by simp only [maxLen]; omega) (by omega) (by have := hb.size; simp; omega) ?_); intro v' W2 hown1 hg1 hnil1))
              replace HT := Lib.hid (HT.out.bel hb)
              replace HEN := Lib.hid (HEN.out.bel hb)
              replace HSH := Lib.hid (HSH.out.bel hb)
              replace HB := Lib.hid (HB.out.trans (hb.mono HB.out.size))
              clear hb
              rw [HOP.out] at hown1
              have hba : Below W1.heap.size W1 (W1.alloc (.cells (opP 2 nm2 am2 sg) 45)) := (Below.refl _ _).alloc (Nat.le_refl _) _
              have HT1 := HT.out.bel hba
              replace HSH := Lib.hid ((HSH.out.bel hba).grown hg1 (Blk.ne_own (HSH.out.bel hba) HT1.r1 (by decide)))
              replace HEN := Lib.hid ((HEN.out.bel hba).grown hg1 (Blk.ne_own (HEN.out.bel hba) HT1.r1 (by decide)))
              replace HB := Lib.hid ((HB.out.trans (hba.mono HB.out.size)).grown hg1 (by have := HB.out.size; have := hba.size; omega) (fun j hj => Nat.le_trans HN.out (HT1.r1.lt j hj).1))
              replace HT := Lib.hid (HT1.addV (p := (am2, j)) hg1 hown1 ⟨Nat.le_refl _, hpos, hj⟩)
              clear HT1 hba hown1 hg1 hnil1
              clear HO1 hov HOP hj hpos hle
              refine (st_bound HT.out.cl.st hlk.out (by omega) (by omega)).mono ?_
              rintro e Z ⟨rfl, hb⟩
              replace HT := Lib.hid (HT.out.bel hb)
              replace HEN := Lib.hid (HEN.out.bel hb)
              replace HSH := Lib.hid (HSH.out.bel hb)
              replace HB := Lib.hid (HB.out.trans (hb.mono HB.out.size))
              clear hb
              have hbd := HT.out.cl.bd
              rw [hla.out] at hbd
              go_wp2_with fail
              refine (st_whole HT.out.cl.st hlk.out 500 hla.out).mono ?_
              rintro e Z ⟨rfl, hb⟩
              replace HT := Lib.hid (HT.out.bel hb)
              replace HEN := Lib.hid (HEN.out.bel hb)
              replace HSH := Lib.hid (HSH.out.bel hb)
              replace HB := Lib.hid (HB.out.trans (hb.mono HB.out.size))
              clear hb
              go_wp2_with fail
              go_roundw
              case rel => exact ⟨k + 1, _, _, _, _, _, _, _, _, _, _, by omega, by omega, by go_num, Lib.hid (HLN.out.addV), Lib.hid (HT.out.more (by omega)), HSH, HEN, HB⟩
              case measure => simp [intOf]; omega
          · refine (give_bd m1 HT.out.cl (by omega) hlk.out (by have := hla.out; omega) (by omega) (by omega) (by omega) (by omega)).mono ?_
            rintro e Z ⟨op, f, tk2, b2, rfl, hk2, hc2, hle, hop⟩
            replace HSH := Lib.hid (HT.out.cl.keeps hc2 HSH.out (by decide) (by decide))
            replace HEN := Lib.hid (HT.out.cl.keeps hc2 HEN.out (by decide) (by decide))
            replace HB := Lib.hid (HB.out.trans (hc2.below HB.out.size HSW.out))
            replace HT := Lib.hid (HT.out.client hc2 hk2 (HT.out.ok.mono (Nat.le_refl _) hle (fun _ _ h => h)))
            clear hk2 hc2
            have hNz := HT.out.nle HNb.out
            rcases hop with ⟨hf, hop⟩ | ⟨rfl, hop⟩
            · have f1 : (f == 0) = false := beq_eq_false_iff_ne.2 hf
              have HO1 := Lib.hid (And.intro (show op.size = 27 by rw [hop]; rfl) (show op.all (·.oneCell') = true by rw [hop]; exact opP_one _ _ _ _))
              clear hf hop
              have hov := Lib.hid ((over_full op.toList (opP 0 ByteArray.empty 0 ByteArray.empty) (by rw [Array.length_toList, HO1.out.1]; rfl)).trans (Array.toArray_toList ..))
              go_wp2_with ((refine wpList_store_part rfl 45 (.tmp 19) (.tmp 148) rfl _ 0 (cs := opP 0 ByteArray.empty 0 ByteArray.empty) (Blk.new _ _ _) op op (by rfl) (by rfl) (by rw [HO1.out.1]; exact Nat.le_refl 27) (by rw [HO1.out.1]; exact infoOp) HO1.out.2 hov.out ?_; intro W1 hb1 hc1; have HA := Lib.hid hb1; have hb := bel_st hc1; skip; clear hb1 hc1))
              replace HT := Lib.hid (HT.out.bel hb)
              replace HEN := Lib.hid (HEN.out.bel hb)
              replace HSH := Lib.hid (HSH.out.bel hb)
              replace HB := Lib.hid (HB.out.trans (hb.mono HB.out.size))
              clear hb
              refine (st_bound HT.out.cl.st hlk.out (by omega) (by omega)).mono ?_
              rintro e Z ⟨rfl, hb⟩
              replace HT := Lib.hid (HT.out.bel hb)
              replace HEN := Lib.hid (HEN.out.bel hb)
              replace HSH := Lib.hid (HSH.out.bel hb)
              replace HB := Lib.hid (HB.out.trans (hb.mono HB.out.size))
              clear hb
              have hbd := HT.out.cl.bd
              rw [hla.out] at hbd
              go_wp2_with fail
              refine (st_whole HT.out.cl.st hlk.out 500 hla.out).mono ?_
              rintro e Z ⟨rfl, hb⟩
              replace HT := Lib.hid (HT.out.bel hb)
              replace HEN := Lib.hid (HEN.out.bel hb)
              replace HSH := Lib.hid (HSH.out.bel hb)
              replace HB := Lib.hid (HB.out.trans (hb.mono HB.out.size))
              clear hb
              go_wp2_with fail
              go_roundw
              case rel => exact ⟨k + 1, _, _, _, _, _, _, _, _, _, _, by omega, by omega, by go_num, Lib.hid (HLN.out.more (by omega)), Lib.hid (HT.out.more (by omega)), HSH, HEN, HB⟩
              case measure => simp [intOf]; omega
            · have HO1 := Lib.hid (And.intro (show op.size = 27 by rw [hop]; rfl) (show op.all (·.oneCell') = true by rw [hop]; exact opP_one _ _ _ _))
              obtain ⟨tkn, htkn⟩ : ∃ tkn, tkn = tokB sd 20 tk2 := ⟨_, rfl⟩
              have HOP : Hid (op[17]? = some (.string tkn)) := Lib.hid (by rw [hop, htkn]; rfl)
              have HTK := Lib.hid htkn
              clear hop htkn
              have hov := Lib.hid ((over_full op.toList (opP 0 ByteArray.empty 0 ByteArray.empty) (by rw [Array.length_toList, HO1.out.1]; rfl)).trans (Array.toArray_toList ..))
              go_wp2_with (first
                | (refine wpList_store_part rfl 45 (.tmp 19) (.tmp 148) rfl _ 0 (cs := opP 0 ByteArray.empty 0 ByteArray.empty) (Blk.new _ _ _) op op (by rfl) (by rfl) (by rw [HO1.out.1]; exact Nat.le_refl 27) (by rw [HO1.out.1]; exact infoOp) HO1.out.2 hov.out ?_; intro W1 hb1 hc1; have HA := Lib.hid hb1; have hb := bel_st hc1; (have h17 : W1.cell? ⟨_, 17, none⟩ = some (.string tkn) := (hb1.cell 17).trans HOP.out); clear hb1 hc1)
                | (at_builtin; go_must (refine wpList_append_own _ rfl (.tmp 152) (.tmp 155) _ rfl N 9 s0 _ 1 16 Tryz.underlying60 hsi Hsz.out hx1 hx2 rfl (by decide) _ TL.length _ rfl ((HT.out.bel hb).r2.alloc _) ⟨W1.heap.size, 0, none⟩ 1 1 [.string tkn] rfl rfl (World.news_of_block (cs := #[.string tkn]) (heap_alloc_new W1 _)) (one_str _) (by simp only [maxLen]; omega) (by omega) (by have := hb.size; simp; omega) ?_); intro v' W2 hown1 hg1 hnil1))
              replace HT := Lib.hid (HT.out.bel hb)
              replace HEN := Lib.hid (HEN.out.bel hb)
              replace HSH := Lib.hid (HSH.out.bel hb)
              replace HB := Lib.hid (HB.out.trans (hb.mono HB.out.size))
              clear hb
              clear h17
              have hba : Below W1.heap.size W1 (W1.alloc (.cells #[.string tkn] 9)) := (Below.refl _ _).alloc (Nat.le_refl _) _
              have HT1 := HT.out.bel hba
              replace HSH := Lib.hid ((HSH.out.bel hba).grown hg1 (Blk.ne_own (HSH.out.bel hba) HT1.r2 (by decide)))
              replace HEN := Lib.hid ((HEN.out.bel hba).grown hg1 (Blk.ne_own (HEN.out.bel hba) HT1.r2 (by decide)))
              replace HB := Lib.hid ((HB.out.trans (hba.mono HB.out.size)).grown hg1 (by have := HB.out.size; have := hba.size; omega) (fun j hj => Nat.le_trans HN.out (HT1.r2.lt j hj).1))
              replace HT := Lib.hid (HT1.addT (s := tkn) hg1 hown1 ⟨tk2, Nat.le_refl _, HTK.out⟩)
              clear HT1 hba hown1 hg1 hnil1
              clear HO1 hov HOP HTK hle
              refine (st_bound HT.out.cl.st hlk.out (by omega) (by omega)).mono ?_
              rintro e Z ⟨rfl, hb⟩
              replace HT := Lib.hid (HT.out.bel hb)
              replace HEN := Lib.hid (HEN.out.bel hb)
              replace HSH := Lib.hid (HSH.out.bel hb)
              replace HB := Lib.hid (HB.out.trans (hb.mono HB.out.size))
              clear hb
              have hbd := HT.out.cl.bd
              rw [hla.out] at hbd
              go_wp2_with fail
              refine (st_whole HT.out.cl.st hlk.out 500 hla.out).mono ?_
              rintro e Z ⟨rfl, hb⟩
              replace HT := Lib.hid (HT.out.bel hb)
              replace HEN := Lib.hid (HEN.out.bel hb)
              replace HSH := Lib.hid (HSH.out.bel hb)
              replace HB := Lib.hid (HB.out.trans (hb.mono HB.out.size))
              clear hb
              go_wp2_with fail
              go_roundw
              case rel => exact ⟨k + 1, _, _, _, _, _, _, _, _, _, _, by omega, by omega, by go_num, Lib.hid (HLN.out.addT), Lib.hid (HT.out.more (by omega)), HSH, HEN, HB⟩
              case measure => simp [intOf]; omega
          · obtain ⟨fc, hfc⟩ : ∃ fc : Nat, (1 : Int) + (m0 : Int) = fc := ⟨1 + m0, by omega⟩
            obtain ⟨salt, hsalt⟩ : ∃ salt : ByteArray, salt = ⟨#[115, 97, 108, 116]⟩ := ⟨_, rfl⟩
            have hsz2 : salt.size ≤ 32 := by rw [hsalt]; decide
            have htv : topV 1 = 18446744073709551615 := rfl
            have hof : ∀ o ∈ OL, o.face < 18446744073709551616 := fun o ho => by have := p7 o ho; omega
            rw [hfc, ← hsalt]
            by_cases hrm : roomN OL fc = 0
            · refine (make_ok bb next (nameB tx 1) (rootB sd 4) salt OL fc 1 1 q wr HT.out.bk.at_ (by omega) hof (by omega) (by omega) (by omega) (by omega) (by omega) (by omega) hsz2 (by omega) hrm (by omega)).mono ?_
              rintro e Z ⟨rfl, hbk, hc2⟩
              replace HSH := Lib.hid (HT.out.keepsB hc2 HSH.out (by decide))
              replace HEN := Lib.hid (HT.out.keepsB hc2 HEN.out (by decide))
              replace HB := Lib.hid (HB.out.trans (hc2.below HB.out.size (by intro g hg; simp at hg; subst hg; exact Nat.le_trans HN.out HNb.out)))
              replace HT := Lib.hid (HT.out.book HNb.out hc2 (hbk.mono hNz))
              replace hNz := Nat.le_trans hNz hc2.size
              have HOM := Lib.hid (mkO_is (nameB tx 1) salt next fc q (by omega) (by omega) hsz2)
              generalize mkO (nameB tx 1) salt next fc 1 1 q = om at HT HOM ⊢
              clear hbk hc2 hsz2 htv hof hrm hsalt
              go_wp2_with (first
                | (refine wpList_store_part rfl 51 (.tmp 21) (.tmp 101) rfl Z.heap.size 0 (cs := zOf) (Blk.new _ _ _) om.cs om.cs (by rfl) (by rfl) (Nat.le_refl 9) infoOffer (ofcs_one om) (ofcs_over zOf om rfl) ?_; intro W1 hb1 hc1; have HOF := Lib.hid hb1; have hb := bel_st hc1; clear hb1 hc1)
                | (refine wpList_load_blk rfl 51 (.tmp 21) rfl _ 0 9 HOF.out om.cs (by rfl) (by rfl) Tryz.underlying51 infoOffer (Nat.le_refl 9) ?_))
              replace HT := Lib.hid (HT.out.bel hb)
              replace HEN := Lib.hid (HEN.out.bel hb)
              replace HSH := Lib.hid (HSH.out.bel hb)
              replace HB := Lib.hid (HB.out.trans (hb.mono HB.out.size))
              clear hb
              generalize Z.heap.size = ofg at HOF ⊢
              refine (shown_any om _).mono ?_
              rintro e Z2 ⟨rfl, hb⟩
              replace HOF := Lib.hid (HOF.out.bel hb)
              replace HT := Lib.hid (HT.out.bel hb)
              replace HEN := Lib.hid (HEN.out.bel hb)
              replace HSH := Lib.hid (HSH.out.bel hb)
              replace HB := Lib.hid (HB.out.trans (hb.mono HB.out.size))
              clear hb
              obtain ⟨os, hos⟩ : ∃ os : Of, os = { om with salt := ByteArray.empty, drawn := 0, taken := false } := ⟨_, rfl⟩
              rw [← hos]
              have HOS := Lib.hid (shown_is HOM.out hos)
              clear hos
              go_wp2_with fail
              refine (take_bd os q HT.out.cl HOS.out.ok HOS.out.ch (by rw [HOS.out.com]; exact comB_size _ _) (by omega) hlk.out (by have := hla.out; omega) (by omega) (by omega) (by omega) (by omega) (by omega) (by omega)).mono ?_
              rintro e Z ⟨op, f, i2, D2, b2, rfl, hk2, hc2, hgr, hop⟩
              replace HOF := Lib.hid (HT.out.cl.keeps hc2 HOF.out (by decide) (by decide))
              replace HSH := Lib.hid (HT.out.cl.keeps hc2 HSH.out (by decide) (by decide))
              replace HEN := Lib.hid (HT.out.cl.keeps hc2 HEN.out (by decide) (by decide))
              replace HB := Lib.hid (HB.out.trans (hc2.below HB.out.size HSW.out))
              replace HT := Lib.hid (HT.out.client hc2 hk2 (HT.out.ok.mono (Nat.le_refl _) (Nat.le_refl _) (fun _ _ h => hgr.old h)))
              clear hk2 hc2 hgr
              have hNz := HT.out.nle HNb.out
              have hof1 : om.face ≤ 100 := by rw [HOM.out.face]; omega
              rcases hop with ⟨hf, hop⟩ | ⟨rfl, hat, j, hj, hop⟩
              · have f1 : (f == 0) = false := beq_eq_false_iff_ne.2 hf
                have HO1 := Lib.hid (And.intro (show op.size = 27 by rw [hop]; rfl) (show op.all (·.oneCell') = true by rw [hop]; exact opP_one _ _ _ _))
                clear hf hop
                have hov := Lib.hid ((over_full op.toList (opP 0 ByteArray.empty 0 ByteArray.empty) (by rw [Array.length_toList, HO1.out.1]; rfl)).trans (Array.toArray_toList ..))
                go_wp2_with ((refine wpList_store_part rfl 45 (.tmp 23) (.tmp 111) rfl _ 0 (cs := opP 0 ByteArray.empty 0 ByteArray.empty) (Blk.new _ _ _) op op (by rfl) (by rfl) (by rw [HO1.out.1]; exact Nat.le_refl 27) (by rw [HO1.out.1]; exact infoOp) HO1.out.2 hov.out ?_; intro W1 hb1 hc1; have HA := Lib.hid hb1; have hb := bel_st hc1; skip; clear hb1 hc1))
                replace HT := Lib.hid (HT.out.bel hb)
                replace HEN := Lib.hid (HEN.out.bel hb)
                replace HSH := Lib.hid (HSH.out.bel hb)
                replace HB := Lib.hid (HB.out.trans (hb.mono HB.out.size))
                clear hb
                replace HLN := Lib.hid (HLN.out.addO hof1)
                clear HO1 hov HOF HOM HOS hof1
                refine (st_bound HT.out.cl.st hlk.out (by omega) (by omega)).mono ?_
                rintro e Z ⟨rfl, hb⟩
                replace HT := Lib.hid (HT.out.bel hb)
                replace HEN := Lib.hid (HEN.out.bel hb)
                replace HSH := Lib.hid (HSH.out.bel hb)
                replace HB := Lib.hid (HB.out.trans (hb.mono HB.out.size))
                clear hb
                have hbd := HT.out.cl.bd
                rw [hla.out] at hbd
                go_wp2_with fail
                refine (st_whole HT.out.cl.st hlk.out 500 hla.out).mono ?_
                rintro e Z ⟨rfl, hb⟩
                replace HT := Lib.hid (HT.out.bel hb)
                replace HEN := Lib.hid (HEN.out.bel hb)
                replace HSH := Lib.hid (HSH.out.bel hb)
                replace HB := Lib.hid (HB.out.trans (hb.mono HB.out.size))
                clear hb
                go_wp2_with fail
                go_roundw
                case rel => exact ⟨k + 1, _, _, _, _, _, _, _, _, _, _, by omega, by omega, by go_num, Lib.hid (HLN.out), Lib.hid (HT.out.more (by omega)), HSH, HEN, HB⟩
                case measure => simp [intOf]; omega
              · have HO1 := Lib.hid (And.intro (show op.size = 27 by rw [hop]; rfl) (show op.all (·.oneCell') = true by rw [hop]; exact opT_one _ _))
                have HWX := Lib.hid (win_is (sd := sd) HOM.out HOS.out (cl := q) (by omega) hj hat hnm)
                have HOP : Hid (op.extract 18 (18 + 8) = ((os.tk q).signed (signB sd 4 j (textB (os.tk q)))).cs) := Lib.hid (by rw [hop]; rfl)
                generalize (os.tk q).signed (signB sd 4 j (textB (os.tk q))) = tkt at HOP HWX
                clear hop hat hj
                have hov := Lib.hid ((over_full op.toList (opP 0 ByteArray.empty 0 ByteArray.empty) (by rw [Array.length_toList, HO1.out.1]; rfl)).trans (Array.toArray_toList ..))
                go_wp2_with (first
                  | (refine wpList_store_part rfl 45 (.tmp 23) (.tmp 111) rfl _ 0 (cs := opP 0 ByteArray.empty 0 ByteArray.empty) (Blk.new _ _ _) op op (by rfl) (by rfl) (by rw [HO1.out.1]; exact Nat.le_refl 27) (by rw [HO1.out.1]; exact infoOp) HO1.out.2 hov.out ?_; intro W1 hb1 hc1; have HA := Lib.hid hb1; have hb := bel_st hc1; (have o6 : W1.cell? ⟨ofg, 6, none⟩ = some (.string om.salt) := (HOF.out.bel (bel_st hc1)).cell 6; have o7 : W1.cell? ⟨ofg, 7, none⟩ = some (.int .u64 (om.drawn : Nat)) := (HOF.out.bel (bel_st hc1)).cell 7); clear hb1 hc1)
                  | (refine wpList_load_blk rfl 43 (.tmp 116) rfl _ 18 8 HA.out #[.string tkt.ch, .int .u64 (tkt.ser : Nat), .int .u64 (tkt.face : Nat), .int .u64 (tkt.wins : Nat), .int .u64 (tkt.many : Nat), .string tkt.com, .int .u64 (tkt.cl : Nat), .string tkt.sig] (by rfl) HOP.out Tryz.underlying43 infoTk (by rw [HO1.out.1]; decide) ?_)
                  | (at_builtin; go_must (refine wpList_append_own _ rfl (.tmp 115) (.tmp 123) _ rfl N 97 n0 _ 10 112 Tryz.underlying76 hni Hnz.out hw1 hw2 rfl (by decide) _ WL.length _ rfl ((HT.out.bel hb).r3.alloc _) ⟨W1.heap.size, 0, none⟩ 1 1 (Wn.cl ⟨tkt, om.salt, om.drawn⟩) rfl rfl (World.news_of_block (cs := Wn.cs ⟨tkt, om.salt, om.drawn⟩) (heap_alloc_new W1 _)) (one_all (wncs_one ⟨tkt, om.salt, om.drawn⟩)) (by simp only [maxLen]; omega) (by omega) (by have := hb.size; simp; omega) ?_); intro v' W2 hown1 hg1 hnil1))
                replace HT := Lib.hid (HT.out.bel hb)
                replace HEN := Lib.hid (HEN.out.bel hb)
                replace HSH := Lib.hid (HSH.out.bel hb)
                replace HB := Lib.hid (HB.out.trans (hb.mono HB.out.size))
                clear hb
                clear o6 o7
                have hba : Below W1.heap.size W1 (W1.alloc (.cells (Wn.cs ⟨tkt, om.salt, om.drawn⟩) 97)) := (Below.refl _ _).alloc (Nat.le_refl _) _
                have HT1 := HT.out.bel hba
                replace HSH := Lib.hid ((HSH.out.bel hba).grown hg1 (Blk.ne_own (HSH.out.bel hba) HT1.r3 (by decide)))
                replace HEN := Lib.hid ((HEN.out.bel hba).grown hg1 (Blk.ne_own (HEN.out.bel hba) HT1.r3 (by decide)))
                replace HB := Lib.hid ((HB.out.trans (hba.mono HB.out.size)).grown hg1 (by have := HB.out.size; have := hba.size; omega) (fun j hj => Nat.le_trans HN.out (HT1.r3.lt j hj).1))
                replace HT := Lib.hid (HT1.addW (x := ⟨tkt, om.salt, om.drawn⟩) hg1 hown1 HWX.out)
                clear HT1 hba hown1 hg1 hnil1
                replace HLN := Lib.hid (HLN.out.addOW (x := ⟨tkt, om.salt, om.drawn⟩) hof1)
                clear HO1 hov HOP HWX HOF HOM HOS hof1
                refine (st_bound HT.out.cl.st hlk.out (by omega) (by omega)).mono ?_
                rintro e Z ⟨rfl, hb⟩
                replace HT := Lib.hid (HT.out.bel hb)
                replace HEN := Lib.hid (HEN.out.bel hb)
                replace HSH := Lib.hid (HSH.out.bel hb)
                replace HB := Lib.hid (HB.out.trans (hb.mono HB.out.size))
                clear hb
                have hbd := HT.out.cl.bd
                rw [hla.out] at hbd
                go_wp2_with fail
                refine (st_whole HT.out.cl.st hlk.out 500 hla.out).mono ?_
                rintro e Z ⟨rfl, hb⟩
                replace HT := Lib.hid (HT.out.bel hb)
                replace HEN := Lib.hid (HEN.out.bel hb)
                replace HSH := Lib.hid (HSH.out.bel hb)
                replace HB := Lib.hid (HB.out.trans (hb.mono HB.out.size))
                clear hb
                go_wp2_with fail
                go_roundw
                case rel => exact ⟨k + 1, _, _, _, _, _, _, _, _, _, _, by omega, by omega, by go_num, Lib.hid (HLN.out), Lib.hid (HT.out.more (by omega)), HSH, HEN, HB⟩
                case measure => simp [intOf]; omega
            · refine (make_full bb next (nameB tx 1) (rootB sd 4) salt OL fc 1 1 q wr HT.out.bk.at_ (by omega) hof (by omega) (by omega) (by omega) (by omega) (by omega) (by omega) hsz2 (by omega) hrm).mono ?_
              have f1 : (roomN OL fc != 0) = true := by simp [bne, beq_eq_false_iff_ne.2 hrm]
              rintro e Z ⟨rfl, hb⟩
              replace HT := Lib.hid (HT.out.bel hb)
              replace HEN := Lib.hid (HEN.out.bel hb)
              replace HSH := Lib.hid (HSH.out.bel hb)
              replace HB := Lib.hid (HB.out.trans (hb.mono HB.out.size))
              clear hb
              generalize roomN OL fc = rm at f1 ⊢
              clear hsz2 htv hof hrm hsalt
              go_wp2_with (refine wpList_store_part rfl 51 (.tmp 21) (.tmp 101) rfl Z.heap.size 0 (cs := zOf) (Blk.new _ _ _) zOf zOf (by rfl) (by rfl) (Nat.le_refl 9) infoOffer zOf_one zOf_over ?_; intro W1 hb1 hc1; have hb := bel_st hc1; clear hb1 hc1)
              replace HT := Lib.hid (HT.out.bel hb)
              replace HEN := Lib.hid (HEN.out.bel hb)
              replace HSH := Lib.hid (HSH.out.bel hb)
              replace HB := Lib.hid (HB.out.trans (hb.mono HB.out.size))
              clear hb
              go_roundw
              case rel => exact ⟨k + 1, _, _, _, _, _, _, _, _, _, _, by omega, by omega, by go_num, Lib.hid (HLN.out.more (by omega)), Lib.hid (HT.out.more (by omega)), HSH, HEN, HB⟩
              case measure => simp [intOf]; omega
        · go_wp2_with fail
          all_goals
            go_meet
            exact ⟨k, ii, am, tk, b, next, D, VL, TL, WL, OL, hk12, HLN, HT, HSH, HEN, HB⟩
    case rest =>
      clear HT HLN HB HSH HEN
      obtain ⟨k, ii, am, tk, b, next, D, VL, TL, WL, OL, hk12, HLN, HT, HSH, HEN, HB⟩ := hcut
      obtain ⟨A1, c1, e1⟩ := own_form HT.out.r1
      obtain ⟨A2, c2, e2⟩ := own_form HT.out.r2
      obtain ⟨A3, c3, e3⟩ := own_form HT.out.r3
      subst e1 e2 e3
      obtain ⟨p1, ⟨p2, p3⟩, p4, p5, p6, p7⟩ := id HLN.out
      have hNz := HT.out.nle HNb.out
      have y0 : wc.cell? ⟨w.heap.size, 0, none⟩ = some (.int .u8 (z0 : Nat)) := (HSH.out.cell 0).trans (by rw [HSHE.out]; rfl)
      obtain ⟨j0, hj0, hj0l⟩ := mod_nat z0 TL.length p3
      obtain ⟨b2, off2, rfl, _, hc2⟩ := (Sl.of_own encTo_len HT.out.r2).at_ hj0l
      have t0 : wc.cell? ⟨b2, off2 + j0, none⟩ = some (.string TL[j0]) := by have := hc2 0 _ rfl; simpa using this
      have htok : TL[j0] ∈ TL := List.getElem_mem hj0l
      have HTOK := Lib.hid htok
      generalize TL[j0] = tok at t0 HTOK
      clear htok hc2
      have dT : ((TL.length : Int) == 0) = false := beq_eq_false_iff_ne.2 (by omega)
      go_upto_region 33 with (refine wpList_store_part rfl 78 (.tmp 25) (.tmp 171) rfl wc.heap.size 0 (cs := pfC 0 ByteArray.empty ByteArray.empty none 0 0) (Blk.new _ _ _) (pfC 0 ByteArray.empty tok none 0 0) (pfC 0 ByteArray.empty tok none 0 0) (by rfl) (by rfl) (Nat.le_refl 4) infoPf (pfC_one _ _ _ _ _ _) (pfC_over _ _ _ _ _ _ _ _ _ _ _ _) ?_; intro W1 hb1 hc1; have HPF := Lib.hid hb1; have hb := bel_st hc1; clear hb1 hc1)
      have hpg : N ≤ wc.heap.size := hNz
      generalize wc.heap.size = pg at HPF hpg ⊢
      replace HT := Lib.hid (HT.out.bel hb)
      replace HEN := Lib.hid (HEN.out.bel hb)
      replace HSH := Lib.hid (HSH.out.bel hb)
      replace HB := Lib.hid (HB.out.trans (hb.mono HB.out.size))
      clear hb
      clear y0 t0 hj0 dT
      obtain ⟨m5, hm5, _⟩ := mod_nat z1 5 (by omega)
      have y1 : W1.cell? ⟨w.heap.size, 1, none⟩ = some (.int .u8 (z1 : Nat)) := (HSH.out.cell 1).trans (by rw [HSHE.out]; rfl)
      go_simp
      obtain ⟨bv, hbv⟩ : ∃ bv : Bool, bv = decide (0 < VL.length ∧ 0 < m5) := ⟨_, rfl⟩
      go_cut [180] from 172 to 180 (fun v wd => v = .bool bv ∧ wd = W1)
      case first =>
        by_cases hv1 : 0 < VL.length
        · have dv1 : decide ((0 : Int) < (VL.length : Int)) = true := decide_eq_true (by omega)
          by_cases hv2 : 0 < m5
          · have dv2 : decide ((0 : Int) < (m5 : Int)) = true := decide_eq_true (by omega)
            go_wp2_with fail
            go_meet
            exact ⟨by rw [hbv]; simp [hv1, hv2]; omega, rfl⟩
          · have dv2 : decide ((0 : Int) < (m5 : Int)) = false := decide_eq_false (by omega)
            go_wp2_with fail
            go_meet
            exact ⟨by rw [hbv]; simp [hv1, hv2]; omega, rfl⟩
        · have dv1 : decide ((0 : Int) < (VL.length : Int)) = false := decide_eq_false (by omega)
          go_wp2_with fail
          go_meet
          exact ⟨by rw [hbv]; simp [hv1], rfl⟩
      case rest =>
        obtain ⟨rfl, rfl⟩ := hcut
        go_upto_if 180 with fail
        go_cut [26] from 181 to 195 (fun v wd => ∃ (pam : Nat) (psg : ByteArray), Hid ((pam = 0 ∧ psg = ByteArray.empty) ∨ ∃ p ∈ VL, pam = p.1 ∧ psg = signB sd 4 p.2 (vouchB (nameB tx 1) p.1)) ∧ Hid (Blk wd pg 78 (pfC pam psg tok none 0 0)) ∧ Hid (BSt wd cb kb ctr pb mb bb N sd (nameB tx 1) tx lk k ii am tk b next D VL TL WL OL (.slice A1 VL.length c1) (.slice (some ⟨b2, off2, none⟩) TL.length c2) (.slice A3 WL.length c3)) ∧ Hid (Blk wd w.heap.size 88 sh) ∧ Hid (Blk wd en 37 (entC tx 1 lk)) ∧ Hid (Below w.heap.size w wd))
        case first =>
          cases bv with
          | true =>
            obtain ⟨hv1, _⟩ := of_decide_eq_true hbv.symm
            clear hbv
            obtain ⟨j1, hj1, hj1l⟩ := mod_nat z1 VL.length hv1
            obtain ⟨g1, cur1, rfl, _, hb1, hx1, hn1⟩ := own_at (encVo_len _ _) HT.out.r1 j1 hj1l
            have hpv : VL[j1] ∈ VL := List.getElem_mem hj1l
            generalize VL[j1] = pv at hx1 hpv
            obtain ⟨pam, psi⟩ := pv
            obtain ⟨sg, hsg⟩ : ∃ sg, sg = signB sd 4 psi (vouchB (nameB tx 1) pam) := ⟨_, rfl⟩
            obtain ⟨nm2, hnm2⟩ : ∃ nm2, nm2 = nameB tx 1 := ⟨_, rfl⟩
            replace hx1 : cur1.extract (j1 * 27) (j1 * 27 + 27) = opP 2 nm2 pam sg := hx1.trans (by rw [hsg, hnm2]; exact Array.toArray_toList ..)
            have HPV : Hid ((pam = 0 ∧ sg = ByteArray.empty) ∨ ∃ p ∈ VL, pam = p.1 ∧ sg = signB sd 4 p.2 (vouchB (nameB tx 1) p.1)) := Lib.hid (.inr ⟨_, hpv, rfl, hsg⟩)
            have HB1 := Lib.hid hb1
            have HX1 := Lib.hid hx1
            have HO1 : Hid ((opP 2 nm2 pam sg).size = 27 ∧ (opP 2 nm2 pam sg).all (·.oneCell') = true) := Lib.hid ⟨rfl, opP_one _ _ _ _⟩
            have hov := Lib.hid (opP_over 0 ByteArray.empty 0 ByteArray.empty 2 nm2 pam sg)
            have dT : ((VL.length : Int) == 0) = false := beq_eq_false_iff_ne.2 (by omega)
            clear hsg hnm2 hpv hx1 hb1
            go_wp2_with (first
              | (refine wpList_load_opP rfl (.tmp 188) rfl g1 (j1 * 27) HB1.out (by rfl) 2 pam nm2 sg HX1.out hn1 ?_)
              | (refine wpList_store_part rfl 45 (.tmp 26) (.tmp 189) rfl _ 0 (cs := opP 0 ByteArray.empty 0 ByteArray.empty) (Blk.new _ _ _) (opP 2 nm2 pam sg) (opP 2 nm2 pam sg) (by rfl) (by rfl) (by rw [HO1.out.1]; exact Nat.le_refl 27) (by rw [HO1.out.1]; exact infoOp) HO1.out.2 hov.out ?_; intro W1 hb1 hc1; have HA := Lib.hid hb1; have hb := bel_st hc1; (have h13 : W1.cell? ⟨_, 13, none⟩ = some (.int .u64 (pam : Nat)) := hb1.cell 13; have h17 : W1.cell? ⟨_, 17, none⟩ = some (.string sg) := hb1.cell 17; have x0 : W1.cell? ⟨pg, 0, none⟩ = some (.int .u64 0) := (HPF.out.bel (bel_st hc1)).cell 0; have x1 : W1.cell? ⟨pg, 1, none⟩ = some (.string ByteArray.empty) := (HPF.out.bel (bel_st hc1)).cell 1; have f0 := (HPF.out.bel (bel_st hc1)).frozen 0; have f1 := (HPF.out.bel (bel_st hc1)).frozen 1); clear hb1 hc1))
            replace HPF := Lib.hid (HPF.out.bel hb)
            replace HT := Lib.hid (HT.out.bel hb)
            replace HEN := Lib.hid (HEN.out.bel hb)
            replace HSH := Lib.hid (HSH.out.bel hb)
            replace HB := Lib.hid (HB.out.trans (hb.mono HB.out.size))
            clear hb
            clear h13 h17 x0 x1 f0 f1 HA
            have hkd := HPF.out.kd
            have hc : Ch [pg] W1 ((W1.setCell ⟨pg, 0, none⟩ (.int .u64 (pam : Nat))).setCell ⟨pg, 1, none⟩ (.string sg)) := (Ch.set_ (b := pg) (S := [pg]) (by simp) W1 0 _).trans (Ch.set_ (b := pg) (by simp) _ 1 _)
            replace HT := Lib.hid (HT.out.other hc hkd hpg (by decide) (by decide) (by decide))
            replace HSH := Lib.hid (HSH.out.ch hc (by have := HSH.out.ne_ HPF.out (by decide); simpa using this))
            replace HEN := Lib.hid (HEN.out.ch hc (by have := HEN.out.ne_ HPF.out (by decide); simpa using this))
            replace HB := Lib.hid (HB.out.trans (hc.below HB.out.size (by intro g hg; simp at hg; subst hg; exact Nat.le_trans HN.out hpg)))
            have HPF2 : Hid (Blk ((W1.setCell ⟨pg, 0, none⟩ (.int .u64 (pam : Nat))).setCell ⟨pg, 1, none⟩ (.string sg)) pg 78 (pfC pam sg tok none 0 0)) := Lib.hid (by have q := (HPF.out.set_ 0 (.int .u64 (pam : Int))).set_ 1 (.string sg); rw [pfC_set0, pfC_set1] at q; exact q)
            go_meet
            exact ⟨pam, sg, HPV, HPF2, HT, HSH, HEN, HB⟩
          | false =>
            clear hbv
            go_wp2_with fail
            go_meet
            exact ⟨0, ByteArray.empty, Lib.hid (.inl ⟨rfl, rfl⟩), HPF, HT, HSH, HEN, HB⟩
        case rest =>
          clear HPF HT HSH HEN HB y1 hbv
          obtain ⟨pam, psg, HPV, HPF, HT, HSH, HEN, HB⟩ := hcut
          obtain ⟨W0, hW0⟩ : ∃ W0 : World, W0 = wc := ⟨wc, rfl⟩
          subst hW0
          have hpgl := HPF.out.lt
          have hkd := HPF.out.kd
          have hn1 := HSH.out.ne_ HPF.out (by decide)
          have hn2 := HEN.out.ne_ HPF.out (by decide)
          go_upto_block 3 with fail
          go_cut [27] from 196 to 230 (fun v wd => ∃ (A : Option Addr) (c : Nat) (PL : List Wn), (∀ x ∈ PL, x ∈ WL) ∧ PL.length ≤ 3 ∧ Hid (Blk wd pg 78 (pfC pam psg tok A PL.length c)) ∧ Hid (wd.ownsRow W0.heap.size 97 10 (.slice A PL.length c) PL.length (PL.flatMap Wn.cl)) ∧ Hid (Ch [pg] W0 wd))
          case first =>
            go_wp2_with fail
            go_loopw [27] (fun v wr => ∃ (i : Nat) (A : Option Addr) (c : Nat) (PL : List Wn), i ≤ WL.length ∧ v = .int .i64 i ∧ (∀ x ∈ PL, x ∈ WL) ∧ PL.length ≤ 3 ∧ Hid (Blk wr pg 78 (pfC pam psg tok A PL.length c)) ∧ Hid (wr.ownsRow W0.heap.size 97 10 (.slice A PL.length c) PL.length (PL.flatMap Wn.cl)) ∧ Hid (Ch [pg] W0 wr)) (fun v _ => WL.length - (intOf v).toNat)
            case atStart => exact ⟨0, none, 0, [], Nat.zero_le _, rfl, by simp, by simp, HPF, Lib.hid (own_nil0 _ _ _ _), Lib.hid (Ch.refl _ _)⟩
            case round =>
              obtain ⟨i, A, c', PL, hi, rfl, hin, h3, HPFR, HOW, HCR⟩ := hrel
              have x3 : wr.cell? ⟨pg, 3, none⟩ = some (.slice A PL.length c') := HPFR.out.cell 3
              by_cases hiw : i < WL.length
              · by_cases hp3 : PL.length < 3
                · have y2 : wr.cell? ⟨w.heap.size, 2, none⟩ = some (.int .u8 (z2 : Nat)) := ((HSH.out.ch HCR.out (by simpa using hn1)).cell 2).trans (by rw [HSHE.out]; rfl)
                  obtain ⟨s8, hs8, hs8l⟩ := mod_nat i 8 (by omega)
                  go_upto_block 4 with fail
                  go_cut [] from 196 to 230 (fun wd => ∃ (A2 : Option Addr) (c2 : Nat) (P2 : List Wn), (∀ x ∈ P2, x ∈ WL) ∧ P2.length ≤ 3 ∧ Hid (Blk wd pg 78 (pfC pam psg tok A2 P2.length c2)) ∧ Hid (wd.ownsRow W0.heap.size 97 10 (.slice A2 P2.length c2) P2.length (P2.flatMap Wn.cl)) ∧ Hid (Ch [pg] W0 wd))
                  case first =>
                    go_wp2_with fail
                    · clear y2 hs8 x3
                      obtain ⟨jw, hjw0, hjwl⟩ := mod_nat (i + z3) WL.length (by omega)
                      have hjw : ((i : Int) + (z3 : Int)) % (WL.length : Int) = (jw : Int) := by rw [← hjw0, Int.natCast_add]
                      have dT : ((WL.length : Int) == 0) = false := beq_eq_false_iff_ne.2 (by omega)
                      have hwz : IntKind.i64.wrap (z3 : Int) = (z3 : Int) := by rw [IntKind.wrap_i64]; omega
                      have hwi : IntKind.i64.wrap ((i : Int) + (z3 : Int)) = (i : Int) + (z3 : Int) := by rw [IntKind.wrap_i64]; omega
                      have htm : ((i : Int) + (z3 : Int)).tmod (WL.length : Int) = (jw : Int) := by rw [Int.tmod_eq_emod_of_nonneg (by omega)]; exact hjw
                      have hWn : ¬ WL = [] := by rintro rfl; simp at hiw
                      obtain ⟨g3, cur3, rfl, hg3N, hb3, hx3, hn3⟩ := own_at Wn.cl_len HT.out.r3 jw hjwl
                      have hxin : WL[jw] ∈ WL := List.getElem_mem hjwl
                      generalize WL[jw] = x at hx3 hxin
                      replace hx3 : cur3.extract (jw * 10) (jw * 10 + 10) = x.cs := hx3.trans (Array.toArray_toList ..)
                      have hn3' := hb3.ne_ HPF.out (by decide)
                      have HG3 : Hid (∀ W, Ch [pg] W0 W → Blk W g3 97 cur3) := Lib.hid (fun W h => hb3.ch h (by simpa using hn3'))
                      have HS3 : Hid (∀ W, Ch [pg] W0 W → W.cell? ⟨w.heap.size, 3, none⟩ = some (.int .u8 (z3 : Nat))) := Lib.hid (fun W h => ((HSH.out.ch h (by simpa using hn1)).cell 3).trans (by rw [HSHE.out]; rfl))
                      have HX3 := Lib.hid hx3
                      clear hb3 hx3 hjw0
                      replace HPFR : Hid (Blk wr.drew pg 78 (pfC pam psg tok A PL.length c')) := Lib.hid (HPFR.out.drewN 1)
                      replace HOW : Hid (wr.drew.ownsRow W0.heap.size 97 10 (.slice A PL.length c') PL.length (PL.flatMap Wn.cl)) := HOW
                      replace HCR : Hid (Ch [pg] W0 wr.drew) := Lib.hid (HCR.out.trans (Ch.drewN _ _ 1))
                      refine wp_region_held_drew (S := fun W => Hid (Ch [pg] W0 W)) (by kernel_rfl) HCR (fun hS => ?_)
                      refine wpAnyH_gen fun X hX => ?_
                      rw [← hX] at HPFR HOW HCR hS
                      clear hX
                      refine wpAnyH_take (i := 0) (v := ?_) rfl (by kernel_rfl) (by kernel_rfl) (by kernel_rfl) (fun _ _ _ h => h) (Or.inl ⟨by rfl, ?_⟩) hS ?_
                      rotate_left
                      · (intro w _; go_simp; try with_reducible rfl)
                      refine wpAnyH_take (i := 2) (v := ?_) rfl (by kernel_rfl) (by kernel_rfl) (by kernel_rfl) (fun _ _ _ h => h) (Or.inl ⟨by rfl, ?_⟩) hS ?_
                      rotate_left
                      · (intro w _; go_simp; try with_reducible rfl)
                      refine wpAnyH_take (i := 3) (v := ?_) rfl (by kernel_rfl) (by kernel_rfl) (by kernel_rfl) (fun _ _ _ h => h) (Or.inl ⟨by rfl, ?_⟩) hS ?_
                      rotate_left
                      · (intro w _; go_simp; try with_reducible rfl)
                      refine wpAnyH_take (i := 4) (v := ?_) rfl (by kernel_rfl) (by kernel_rfl) (by kernel_rfl) (fun _ _ _ h => h) (Or.inl ⟨by rfl, ?_⟩) hS ?_
                      rotate_left
                      · (intro w _; go_simp; try with_reducible rfl)
                      refine wpAnyH_take (i := 5) (v := ?_) rfl (by kernel_rfl) (by kernel_rfl) (by kernel_rfl) (fun _ _ _ h => h) (Or.inl ⟨by rfl, ?_⟩) hS ?_
                      rotate_left
                      · (intro w hS'; have hcell := (HS3.out _ hS'.out); go_simp; try with_reducible rfl)
                      refine wpAnyH_take (i := 6) (v := ?_) rfl (by kernel_rfl) (by kernel_rfl) (by kernel_rfl) (fun _ _ _ h => h) (Or.inl ⟨by rfl, ?_⟩) hS ?_
                      rotate_left
                      · (intro w _; go_simp; try with_reducible rfl)
                      refine wpAnyH_take (i := 7) (v := ?_) rfl (by kernel_rfl) (by kernel_rfl) (by kernel_rfl) (fun _ _ _ h => h) (Or.inl ⟨by rfl, ?_⟩) hS ?_
                      rotate_left
                      · (intro w _; go_simp; try with_reducible rfl)
                      refine wpAnyH_take (i := 8) (v := ?_) rfl (by kernel_rfl) (by kernel_rfl) (by kernel_rfl) (fun _ _ _ h => h) (Or.inl ⟨by rfl, ?_⟩) hS ?_
                      rotate_left
                      · (intro w _; go_simp; try with_reducible rfl)
                      refine wpAnyH_take (i := 9) (v := ?_) rfl (by kernel_rfl) (by kernel_rfl) (by kernel_rfl) (fun _ _ _ h => h) (Or.inl ⟨by rfl, ?_⟩) hS ?_
                      rotate_left
                      · (intro w _; go_simp; try with_reducible rfl)
                      refine wpAnyH_take (i := 10) (v := ?_) rfl (by kernel_rfl) (by kernel_rfl) (by kernel_rfl) (fun _ _ _ h => h) (Or.inl ⟨by rfl, ?_⟩) hS ?_
                      rotate_left
                      · (intro w _; go_simp; try with_reducible rfl)
                      refine wpAnyH_take (i := 11) (v := ?_) rfl (by kernel_rfl) (by kernel_rfl) (by kernel_rfl) (fun _ _ _ h => h) (Or.inl ⟨by rfl, ?_⟩) hS ?_
                      rotate_left
                      · (intro w _; go_simp; try with_reducible rfl)
                      refine wpAnyH_take (i := 12) (v := .agg #[.string x.t.ch, .int .u64 (x.t.ser : Nat), .int .u64 (x.t.face : Nat), .int .u64 (x.t.wins : Nat), .int .u64 (x.t.many : Nat), .string x.t.com, .int .u64 (x.t.cl : Nat), .string x.t.sig, .string x.salt, .int .u64 (x.drawn : Nat)]) rfl (by kernel_rfl) (by kernel_rfl) (by kernel_rfl) (fun _ _ _ h => h) (yields_blk (by rfl) 97 (.tmp 226) (by rfl) g3 (jw * 10) 10 (t := 97) (cs := cur3) (fun W h => HG3.out W h.out) #[.string x.t.ch, .int .u64 (x.t.ser : Nat), .int .u64 (x.t.face : Nat), .int .u64 (x.t.wins : Nat), .int .u64 (x.t.many : Nat), .string x.t.com, .int .u64 (x.t.cl : Nat), .string x.t.sig, .string x.salt, .int .u64 (x.drawn : Nat)] (by go_simp) HX3.out Tryz.underlying97 infoWn hn3) hS ?_
                      clear hwz hwi htm hjw dT hWn hjwl hs8l HS3 HG3 HX3 hn3' hn3 hg3N
                      refine wpAnyH_ready (rs := [1, 13]) (by kernel_rfl) (by simp) (AllReadyH.cons rfl (fun K hK => ?_) (AllReadyH.cons rfl (fun K hK => ?_) AllReadyH.nil))
                      · have u3 : X.cell? ⟨pg, 3, none⟩ = some (.slice A PL.length c') := HPFR.out.cell 3
                        go_simp
                        refine hK.out _ _ HCR (fun _ => ?_)
                        clear hK K u3
                        refine wpAnyH_ready (rs := [13]) (by kernel_rfl) (by simp) (AllReadyH.cons rfl (fun K hK => ?_) AllReadyH.nil)
                        go_simp
                        have HB1 : Hid (Blk (X.alloc (.cells x.cs 97)) X.heap.size 97 x.cs) := Blk.new _ _ _
                        have HC1 : Hid (Ch [pg] W0 (X.alloc (.cells x.cs 97))) := Lib.hid (HCR.out.trans (Ch.alloc _ _ _))
                        have HPF1 : Hid (Blk (X.alloc (.cells x.cs 97)) pg 78 (pfC pam psg tok A PL.length c')) := Lib.hid (HPFR.out.alloc _)
                        have HOW1 : Hid ((X.alloc (.cells x.cs 97)).ownsRow W0.heap.size 97 10 (.slice A PL.length c') PL.length (PL.flatMap Wn.cl)) := Lib.hid (HOW.out.alloc _)
                        refine hK.out _ _ HC1 (fun _ => ?_)
                        clear hK K
                        refine wpAnyH_gen fun X1 hX1 => ?_
                        replace hX1 : X1 = X.alloc (.cells x.cs 97) := hX1
                        rw [← hX1] at HB1 HC1 HPF1 HOW1
                        clear hX1
                        have HNW := Lib.hid (World.news_of_block HB1.out)
                        refine wpAnyH_ready (rs := [14]) (by kernel_rfl) (by simp) (AllReadyH.cons rfl (fun K hK => ?_) AllReadyH.nil)
                        refine step_append_lies _ (by rfl) (.tmp 216) (.tmp 228) 76 (by rfl) W0.heap.size 97 n0 _ 10 112 Tryz.underlying76 hni Hnz.out hw1 hw2 rfl (by omega) (.slice A PL.length c') PL.length _ (by go_simp) HOW1.out ⟨X.heap.size, 0, none⟩ 1 1 x.cl (by go_simp) (by rfl) HNW.out (one_all (wncs_one x)) (by omega) (by simp only [maxLen]; omega) (by omega) HC1.out.size _ rfl ?_
                        intro gg cap W4 hown4 hgrow hat hlt4
                        obtain ⟨HQ1, HQ2, HQ3, HQ4, HQ5⟩ := win_step HC1.out HPF1.out HOW1.out hpgl hown4 hgrow
                        have HP4 := Lib.hid HQ1
                        have HC4 := Lib.hid HQ2
                        have HP5 := Lib.hid HQ3
                        have HO5 := Lib.hid HQ4
                        have HC5 := Lib.hid HQ5
                        clear hown4 hgrow hat hlt4 HQ1 HQ2 HQ3 HQ4 HQ5 HNW HB1
                        refine hK.out _ _ HC4 (fun hS4 => ?_)
                        clear hK K
                        refine wpAnyH_take (i := 15) (v := ?_) rfl (by kernel_rfl) (by kernel_rfl) (by kernel_rfl) (fun _ _ _ h => h) (Or.inl ⟨by rfl, ?_⟩) hS4 ?_
                        rotate_left
                        · (intro w _; go_simp; try with_reducible rfl)
                        refine wpAnyH_ready (rs := [16]) (by kernel_rfl) (by simp) (AllReadyH.cons rfl (fun K hK => ?_) AllReadyH.nil)
                        have u3 : W4.cell? ⟨pg, 3, none⟩ = some (.slice A PL.length c') := HP4.out.cell 3
                        have z3' : W4.frozen? ⟨pg, 3, none⟩ = false := HP4.out.frozen 3
                        go_simp
                        refine hK.out _ _ HC5 (fun _ => ?_)
                        clear hK K u3 z3'
                        refine wpAnyH_done (by kernel_rfl) ?_ _
                        generalize W4.setCell ⟨pg, 3, none⟩ (.slice (some ⟨gg, 0, none⟩) (PL.length + 1) cap) = W5 at HP5 HO5 HC5 ⊢
                        clear HP4 HC4 HC1 HPF1 HOW1 HT HSH HEN HPF HPV HTOK HLN HPFR HOW HCR HLK HFX hm5 HS HCH hlk hla hkey HSHE HPL HSW
                        go_simp
                        go_wp2_with fail
                        go_meet
                        exact ⟨some ⟨gg, 0, none⟩, cap, PL ++ [x], fun y hy => by rcases List.mem_append.1 hy with hy | hy; exact hin y hy; (simp at hy; subst hy; exact hxin), by simp; omega, HP5, HO5, HC5⟩
                      · go_simp
                        have HB1 : Hid (Blk (X.alloc (.cells x.cs 97)) X.heap.size 97 x.cs) := Blk.new _ _ _
                        have HC1 : Hid (Ch [pg] W0 (X.alloc (.cells x.cs 97))) := Lib.hid (HCR.out.trans (Ch.alloc _ _ _))
                        have HPF1 : Hid (Blk (X.alloc (.cells x.cs 97)) pg 78 (pfC pam psg tok A PL.length c')) := Lib.hid (HPFR.out.alloc _)
                        have HOW1 : Hid ((X.alloc (.cells x.cs 97)).ownsRow W0.heap.size 97 10 (.slice A PL.length c') PL.length (PL.flatMap Wn.cl)) := Lib.hid (HOW.out.alloc _)
                        refine hK.out _ _ HC1 (fun _ => ?_)
                        clear hK K
                        refine wpAnyH_gen fun X1 hX1 => ?_
                        replace hX1 : X1 = X.alloc (.cells x.cs 97) := hX1
                        rw [← hX1] at HB1 HC1 HPF1 HOW1
                        clear hX1
                        have u3 : X1.cell? ⟨pg, 3, none⟩ = some (.slice A PL.length c') := HPF1.out.cell 3
                        refine wpAnyH_ready (rs := [1]) (by kernel_rfl) (by simp) (AllReadyH.cons rfl (fun K hK => ?_) AllReadyH.nil)
                        go_simp
                        refine hK.out _ _ HC1 (fun _ => ?_)
                        clear hK K u3
                        have HNW := Lib.hid (World.news_of_block HB1.out)
                        refine wpAnyH_ready (rs := [14]) (by kernel_rfl) (by simp) (AllReadyH.cons rfl (fun K hK => ?_) AllReadyH.nil)
                        refine step_append_lies _ (by rfl) (.tmp 216) (.tmp 228) 76 (by rfl) W0.heap.size 97 n0 _ 10 112 Tryz.underlying76 hni Hnz.out hw1 hw2 rfl (by omega) (.slice A PL.length c') PL.length _ (by go_simp) HOW1.out ⟨X.heap.size, 0, none⟩ 1 1 x.cl (by go_simp) (by rfl) HNW.out (one_all (wncs_one x)) (by omega) (by simp only [maxLen]; omega) (by omega) HC1.out.size _ rfl ?_
                        intro gg cap W4 hown4 hgrow hat hlt4
                        obtain ⟨HQ1, HQ2, HQ3, HQ4, HQ5⟩ := win_step HC1.out HPF1.out HOW1.out hpgl hown4 hgrow
                        have HP4 := Lib.hid HQ1
                        have HC4 := Lib.hid HQ2
                        have HP5 := Lib.hid HQ3
                        have HO5 := Lib.hid HQ4
                        have HC5 := Lib.hid HQ5
                        clear hown4 hgrow hat hlt4 HQ1 HQ2 HQ3 HQ4 HQ5 HNW HB1
                        refine hK.out _ _ HC4 (fun hS4 => ?_)
                        clear hK K
                        refine wpAnyH_take (i := 15) (v := ?_) rfl (by kernel_rfl) (by kernel_rfl) (by kernel_rfl) (fun _ _ _ h => h) (Or.inl ⟨by rfl, ?_⟩) hS4 ?_
                        rotate_left
                        · (intro w _; go_simp; try with_reducible rfl)
                        refine wpAnyH_ready (rs := [16]) (by kernel_rfl) (by simp) (AllReadyH.cons rfl (fun K hK => ?_) AllReadyH.nil)
                        have u3 : W4.cell? ⟨pg, 3, none⟩ = some (.slice A PL.length c') := HP4.out.cell 3
                        have z3' : W4.frozen? ⟨pg, 3, none⟩ = false := HP4.out.frozen 3
                        go_simp
                        refine hK.out _ _ HC5 (fun _ => ?_)
                        clear hK K u3 z3'
                        refine wpAnyH_done (by kernel_rfl) ?_ _
                        generalize W4.setCell ⟨pg, 3, none⟩ (.slice (some ⟨gg, 0, none⟩) (PL.length + 1) cap) = W5 at HP5 HO5 HC5 ⊢
                        clear HP4 HC4 HC1 HPF1 HOW1 HT HSH HEN HPF HPV HTOK HLN HPFR HOW HCR HLK HFX hm5 HS HCH hlk hla hkey HSHE HPL HSW
                        go_simp
                        go_wp2_with fail
                        go_meet
                        exact ⟨some ⟨gg, 0, none⟩, cap, PL ++ [x], fun y hy => by rcases List.mem_append.1 hy with hy | hy; exact hin y hy; (simp at hy; subst hy; exact hxin), by simp; omega, HP5, HO5, HC5⟩
                    · go_meet
                      exact ⟨A, c', PL, hin, h3, HPFR, HOW, HCR⟩
                  case rest =>
                    clear HPFR HOW HCR x3 y2
                    obtain ⟨A2, c2, P2, hin2, h32, HP5, HO5, HC5⟩ := hcut
                    go_wp2_with fail
                    go_roundw
                    case rel =>
                      exact ⟨i + 1, A2, c2, P2, by omega, by go_num, hin2, h32, HP5, HO5, HC5⟩
                    case measure => simp [intOf]; omega
                · go_wp2_with fail
                  go_meet
                  exact ⟨A, c', PL, hin, h3, HPFR, HOW, HCR⟩
              · go_wp2_with fail
                go_meet
                exact ⟨A, c', PL, hin, h3, HPFR, HOW, HCR⟩
          case rest =>
            obtain ⟨A4, c4, PL, hin, h3, HPF4, HOW, HCR⟩ := hcut
            go_upto_region 42 with fail
            have HEN4 := Lib.hid (HEN.out.ch HCR.out (by simpa using hn2))
            have HT4 := Lib.hid (HT.out.other HCR.out hkd hpg (by decide) (by decide) (by decide))
            have HB4 := Lib.hid (HB.out.trans (HCR.out.below HB.out.size (by intro g hg; simp at hg; subst hg; exact Nat.le_trans HN.out hpg)))
            have HLK4 : Hid (lk.key = rootB sd 4 ∧ lk.anchor = tokB sd 20 0 ∧ lk.tok = 20 ∧ lk.am < 18446744073709551616 ∧ lk.unit = 7) := Lib.hid (by rw [← HLK.out]; exact ⟨rfl, rfl, rfl, by show 500 < _; omega, rfl⟩)
            refine wp_region_held_drew (S := fun W => Hid (Blk W en 37 (entC tx 1 lk) ∧ Blk W pg 78 (pfC pam psg tok A4 PL.length c4))) (by kernel_rfl) (Lib.hid ⟨HEN4.out.drewN 1, HPF4.out.drewN 1⟩) (fun hS => ?_)
            refine wpAnyH_take (i := 0) (v := .agg (entC tx 1 lk)) rfl (by kernel_rfl) (by kernel_rfl) (by kernel_rfl) (fun _ _ _ h => h) (yields_blk (by rfl) 37 (.tmp 9) (by rfl) en 0 11 (t := 37) (cs := entC tx 1 lk) (fun W h => h.out.1) (entC tx 1 lk) (by rfl) (by rfl) Tryz.underlying37 infoEnt (Nat.le_refl 11)) hS ?_
            refine wpAnyH_take (i := 2) (v := .agg (pfC pam psg tok A4 PL.length c4)) rfl (by kernel_rfl) (by kernel_rfl) (by kernel_rfl) (fun _ _ _ h => h) (yields_blk (by rfl) 78 (.tmp 25) (by rfl) pg 0 4 (t := 78) (cs := pfC pam psg tok A4 PL.length c4) (fun W h => h.out.2) (pfC pam psg tok A4 PL.length c4) (by rfl) (by rfl) Tryz.underlying78 infoPf (Nat.le_refl 4)) hS ?_
            refine wpAnyH_ready (rs := [1]) (by kernel_rfl) (by simp) (AllReadyH.cons rfl (fun K hK => ?_) AllReadyH.nil)
            go_simp
            refine (terms_any tx 1 lk _ (by omega) (by omega)).mono ?_
            rintro e X ⟨rfl, hb⟩
            have hb0 : Below wc.heap.size wc X := (Below.refl _ _).drew.trans hb
            have HE5 : Hid (Blk X en 37 (entC tx 1 lk)) := Lib.hid (HEN4.out.bel hb0)
            have HP5 : Hid (Blk X pg 78 (pfC pam psg tok A4 PL.length c4)) := Lib.hid (HPF4.out.bel hb0)
            have HT5 := Lib.hid (HT4.out.bel hb0)
            have HO5 : Hid (X.ownsRow W0.heap.size 97 10 (.slice A4 PL.length c4) PL.length (PL.flatMap Wn.cl)) := Lib.hid (own_chK HOW.out (Ch.of_below hb0 []) (by simp))
            have HB5 := Lib.hid (HB4.out.trans (hb0.mono HB4.out.size))
            clear hb hb0 HB4 HT4 HPF4 HEN4
            go_simp
            refine hK.out _ _ (Lib.hid ⟨HE5.out, HP5.out⟩) (fun _ => ?_)
            clear hK K
            refine wpAnyH_ready (rs := [3]) (by kernel_rfl) (by simp) (AllReadyH.cons rfl (fun K hK => ?_) AllReadyH.nil)
            go_simp
            have hpam : pam < 18446744073709551616 ∧ psg.size ≤ 400 := by
              rcases HPV.out with ⟨rfl, rfl⟩ | ⟨p, hp, rfl, rfl⟩
              · exact ⟨by omega, by decide⟩
              · have h1 := (HT5.out.ok.v p hp)
                obtain ⟨A0, _, a2⟩ := HT5.out.cl.all
                have hbd := HT5.out.cl.bd
                have := HLK4.out.2.2.2.1
                exact ⟨by omega, by rw [signB_size sd h1.2.2]; omega⟩
            refine (worth_any (lkT tx 1 lk) ⟨pam, psg, tok, A4, PL, c4⟩ X ⟨by show (nameB tx 1).size ≤ 4096; omega, by show lk.anchor.size = 16; rw [HLK4.out.2.1]; exact tokB_size _ _ _, by show lk.unit < _; rw [HLK4.out.2.2.2.2]; omega, by show lk.tok ≤ 4096; rw [HLK4.out.2.2.1]; omega⟩ (by show PL.length ≤ 1000; omega) (fun x hx => (HT5.out.ok.w x (hin x hx)).2.2.1) (Sl.of_own Wn.cl_len HO5.out) (by show psg.size ≤ 1000000; omega) hpam.1).mono ?_
            intro e Y hw
            obtain ⟨hb, v, f, rfl, hvf⟩ := shown_bd HT5.out ⟨HLK4.out.1, HLK4.out.2.1, HLK4.out.2.2.1, HLK4.out.2.2.2.1⟩ HPV.out HTOK.out hin h3 hw
            clear hw
            have HE6 := Lib.hid (HE5.out.bel hb)
            have HP6 := Lib.hid (HP5.out.bel hb)
            have HT6 := Lib.hid (HT5.out.bel hb)
            have HB6 := Lib.hid (HB5.out.trans (hb.mono HB5.out.size))
            clear hb HE5 HP5 HT5 HO5 HB5
            go_simp
            refine hK.out _ _ (Lib.hid ⟨HE6.out, HP6.out⟩) (fun hS => ?_)
            clear hK K
            refine wpAnyH_take (i := 4) (v := ?_) rfl (by kernel_rfl) (by kernel_rfl) (by kernel_rfl) (fun _ _ _ h => h) (Or.inl ⟨by rfl, ?_⟩) hS ?_
            rotate_left
            · (intro w _; go_simp; try with_reducible rfl)
            refine wpAnyH_take (i := 5) (v := ?_) rfl (by kernel_rfl) (by kernel_rfl) (by kernel_rfl) (fun _ _ _ h => h) (Or.inl ⟨by rfl, ?_⟩) hS ?_
            rotate_left
            · (intro w _; go_simp; try with_reducible rfl)
            refine wpAnyH_take (i := 6) (v := ?_) rfl (by kernel_rfl) (by kernel_rfl) (by kernel_rfl) (fun _ _ _ h => h) (Or.inl ⟨by rfl, ?_⟩) hS ?_
            rotate_left
            · (intro w _; go_simp; try with_reducible rfl)
            refine wpAnyH_take (i := 7) (v := ?_) rfl (by kernel_rfl) (by kernel_rfl) (by kernel_rfl) (fun _ _ _ h => h) (Or.inl ⟨by rfl, ?_⟩) hS ?_
            rotate_left
            · (intro w _; go_simp; try with_reducible rfl)
            refine wpAnyH_take (i := 8) (v := ?_) rfl (by kernel_rfl) (by kernel_rfl) (by kernel_rfl) (fun _ _ _ h => h) (Or.inl ⟨by rfl, ?_⟩) hS ?_
            rotate_left
            · (intro w _; go_simp; try with_reducible rfl)
            refine wpAnyH_done (by kernel_rfl) ?_ _
            have hbn := hk12
            clear HE6 HP6 hS hpam
            rcases hvf with ⟨rfl, hv0, hvb⟩ | rfl
            · have dvb : decide (v ≤ (b : Int)) = true := decide_eq_true hvb
              go_wp2_with fail
              refine (st_bound HT6.out.cl.st hlk.out (by omega) (by omega)).mono ?_
              rintro e Z ⟨rfl, hb⟩
              replace HB6 := Lib.hid (HB6.out.trans (hb.mono HB6.out.size))
              clear hb
              go_wp2_with fail
              refine (HFX _).out.mono ?_
              rintro e Z2 ⟨rfl, hb⟩
              go_wp2_with fail
              go_ret
              exact ⟨rfl, HB6.out.trans (hb.mono HB6.out.size)⟩
            · go_wp2_with fail
              refine (HFX _).out.mono ?_
              rintro e Z2 ⟨rfl, hb⟩
              go_wp2_with fail
              go_ret
              exact ⟨rfl, HB6.out.trans (hb.mono HB6.out.size)⟩
end Go.Proofs.YtgnlakbmibkjgaaGreat
