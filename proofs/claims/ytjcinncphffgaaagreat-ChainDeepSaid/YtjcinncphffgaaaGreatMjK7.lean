/- law10's Cut of a block. chain: Make. -/
import Derived.Outline
import Derived.Deep.RegionHeld3
import Derived.Deep.AppendLies
import Derived.Test.YtjcinncphffgaaaGreatMjCuX
import Derived.Test.YtjcinncphffgaaaGreatMjK4
import Derived.Test.YtjcinncphffgaaaGreatMjK6
import Derived.Test.YtjcinncphffgaaaGreatMjN6
set_option linter.unusedVariables false
set_option linter.unusedSimpArgs false
namespace Go.Proofs.YtjcinncphffgaaaGreat
open Go.RowKit Go.Maps
/-- law09's Cut, its answer's cells told -/
theorem tcut_x (t : Txn) (w : World) {w0 : World} (h : TxCame w0 t) (hb : Below w0.heap.size w0 w) :
    Calls Tryz.prog 19 #[.agg t.cs] w fun e w' => ∃ u : Txn, e = .returned (.agg #[.slice u.A u.ins.length u.c, .slice u.B u.outs.length u.d, .int .u64 (u.p.am : Nat), .string u.p.sig, .string u.p.tok, .slice u.p.A u.p.l.length u.p.c]) ∧ TxRows w.heap.size w' u ∧ TxOk u ∧ Below w.heap.size w w' :=
  (tcut_any t w (h.mem.bel hb) h.n1 h.n2 h.pf.len).mono fun e w' ⟨TA, TB, TP, k1, c1, k2, e1, k3, p1, he, hk1, hk2, hk3, r1, r2, r3, hb⟩ => by
    refine ⟨cutX t TA c1 TB e1 TP p1, ?_, ⟨by subst hk1; exact r1, by subst hk2; exact r2, by subst hk3; exact r3, ⟨fun q => ?_, fun q => ?_, fun q => ?_⟩⟩, cutx_ok h _ _ _ _ _ _, hb⟩
    · rw [he, cutx_cs t TA k1 c1 TB k2 e1 TP k3 p1 hk1 hk2 hk3]; rfl
    · have q' : TA = none := q
      subst q'; exact own_noneC r1
    · have q' : TB = none := q
      subst q'; exact own_noneC r2
    · have q' : TP = none := q
      subst q'; exact own_noneC r3
theorem Ut.objC {w : World} {b : Nat} {T : List En} (h : Ut w b T) : (∀ cs t fr, w.heap[b]? ≠ some (Obj.cells cs t fr)) := by
  obtain ⟨D, ⟨es, clock, hb, _⟩, _⟩ := h.own
  intro cs t fr e
  rw [hb] at e; cases e
/-- a row survives a write into a map -/
theorem own_map {w w' : World} {base size n bn : Nat} {e : TypeId} {v : Value} {xs : List Value} {T : List En} (h : w.ownsRow base e size v n xs) (u : Ut w bn T) (hc : Ch [bn] w w') : w'.ownsRow base e size v n xs := Ch.owns hc h (fun b hb hm => by
  simp at hm
  subst hm
  obtain ⟨_, h2⟩ := h
  rcases h2 with ⟨rfl, _⟩ | ⟨g, cap, cur, rfl, _, hh, _⟩
  · cases hb
  · have e : g = b := by injection hb
    subst e
    exact u.objC _ _ _ hh)
theorem SetAt.grown {w w' : World} {sb b base size n : Nat} {e : TypeId} {v : Value} {xs : List Value} {T : List En} (s : SetAt w sb b T) (ho : w.ownsRow base e size v n xs) (hg : w.grownBy w' v.ownBlock) (hne : 186 ≠ e) : SetAt w' sb b T := by
  refine ⟨s.hd.grown hg (blk_far s.hd ho hne), ?_⟩
  have hc : Ch v.ownBlock.toList w w' := ⟨hg.os, hg.tape, hg.output, hg.size, fun i hi hn => hg.block i hi (fun q => hn (by rw [← q]; simp))⟩
  refine s.ut.ch hc (fun hm => ?_)
  have hm' : v.ownBlock = some b := by simpa using hm
  obtain ⟨_, h2⟩ := ho
  rcases h2 with ⟨rfl, _⟩ | ⟨g, cap, cur, rfl, _, hh, _⟩
  · cases hm'
  · have e : g = b := by injection hm'
    subst e
    exact s.ut.objC _ _ _ hh
theorem TxRows.map {w w' : World} {base bn : Nat} {u : Txn} {T : List En} (h : TxRows base w u) (k : Ut w bn T) (hc : Ch [bn] w w') : TxRows base w' u := ⟨own_map h.r1 k hc, own_map h.r2 k hc, own_map h.r3 k hc, h.nz⟩
/-- a block in the making: its transactions' list and they themselves are the call's own -/
structure MkS (w0 : World) (g : Nat) (h : Int) (prev : ByteArray) (A : Option Addr) (c : Nat) (D : List Txn) (w : World) : Prop where
  blk : Blk w g 37 (Bm.cs ⟨h, prev, A, D, c⟩)
  row : w.ownsRow w0.heap.size 53 6 (.slice A D.length c) D.length (D.flatMap Txn.cl)
  txs : ∀ u ∈ D, TxRows w0.heap.size w u
  ok : ∀ u ∈ D, TxOk u
  bel : Below w0.heap.size w0 w
section
variable {w0 w w' : World} {g : Nat} {h : Int} {prev : ByteArray} {A : Option Addr} {c : Nat} {D : List Txn}
theorem MkS.go (k : MkS w0 g h prev A c D w) (hb : Below w.heap.size w w') : MkS w0 g h prev A c D w' :=
  ⟨k.blk.bel hb, own_belT k.row hb, fun u hu => (k.txs u hu).bel hb, k.ok, k.bel.trans (hb.mono k.bel.size)⟩
/-- another block of no such type is written -/
theorem MkS.ch {g2 : Nat} {t : TypeId} (k : MkS w0 g h prev A c D w) (hc : Ch [g2] w w') (hd : KdT w g2 t) (h2 : w0.heap.size ≤ g2) (hn : g ≠ g2) (h3 : t ≠ 59) (h4 : t ≠ 81) (h5 : t ≠ 122) (h6 : t ≠ 53) : MkS w0 g h prev A c D w' :=
  ⟨k.blk.ch hc (by simpa using hn), own_chT k.row hc hd h6, fun u hu => (k.txs u hu).ch hc hd h3 h4 h5, k.ok, k.bel.trans (hc.below k.bel.size (by simpa using h2))⟩
theorem MkS.map {bn : Nat} {T : List En} (k : MkS w0 g h prev A c D w) (u : Ut w bn T) (hc : Ch [bn] w w') (hn : w0.heap.size ≤ bn) : MkS w0 g h prev A c D w' :=
  ⟨k.blk.ch hc (by have := u.ne_blk k.blk; simpa using Ne.symm this), own_map k.row u hc, fun v hv => (k.txs v hv).map u hc, k.ok, k.bel.trans (hc.below k.bel.size (by simpa using hn))⟩
theorem MkS.mem (k : MkS w0 g h prev A c D w) : (Bm.mk h prev A D c).mem w :=
  ⟨Sl.of_own (fun _ => rfl) k.row, fun t ht => ⟨(k.txs t ht).mem, (k.txs t ht).nz⟩, fun q => by
    have q' : A = none := q
    subst q'; exact own_noneC k.row⟩
/-- one more is laid behind -/
theorem MkS.add {A' : Option Addr} {c' : Nat} {u : Txn} {w1 : World} {r : Value} {n : Nat} {xs : List Value} (k : MkS w0 g h prev A c D w) (ho : w.ownsRow w0.heap.size 53 6 r n xs) (hgr : w.grownBy w1 r.ownBlock) (hrow : w1.ownsRow w0.heap.size 53 6 (.slice A' (D.length + 1) c') (D.length + 1) (D.flatMap Txn.cl ++ u.cl))
    (hu : TxRows w0.heap.size w u) (hk : TxOk u) (hw : w0.heap.size ≤ g) : MkS w0 g h prev A' c' (D ++ [u]) (w1.setCell ⟨g, 2, none⟩ (.slice A' (D.length + 1) c')) := by
  have hb1 : Blk w1 g 37 (Bm.cs ⟨h, prev, A, D, c⟩) := k.blk.grown hgr (blk_far k.blk ho (by decide))
  have hcs : Ch [g] w1 (w1.setCell ⟨g, 2, none⟩ (.slice A' (D.length + 1) c')) := Ch.set_ (by simp) _ _ _
  have hbel : Below w0.heap.size w0 w1 := k.bel.grown hgr k.bel.size (fun j hj => own_base ho j hj)
  have hlen : (D ++ [u]).length = D.length + 1 := by simp
  refine ⟨?_, ?_, fun v hv => ?_, fun v hv => ?_, hbel.trans (hcs.below hbel.size (by simpa using hw))⟩
  · have := hb1.set_ 2 (.slice A' (D.length + 1) c')
    unfold Bm.cs
    rw [hlen]
    exact this
  · rw [hlen, List.flatMap_append, List.flatMap_singleton]
    exact own_chT hrow hcs hb1.kdT (by decide)
  · rcases List.mem_append.1 hv with hv | hv
    · exact ((k.txs v hv).grown ho hgr (by decide) (by decide) (by decide)).ch hcs hb1.kdT (by decide) (by decide) (by decide)
    · rw [List.mem_singleton.1 hv]; exact (hu.grown ho hgr (by decide) (by decide) (by decide)).ch hcs hb1.kdT (by decide) (by decide) (by decide)
  · rcases List.mem_append.1 hv with hv | hv
    · exact k.ok v hv
    · rw [List.mem_singleton.1 hv]; exact hk
end
end Go.Proofs.YtjcinncphffgaaaGreat
namespace Go.Proofs.YtjcinncphffgaaaGreat
open Go.RowKit Go.Maps
variable {w : World} {cb : Nat} {m : CnM} {s : Cn}
/-- coin.Copy, its answer's cells told -/
theorem copy_x (t : Txn) (w : World) (hm : t.mem w) (hz : t.nz) (hk : t.sm) :
    Calls Tryz.prog 67 #[.agg t.cs] w fun e w' => ∃ u : Txn, e = .returned (.agg #[.slice u.A u.ins.length u.c, .slice u.B u.outs.length u.d, .int .u64 (u.p.am : Nat), .string u.p.sig, .string u.p.tok, .slice u.p.A u.p.l.length u.p.c]) ∧ t.al u ∧ TxRows w.heap.size w' u ∧ Below w.heap.size w w' := copy_any t w hm hz hk.1 hk.2.1 hk.2.2
/-- how far Make is: what was made of the first k, and what is to come -/
structure MkT (w0 : World) (sn bn g N : Nat) (h : Int) (tp : ByteArray) (T0 : List En) (l : List Txn) (k : Nat) (A : Option Addr) (c : Nat) (D acc : List Txn) (T : List En) (w : World) : Prop where
  ms : MkS w0 g h tp A c D w
  al : al2 D acc
  le : acc.length ≤ 8
  set : SetAt w sn bn T
  ts : TS T
  len : T.length ≤ T0.length + 4 * acc.length
  eq : makeL (l.drop k) h acc T = makeL l h [] T0
  res : Blk w N 37 zBm.cs
section
variable {w0 w w' : World} {sn bn g N : Nat} {h : Int} {tp : ByteArray} {T0 : List En} {l : List Txn} {k : Nat} {A : Option Addr} {c : Nat} {D acc : List Txn} {T : List En}
theorem MkT.go (x : MkT w0 sn bn g N h tp T0 l k A c D acc T w) (hb : Below w.heap.size w w') : MkT w0 sn bn g N h tp T0 l k A c D acc T w' := ⟨x.ms.go hb, x.al, x.le, x.set.bel hb, x.ts, x.len, x.eq, x.res.bel hb⟩
theorem MkT.skip (x : MkT w0 sn bn g N h tp T0 l k A c D acc T w) (hk : k < l.length) (hn : ¬ (acc.length < 8 ∧ checkE T l[k] h = 0)) : MkT w0 sn bn g N h tp T0 l (k + 1) A c D acc T w := ⟨x.ms, x.al, x.le, x.set, x.ts, x.len, by
  rw [← x.eq, ← List.getElem_cons_drop hk, makeL, if_neg hn], x.res⟩
theorem MkT.len_ (x : MkT w0 sn bn g N h tp T0 l k A c D acc T w) : D.length = acc.length := x.al.len
end
set_option maxRecDepth 100000 in
set_option maxHeartbeats 4000000 in
theorem cmake_any (A0 : Option Addr) (l : List Txn) (c0 : Nat) (h : CnAt w cb m s) (hok : s.okk) (hts : TS s.T) (hl : s.ls.length ≤ 1000) (hlt : s.T.length ≤ 800) (hS : Sl w w.heap.size 6 Txn.cl A0 l) (hll : l.length ≤ 1000) (hm : ∀ t ∈ l, t.mem w ∧ t.nz) (hx : ∀ t ∈ l, TxOk t) :
    Calls Tryz.prog 13 #[.pointer (some ⟨cb, 0, none⟩), .slice A0 l.length c0] w fun e w' => ∃ b : Bm, e = .returned (.agg b.cs) ∧ b.h = (s.ls.length : Int) + 1 ∧ b.prev = tipC s ∧ al2 b.txs (makeL l ((s.ls.length : Int) + 1) [] s.T).1 ∧ b.mem w' ∧ (∀ t ∈ b.txs, TxOk t) ∧ Below w.heap.size w w' := by
  have HHE := fun W (hW : Below w.heap.size w W) => Lib.hid (cheight_any (h.bel hW))
  have HTI := fun W (hW : Below w.heap.size w W) => Lib.hid (ctip_any (h.bel hW) hok (by omega))
  have HCY := fun W (hW : Below w.heap.size w W) => Lib.hid (ucopy_any m.sb m.b s.T W (h.set.bel hW))
  obtain ⟨hh, hhe⟩ : ∃ hh : Int, hh = (s.ls.length : Int) + 1 := ⟨_, rfl⟩
  have hlw : wrap64 ((s.ls.length : Int) + 1) = hh := by rw [hhe]; exact IntWalk.wrap64_in _ ⟨by omega, by omega⟩
  have hlw' : IntKind.i64.wrap ((s.ls.length : Int) + 1) = hh := by rw [hhe]; exact IntWalk.i64_in _ (by omega)
  rw [← hhe]
  clear hhe
  have HCB := Lib.hid h.hd.lt
  have c2 : w.cell? ⟨cb, 2, none⟩ = some (.pointer (some ⟨m.sb, 0, none⟩)) := h.hd.cell 2
  have HSL := Lib.hid hS
  have HMM := Lib.hid hm
  have HXX := Lib.hid hx
  have HTS := Lib.hid hts
  generalize tipC s = tp at HTI ⊢
  obtain ⟨T0, hT0⟩ : ∃ T0, T0 = s.T := ⟨_, rfl⟩
  rw [← hT0] at HCY HTS hlt ⊢
  obtain ⟨n0, hni, hn0, hw1, hw2⟩ := info_parts Tryz.infoTxC
  have Hnz := Lib.hid hn0
  clear hn0 h hok hts hS hm hx hT0
  go_enter Tryz.func13, Tryz.ntmps13
  go_upto_region 1 with fail
  refine wp_gen fun V0 hV0 => ?_
  have HR : Hid (Blk V0 w.heap.size 37 zBm.cs) := Lib.hid (by rw [hV0]; exact Blk.new _ _ _)
  have HB : Hid (Below w.heap.size w V0) := Lib.hid (by rw [hV0]; exact (Below.refl _ _).alloc (Nat.le_refl _) _)
  clear hV0
  go_wp2_with fail
  refine (HHE _ HB.out).out.mono ?_
  rintro e V1 ⟨rfl, hq⟩
  rw [hq]; clear hq V1
  go_wp2_with fail
  refine (HTI _ HB.out).out.mono ?_
  rintro e V1 ⟨rfl, hb⟩
  replace HR := Lib.hid (HR.out.bel hb)
  replace HB := Lib.hid (HB.out.trans (hb.mono HB.out.size))
  clear hb HHE HTI
  have hg5 : Hid (w.heap.size + 1 ≤ V1.heap.size) := Lib.hid HR.out.lt
  go_upto_region 2 with fail
  try go_frame
  refine wp_gen fun V2 hV2 => ?_
  have H5 : Hid (Blk V2 V1.heap.size 37 (Bm.mk hh tp none [] 0).cs) := Lib.hid (by rw [hV2]; exact Blk.new _ _ _)
  have HBV : Hid (Below V1.heap.size V1 V2) := Lib.hid (by rw [hV2]; exact (Below.refl _ _).alloc (Nat.le_refl _) _)
  replace HR := Lib.hid (HR.out.bel HBV.out)
  have HB2 : Hid (Below w.heap.size w V2) := Lib.hid (HB.out.trans (HBV.out.mono HB.out.size))
  have c2' : V2.cell? ⟨cb, 2, none⟩ = some (.pointer (some ⟨m.sb, 0, none⟩)) := (HB2.out.cell (p := ⟨cb, 2, none⟩) HCB.out).trans c2
  clear hV2 HBV
  generalize V1.heap.size = g at H5 hg5 ⊢
  clear HB
  go_wp2_with fail
  refine (HCY _ HB2.out).out.mono ?_
  rintro e V3 ⟨sn, bn, rfl, hsn, hbn, hset, hb⟩
  have HSN : Hid (w.heap.size ≤ bn) := Lib.hid (Nat.le_trans HB2.out.size hbn)
  have HK : Hid (MkT w sn bn g w.heap.size hh tp T0 l 0 none 0 [] [] T0 V3) := Lib.hid ⟨⟨H5.out.bel hb, own_nil0 _ _ _ _, (fun u hu => by cases hu), (fun u hu => by cases hu), HB2.out.trans (hb.mono HB2.out.size)⟩, al2.nil, Nat.zero_le _, hset, HTS.out, by simp, by rw [List.drop_zero], HR.out.bel hb⟩
  clear hb hset hsn hbn HCY c2' c2 H5 HR HB2
  go_wp2_with fail
  go_loopw [22] (fun i wr => ∃ (k : Nat) (A : Option Addr) (c : Nat) (D acc : List Txn) (T : List En), k ≤ l.length ∧ i = .int .i64 k ∧ Hid (MkT w sn bn g w.heap.size hh tp T0 l k A c D acc T wr)) (fun i _ => l.length - (intOf i).toNat)
  case atStart => exact ⟨0, _, _, _, _, _, Nat.zero_le _, rfl, HK⟩
  case round =>
    clear HK
    obtain ⟨k, A, c, D, acc, T, hk, rfl, HK⟩ := hrel
    by_cases hlt2 : k < l.length
    · have d0 : decide (k < l.length) = true := decide_eq_true hlt2
      obtain ⟨ab, off, hA, hab, hc⟩ := HSL.out.at_ hlt2
      have HC : Hid (∀ j u, (l[k]).cl[j]? = some u → wr.cell? ⟨ab, off + k * 6 + j, none⟩ = some u) := Lib.hid (fun j u hu => (HK.out.ms.bel.cell (p := ⟨ab, off + k * 6 + j, none⟩) hab).trans (hc j u hu))
      have HTM := Lib.hid (HMM.out _ (List.getElem_mem hlt2))
      have HTO := Lib.hid (HXX.out _ (List.getElem_mem hlt2))
      have HSK := fun W (y : MkT w sn bn g w.heap.size hh tp T0 l k A c D acc T W) => Lib.hid (fun q => y.skip hlt2 q)
      have HEQ : Hid (acc.length < 8 ∧ checkE T l[k] hh = 0 → makeL (l.drop (k + 1)) hh (acc ++ [l[k]]) (applyT T l[k]) = makeL l hh [] T0) := Lib.hid (fun q => by
        have := HK.out.eq
        rw [← List.getElem_cons_drop hlt2, makeL, if_pos q] at this
        exact this)
      generalize l[k] = x at HC HTM HTO HSK HEQ
      subst hA
      have hDl := HK.out.len_
      have HQ8 : Hid (∀ q, (Value.slice A D.length c).ownBlock = some q → q < wr.heap.size) := Lib.hid (fun q hq => (HK.out.ms.row.lt q hq).2)
      have hD8 := HK.out.le
      have hTl := HK.out.len
      have KA := fun W (y : MkT w sn bn g w.heap.size hh tp T0 l k A c D acc T W) => Lib.hid (apply_any sn bn T x hh W y.set (HTM.out.1.bel y.ms.bel) y.ts.1 HTO.out)
      go_upto_region 6 with (first
        | (refine wpList_load_tx rfl (.tmp 24) rfl ab (off + k * 6) (by rfl) x HC.out ?_)
        | (refine wpList_store_part rfl 53 (.tmp 8) (.tmp 25) rfl wr.heap.size 0 (cs := zTxK) (Blk.new _ _ _) x.cs x.cs (by rfl) (by rfl) (Nat.le_refl 6) infoTx (txncs_one x) (txn_over x rfl) ?_; intro W1 hb1 hc1; have hb := bel_st' hc1; have H8 := Lib.hid hb1; replace HK := Lib.hid (HK.out.go hb); clear hb1 hc1 hb))
      try go_frame
      generalize wr.heap.size = g8 at H8 HQ8 ⊢
      have p2 : W1.cell? ⟨g, 2, none⟩ = some (.slice A D.length c) := HK.out.ms.blk.cell 2
      have p0 : W1.cell? ⟨g, 0, none⟩ = some (.int .i64 hh) := HK.out.ms.blk.cell 0
      clear HC hc
      by_cases h8 : acc.length < 8
      · have e1 : decide ((D.length : Int) < 8) = true := decide_eq_true (by omega)
        have e1' : decide (D.length < 8) = true := decide_eq_true (by omega)
        have hD9 : D.length < 8 := by omega
        clear hDl
        go_wp2_with (refine wpList_load_blkG (by rfl) 53 (.tmp 8) rfl g8 0 6 H8.out x.cs (by rfl) (txn_ext x) Tryz.underlying53 infoTx (Nat.le_refl 6) ?_)
        refine (KA _ HK.out).out.mono ?_
        rintro e W2 ⟨rfl, hc, hset⟩
        obtain ⟨ck, hck⟩ : ∃ c, c = checkE T x hh := ⟨_, rfl⟩
        rw [← hck] at hset
        have H82 := Lib.hid (H8.out.ch hc (by have := HK.out.set.ut.ne_blk H8.out; simpa using Ne.symm this))
        have HMK := Lib.hid (HK.out.ms.map HK.out.set.ut hc HSN.out)
        have HRE := Lib.hid (HK.out.res.ch hc (by have := HK.out.set.ut.ne_blk HK.out.res; simpa using Ne.symm this))
        by_cases hc0 : ck = 0
        rotate_left
        · rw [if_neg hc0] at hset
          replace HK : Hid (MkT w sn bn g w.heap.size hh tp T0 l k A c D acc T W2) := Lib.hid ⟨HMK.out, HK.out.al, HK.out.le, hset, HK.out.ts, HK.out.len, HK.out.eq, HRE.out⟩
          replace HK := Lib.hid ((HSK _ HK.out).out (fun q => hc0 (hck.trans q.2)))
          have f1 : (ck == 0) = false := beq_eq_false_iff_ne.2 hc0
          rw [← hck]
          clear HSK HEQ KA p0 p2 hset hc H82 HMK HRE hck hc0
          go_wp2_with fail
          go_roundw
          case rel => exact ⟨k + 1, A, c, D, acc, T, by omega, by go_num, HK⟩
          case measure => simp [intOf]; omega
        · rw [if_pos hc0] at hset
          have hcz : checkE T x hh = 0 := by rw [← hck]; exact hc0
          have HEQ2 := Lib.hid (HEQ.out ⟨h8, hcz⟩)
          have HTS2 : Hid (TS (applyT T x)) := Lib.hid ⟨tok_apply HK.out.ts.1 HK.out.ts.2 HTO.out hcz (by omega), apply_srt x HK.out.ts.2⟩
          have HTL2 : Hid ((applyT T x).length ≤ T.length + 4) := Lib.hid (apply_len T x (found_t (check_parts hcz).1).rt)
          have HAL := Lib.hid HK.out.al
          have HS2 := Lib.hid hset
          subst hc0
          rw [← hck]
          have HCX := fun W (hW : Below w.heap.size w W) => Lib.hid (copy_x x W (HTM.out.1.bel hW) HTM.out.2 HTO.out.sm)
          generalize applyT T x = T2 at HEQ2 HTS2 HTL2 HS2
          clear HSK HEQ KA p0 p2 hset hc hck hcz H8 HK
          go_upto_region 7 with fail
          refine wp_region_z (fun W => Hid (Blk W g 37 (Bm.cs ⟨hh, tp, A, D, c⟩) ∧ Blk W g8 53 x.cs)) [7] (by kernel_rfl) (Lib.hid ⟨HMK.out.blk.drewN 1, H82.out.drewN 1⟩) (fun hS => ?_)
          replace HMK : Hid (MkS w g hh tp A c D W2.drew) := Lib.hid (HMK.out.go (Below.refl _ _).drew)
          replace HRE : Hid (Blk W2.drew w.heap.size 37 zBm.cs) := Lib.hid (HRE.out.drewN 1)
          replace HS2 : Hid (SetAt W2.drew sn bn T2) := Lib.hid (HS2.out.bel (Below.refl _ _).drew)
          refine wpAnyZ_gen fun X2 hX => ?_
          rw [← hX] at HMK HRE HS2 hS
          clear hX H82
          refine wpAnyZ_take (i := 0) (v := ?_) rfl (by kernel_rfl) (by kernel_rfl) (by kernel_rfl) (by kernel_rfl) (by kernel_rfl) (by decide) (fun _ _ _ h => h) (Or.inl ⟨by rfl, ?_⟩) hS ?_
          rotate_left
          · (intro w _; go_simp; try with_reducible rfl)
          refine wpAnyZ_take (i := 1) (v := ?_) rfl (by kernel_rfl) (by kernel_rfl) (by kernel_rfl) (by kernel_rfl) (by kernel_rfl) (by decide) (fun _ _ _ h => h) (Or.inl ⟨by rfl, ?_⟩) hS ?_
          rotate_left
          · (intro w hS'; have hcell := (show World.cell? _ ⟨g, 2, none⟩ = some (.slice A D.length c) from Blk.cell hS'.out.1 2); go_simp; try with_reducible rfl)
          refine wpAnyZ_take (i := 2) (v := .agg x.cs) rfl (by kernel_rfl) (by kernel_rfl) (by kernel_rfl) (by kernel_rfl) (by kernel_rfl) (by decide) (fun _ _ _ h => h) ((yields_blk (by rfl) 53 (.tmp 8) (by rfl) g8 0 6 (t := 53) (cs := x.cs) (fun W h => h.out.2) x.cs (by rfl) (txn_ext x) Tryz.underlying53 infoTx (Nat.le_refl 6))) hS ?_
          refine wpAnyZ_ready (rs := [3]) (by kernel_rfl) (by simp) (AllReadyZ.cons rfl (fun K hK => ?_) AllReadyZ.nil)
          go_simp
          refine (HCX X2 HMK.out.bel).out.mono ?_
          rintro e W ⟨u, rfl, hal, hrows, hb⟩
          have HRW := Lib.hid (hrows.mono HMK.out.bel.size)
          have HUA := Lib.hid hal
          have hSW := Lib.hid (And.intro (hS.out.1.bel hb) (hS.out.2.bel hb))
          replace HMK := Lib.hid (HMK.out.go hb)
          replace HRE := Lib.hid (HRE.out.bel hb)
          replace HS2 := Lib.hid (HS2.out.bel hb)
          clear hrows hal hb HCX
          go_simp
          refine hK.out _ _ (fun _ => hSW) ?_
          clear hK K
          clear hS
          refine wpAnyZ_ready (rs := [4]) (by kernel_rfl) (by simp) (AllReadyZ.cons rfl (fun K hK => ?_) AllReadyZ.nil)
          go_simp
          have HBA : Hid (Below W.heap.size W (W.alloc (.cells u.cs 53))) := Lib.hid ((Below.refl _ _).alloc (Nat.le_refl _) _)
          have HNB : Hid (Blk (W.alloc (.cells u.cs 53)) W.heap.size 53 u.cs) := Blk.new _ _ _
          refine hK.out _ _ (fun _ => Lib.hid ⟨hSW.out.1.bel HBA.out, hSW.out.2.bel HBA.out⟩) ?_
          clear hK K
          refine wpAnyZ_gen fun X1 hX1 => ?_
          replace hX1 : X1 = W.alloc (.cells u.cs 53) := hX1
          rw [← hX1] at HBA HNB
          clear hX1
          have HNW := Lib.hid (World.news_of_block HNB.out)
          have hS3 := Lib.hid (And.intro (hSW.out.1.bel HBA.out) (hSW.out.2.bel HBA.out))
          replace HMK := Lib.hid (HMK.out.go HBA.out)
          replace HRE := Lib.hid (HRE.out.bel HBA.out)
          replace HS2 := Lib.hid (HS2.out.bel HBA.out)
          replace HRW := Lib.hid (HRW.out.bel HBA.out)
          have hz1 := HMK.out.bel.size
          refine wpAnyZ_ready (rs := [5]) (by kernel_rfl) (by simp) (AllReadyZ.cons rfl (fun K hK => ?_) AllReadyZ.nil)
          refine step_append_lies _ (by rfl) (.tmp 39) (.tmp 42) 32 (by rfl) w.heap.size 53 n0 _ 6 112 Tryz.underlying32 hni Hnz.out hw1 hw2 rfl (by omega) (.slice A D.length c) D.length (D.flatMap Txn.cl) (by rfl) HMK.out.row ⟨W.heap.size, 0, none⟩ 1 1 u.cl (by rfl) (by rfl) HNW.out (txcl_one u) (by omega) (by simp only [maxLen]; omega) (by omega) hz1 _ rfl ?_
          intro gg cap W4 hown4 hgrow hat hlt4
          have HM5 := Lib.hid (HMK.out.add HMK.out.row hgrow hown4 HRW.out (al_ok HUA.out HTO.out) (by have := hg5.out; omega))
          have HE4 := Lib.hid (HRE.out.grown hgrow (blk_far HRE.out HMK.out.row (by decide)))
          have HT4 := Lib.hid (HMK.out.blk.grown hgrow (blk_far HMK.out.blk HMK.out.row (by decide)))
          have H84 := Lib.hid (hS3.out.2.grown hgrow (fun e => by have := HQ8.out _ e.symm; omega))
          have HS4 : Hid (SetAt W4 sn bn T2) := Lib.hid (HS2.out.grown HMK.out.row hgrow (by decide))
          have hS4 := Lib.hid (And.intro HT4.out H84.out)
          clear hown4 hgrow hat hlt4 HNB HNW HMK HRE HRW HBA HS2 hS3 hSW
          refine hK.out _ _ (fun _ => hS4) ?_
          clear hK K
          refine wpAnyZ_take (i := 6) (v := ?_) rfl (by kernel_rfl) (by kernel_rfl) (by kernel_rfl) (by kernel_rfl) (by kernel_rfl) (by decide) (fun _ _ _ h => h) (Or.inl ⟨by rfl, ?_⟩) hS4 ?_
          rotate_left
          · (intro w _; go_simp; try with_reducible rfl)
          refine wpAnyZ_ready (rs := [7]) (by kernel_rfl) (by simp) (AllReadyZ.cons rfl (fun K hK => ?_) AllReadyZ.nil)
          have u3 : W4.cell? ⟨g, 2, none⟩ = some (.slice A D.length c) := HT4.out.cell 2
          have z3 : W4.frozen? ⟨g, 2, none⟩ = false := HT4.out.frozen 2
          go_simp
          refine hK.out _ _ (fun h => absurd (by decide) h) ?_
          clear hK K
          refine wpAnyZ_done (by kernel_rfl) ?_ _
          clear u3 z3 hS4
          have HCS : Hid (Ch [g] W4 (W4.setCell ⟨g, 2, none⟩ (.slice (some ⟨gg, 0, none⟩) (D.length + 1) cap))) := Lib.hid (Ch.set_ (by simp) _ _ _)
          have HS5 : Hid (SetAt (W4.setCell ⟨g, 2, none⟩ (.slice (some ⟨gg, 0, none⟩) (D.length + 1) cap)) sn bn T2) := Lib.hid ⟨HS4.out.hd.ch HCS.out (by have := HS4.out.hd.ne_ HT4.out (by decide); simpa using this), HS4.out.ut.ch HCS.out (by have := HS4.out.ut.ne_blk HT4.out; simpa using this)⟩
          have HE5 := Lib.hid (HE4.out.ch HCS.out (by have := hg5.out; simp; omega))
          have HK5 : Hid (MkT w sn bn g w.heap.size hh tp T0 l (k + 1) (some ⟨gg, 0, none⟩) cap (D ++ [u]) (acc ++ [x]) T2 (W4.setCell ⟨g, 2, none⟩ (.slice (some ⟨gg, 0, none⟩) (D.length + 1) cap))) := Lib.hid ⟨HM5.out, HAL.out.snoc HUA.out.symm, by simp; omega, HS5.out, HTS2.out, by have := HTL2.out; simp; omega, HEQ2.out, HE5.out⟩
          generalize (W4.setCell ⟨g, 2, none⟩ (.slice (some ⟨gg, 0, none⟩) (D.length + 1) cap)) = W5 at HK5 ⊢
          clear HCS HS5 HE5 HM5 HE4 HT4 HS4 H84
          go_wp2_with fail
          go_roundw
          case rel => exact ⟨k + 1, _, _, _, _, _, by omega, by go_num, HK5⟩
          case measure => simp [intOf]; omega
      · have e1 : decide ((D.length : Int) < 8) = false := decide_eq_false (by omega)
        have e1' : decide (D.length < 8) = false := decide_eq_false (by omega)
        replace HK := Lib.hid ((HSK _ HK.out).out (fun q => h8 q.1))
        clear HSK HEQ KA p0
        go_wp2_with fail
        go_roundw
        case rel => exact ⟨k + 1, A, c, D, acc, T, by omega, by go_num, HK⟩
        case measure => simp [intOf]; omega
    · have d0 : decide (k < l.length) = false := decide_eq_false hlt2
      obtain rfl : k = l.length := by omega
      have heq : makeL l hh [] T0 = (acc, T) := by
        have := HK.out.eq
        rw [List.drop_length] at this
        exact this.symm
      have HEQ := Lib.hid heq
      clear heq
      have HFI := fun (W6 : World) (hc : Ch [w.heap.size] wr W6) => Lib.hid (HK.out.ms.ch hc HK.out.res.kdT (Nat.le_refl _) (by have := hg5.out; omega) (by decide) (by decide) (by decide) (by decide))
      go_wp2_with (first
        | (refine wpList_load_blk rfl 37 (.tmp 5) rfl g 0 3 HK.out.ms.blk (Bm.cs ⟨hh, tp, A, D, c⟩) (by rfl) (by rfl) Tryz.underlying37 infoBk (Nat.le_refl 3) ?_)
        | (refine wpList_store_part rfl 37 (.tmp 4) (.tmp 46) rfl w.heap.size 0 HK.out.res (Bm.cs ⟨hh, tp, A, D, c⟩) (Bm.cs ⟨hh, tp, A, D, c⟩) (by rfl) (by rfl) (Nat.le_refl 3) infoBk (bmcs_one _) (bm_over _ rfl) ?_; intro W6 hb6 hc6; have HR6 := Lib.hid hb6; have HC6 := Lib.hid hc6; clear hb6 hc6))
      exact bodyPost_ret (results_cell_row rfl _ _ w.heap.size 37 _ (0, 0) _ rfl HR6.out Tryz.underlying37 rfl infoBk) rfl ⟨Bm.mk hh tp A D c, rfl, rfl, rfl, by rw [HEQ.out]; exact HK.out.al, (HFI _ HC6.out).out.mem, HK.out.ms.ok, (HFI _ HC6.out).out.bel⟩
end Go.Proofs.YtjcinncphffgaaaGreat
