/- law09's Cut of a transaction. The element of a row of the call's own. law11's Outs: outputs that came in, cut, and as the document has them. -/
import Derived.Outline
import Derived.Deep.DeepCutAuto
import Derived.Deep.CutBlock
import Derived.Deep.AppendLies
import Derived.Test.YtjcinncphffgaaaGreatMjG29
import Derived.Test.YtjcinncphffgaaaGreatMjN1
import Derived.Test.YtjcinncphffgaaaGreatMjN6
import Derived.Test.YtjcinncphffgaaaGreatMjNum
set_option linter.unusedVariables false
set_option linter.unusedSimpArgs false
namespace Go.Proofs.YtjcinncphffgaaaGreat
open Go.RowKit Go.Maps
theorem Tryz.infoInC : (Tryz.prog.info? 59).map (fun i => (i.zero, i.size, i.bytes)) = some (some (.agg zInp.cs), 4, 48) := by kernel_rfl
theorem Tryz.infoOutC : (Tryz.prog.info? 81).map (fun i => (i.zero, i.size, i.bytes)) = some (some (.agg zOu.cs), 9, 104) := by kernel_rfl
theorem infoInZ : (Tryz.prog.info? 59).map (·.size) = some 4 := by kernel_rfl
theorem infoTxZ : (Tryz.prog.info? 53).map (·.size) = some 6 := by kernel_rfl
theorem cutN_min (s : ByteArray) (n : Nat) : min (s.size : Int) (n : Int) = (cutN s n : Int) := by unfold cutN; split <;> omega
theorem cutN_min40 (s : ByteArray) : min (s.size : Int) 40 = (cutN s 40 : Int) := cutN_min s 40
theorem cutN_min450 (s : ByteArray) : min (s.size : Int) 450 = (cutN s 450 : Int) := cutN_min s 450
def cutI (i : Inp) : Inp := { i with tx := cutT i.tx 40, sig := cutT i.sig 450 }
def cutIs (t : Txn) (k : Nat) : List Inp := (t.ins.take k).map cutI
def cutOs (t : Txn) (k : Nat) : List Ou := (t.outs.take k).map cutO
theorem cutIs_snoc (t : Txn) (k : Nat) (h : k < t.ins.length) : (cutIs t (k + 1)).flatMap Inp.cl = (cutIs t k).flatMap Inp.cl ++ (cutI t.ins[k]).cl := by
  unfold cutIs
  rw [List.take_succ_eq_append_getElem h, List.map_append, List.flatMap_append]; simp
theorem cutOs_snoc (t : Txn) (k : Nat) (h : k < t.outs.length) : (cutOs t (k + 1)).flatMap Ou.cl = (cutOs t k).flatMap Ou.cl ++ (cutO t.outs[k]).cl := by
  unfold cutOs
  rw [List.take_succ_eq_append_getElem h, List.map_append, List.flatMap_append]; simp
/-- a transaction that is being cut -/
def txK (A : Option Addr) (k c : Nat) (B : Option Addr) (m d : Nat) (am : Nat) (sig tok : ByteArray) (PA : Option Addr) (n e : Nat) : Array Value := #[.slice A k c, .slice B m d, .int .u64 (am : Nat), .string sig, .string tok, .slice PA n e]
theorem txK_one (A : Option Addr) (k c : Nat) (B : Option Addr) (m d : Nat) (am : Nat) (sig tok : ByteArray) (PA : Option Addr) (n e : Nat) : (txK A k c B m d am sig tok PA n e).all (·.oneCell') = true := by
  rw [Array.all_eq_true']
  intro x hx
  simp only [txK, List.mem_toArray, List.mem_cons, List.not_mem_nil, or_false] at hx
  rcases hx with rfl | rfl | rfl | rfl | rfl | rfl <;> rfl
theorem txK_over (A : Option Addr) (k c : Nat) (B : Option Addr) (m d : Nat) (am : Nat) (sig tok : ByteArray) (PA : Option Addr) (n e : Nat) {cs : Array Value} (h : cs.size = 6) : over cs 0 (txK A k c B m d am sig tok PA n e).toList = txK A k c B m d am sig tok PA n e := (over_full (txK A k c B m d am sig tok PA n e).toList cs (by rw [h]; rfl)).trans (Array.toArray_toList ..)
def zTxK : Array Value := txK none 0 0 none 0 0 0 ByteArray.empty ByteArray.empty none 0 0
theorem incl1 (i : Inp) : ∀ u ∈ i.cl, u.oneCell' = true := fun u hu => Array.all_eq_true'.1 (incs_one i) u (by simpa [Inp.cl] using hu)
theorem oucl1 (o : Ou) : ∀ u ∈ o.cl, u.oneCell' = true := fun u hu => Array.all_eq_true'.1 (oucs_one o) u (by simpa [Ou.cl] using hu)
theorem inI_over (i : Inp) {cs : Array Value} (h : cs.size = 4) : over cs 0 i.cs.toList = i.cs := inv_over i h
set_option maxRecDepth 100000 in
set_option maxHeartbeats 2000000 in
theorem tcut_any (t : Txn) (w0 : World) (hm : t.mem w0) (h1 : t.ins.length ≤ maxLen) (h2 : t.outs.length ≤ maxLen) (h3 : t.p.l.length ≤ maxLen) :
    Calls Tryz.prog 19 #[.agg t.cs] w0 fun e w' => ∃ (A B PA : Option Addr) (k c m d n pc : Nat), e = .returned (.agg (txK A k c B m d t.p.am (cutT t.p.sig 450) (cutT t.p.tok 40) PA n pc)) ∧
      k = ((t.ins.take 6).map cutI).length ∧ m = ((t.outs.take 6).map cutO).length ∧ n = ((t.p.l.take 6).map cutW).length ∧
      w'.ownsRow w0.heap.size 59 4 (.slice A k c) k (((t.ins.take 6).map cutI).flatMap Inp.cl) ∧ w'.ownsRow w0.heap.size 81 9 (.slice B m d) m (((t.outs.take 6).map cutO).flatMap Ou.cl) ∧
      w'.ownsRow w0.heap.size 122 10 (.slice PA n pc) n (((t.p.l.take 6).map cutW).flatMap Wn.cl) ∧ Below w0.heap.size w0 w' := by
  unfold maxLen at h1 h2
  have HX : Hid (Blk ((w0.alloc (.cells t.cs 53)).alloc (.cells zTxK 53)) w0.heap.size 53 t.cs) := Lib.hid ((Blk.new _ _ _).alloc _)
  have HR : Hid (Blk ((w0.alloc (.cells t.cs 53)).alloc (.cells zTxK 53)) (w0.heap.size + 1) 53 zTxK) := Blk.newAt (by simp)
  have HB : Hid (Below w0.heap.size w0 ((w0.alloc (.cells t.cs 53)).alloc (.cells zTxK 53))) := ((Below.refl _ _).alloc (Nat.le_refl _) _).alloc (by simp) _
  have HM := Lib.hid hm
  have HLC := fun W (hW : Below w0.heap.size w0 W) => Lib.hid (lcut_any t.p W (hm.bel hW).wins h3)
  have HSI := Lib.hid hm.ins
  have HSO := Lib.hid hm.outs
  clear hm
  obtain ⟨n0, hni, hn0, hn1, hn2⟩ := info_parts Tryz.infoInC
  have HNZ := Lib.hid hn0
  obtain ⟨o0, hoi, ho0, ho1, ho2⟩ := info_parts Tryz.infoOutC
  have HOZ := Lib.hid ho0
  clear hn0 ho0
  go_enter Tryz.func19, Tryz.ntmps19
  go_upto_region 1 with fail
  refine wp_gen fun X0 hX => ?_
  replace HX : Hid (Blk X0 w0.heap.size 53 t.cs) := Lib.hid (by rw [hX]; exact HX.out)
  replace HR : Hid (Blk X0 (w0.heap.size + 1) 53 zTxK) := Lib.hid (by rw [hX]; exact HR.out)
  replace HB : Hid (Below w0.heap.size w0 X0) := Lib.hid (by rw [hX]; exact HB.out)
  clear hX
  go_wp2_with (refine wpList_load_blk rfl 51 (.tmp 7) rfl w0.heap.size 2 4 HX.out t.p.cs (by rfl) (txn_pf t) Tryz.underlying51 infoPf (by show 6 ≤ 6; omega) ?_)
  refine (HLC _ HB.out).out.mono ?_
  rintro e W1 ⟨PA, n, pc, rfl, hn, how, hb⟩
  have HNN := Lib.hid hn
  have HOW := Lib.hid (how.mono HB.out.size)
  replace HX := Lib.hid (HX.out.bel hb)
  replace HR := Lib.hid (HR.out.bel hb)
  replace HB := Lib.hid (HB.out.trans (hb.mono HB.out.size))
  clear hn how hb HLC
  go_wp2_with (refine wpList_store_part rfl 53 (.tmp 3) (.tmp 10) rfl W1.heap.size 0 (cs := zTxK) (Blk.new _ _ _) (txK none 0 0 none 0 0 t.p.am (cutT t.p.sig 450) (cutT t.p.tok 40) PA n pc) (txK none 0 0 none 0 0 t.p.am (cutT t.p.sig 450) (cutT t.p.tok 40) PA n pc) (by rfl) (by rfl) (Nat.le_refl 6) infoTxZ (txK_one ..) (txK_over _ _ _ _ _ _ _ _ _ _ _ _ rfl) ?_; intro W2 hb1 hc1; have HT := Lib.hid hb1; have HBA : Hid (Below W1.heap.size W1 W2) := Lib.hid (((Below.refl _ _).alloc (Nat.le_refl _) _).trans (hc1.below (by simp) (by simp))); clear hb1 hc1)
  replace HX := Lib.hid (HX.out.bel HBA.out)
  have hgX : w0.heap.size + 1 < W1.heap.size := HR.out.lt
  replace HR := Lib.hid (HR.out.bel HBA.out)
  replace HOW := Lib.hid (own_belT HOW.out HBA.out)
  replace HB := Lib.hid (HB.out.trans (HBA.out.mono HB.out.size))
  clear HBA
  generalize W1.heap.size = g at HT hgX ⊢
  obtain ⟨sg, hsg⟩ : ∃ x, x = cutT t.p.sig 450 := ⟨_, rfl⟩
  obtain ⟨tk, htk⟩ : ∃ x, x = cutT t.p.tok 40 := ⟨_, rfl⟩
  obtain ⟨am, ham⟩ : ∃ x, x = t.p.am := ⟨_, rfl⟩
  rw [← hsg, ← htk, ← ham] at HT
  rw [← hsg, ← htk, ← ham]
  have HSG := Lib.hid hsg
  have HTK := Lib.hid htk
  have HAM := Lib.hid ham
  clear hsg htk ham
  have HO0 : Hid (W2.ownsRow w0.heap.size 59 4 (.slice none 0 0) 0 []) := Lib.hid (own_nil0 _ _ _ _)
  have c0 : W2.cell? ⟨w0.heap.size, 0, none⟩ = some (.slice t.A t.ins.length t.c) := Blk.cell HX.out 0
  go_wp2_with fail
  clear c0
  go_loopw [4] (fun i wr => ∃ (k : Nat) (A : Option Addr) (c : Nat), k ≤ t.ins.length ∧ k ≤ 6 ∧ i = .int .i64 k ∧ Hid (Blk wr w0.heap.size 53 t.cs) ∧ Hid (Blk wr (w0.heap.size + 1) 53 zTxK) ∧ Hid (Blk wr g 53 (txK A k c none 0 0 am sg tk PA n pc)) ∧ Hid (wr.ownsRow w0.heap.size 59 4 (.slice A k c) k ((cutIs t k).flatMap Inp.cl)) ∧ Hid (wr.ownsRow w0.heap.size 122 10 (.slice PA n pc) n (((t.p.l.take 6).map cutW).flatMap Wn.cl)) ∧ Hid (Below w0.heap.size w0 wr)) (fun i _ => 6 - (intOf i).toNat)
  case atStart => exact ⟨0, none, 0, Nat.zero_le _, Nat.zero_le _, rfl, HX, HR, HT, HO0, HOW, HB⟩
  case round =>
    clear HX HR HT HO0 HOW HB
    obtain ⟨k, A, c, hk, hk6, rfl, HX, HR, HT, HO, HOW, HB⟩ := hrel
    have c0 : wr.cell? ⟨w0.heap.size, 0, none⟩ = some (.slice t.A t.ins.length t.c) := Blk.cell HX.out 0
    by_cases hlt : k < t.ins.length ∧ k < 6
    · obtain ⟨hlt, h6⟩ := hlt
      have HSN := Lib.hid (cutIs_snoc t k hlt)
      obtain ⟨ab, off, hA, hab, hc⟩ := HSI.out.at_ hlt
      rw [hA] at c0
      have HC := Lib.hid (fun (W : World) (hW : Below w0.heap.size w0 W) (j : Nat) (u : Value) (hu : (t.ins[k]).cl[j]? = some u) => (hW.cell (p := ⟨ab, off + k * 4 + j, none⟩) hab).trans (hc j u hu))
      clear hA hc
      generalize t.ins[k] = x at HC HSN
      have d1 : decide ((k : Int) < (t.ins.length : Int)) = true := decide_eq_true (by omega)
      have d2 : decide ((k : Int) < 6) = true := decide_eq_true (by omega)
      have d3 : decide (k < t.ins.length) = true := decide_eq_true hlt
      have HCx := Lib.hid (HC.out _ HB.out)
      go_upto_region 6 with (first
        | (refine wpList_load_in rfl (.tmp 25) rfl ab (off + k * 4) (by rfl) x HCx.out ?_)
        | (refine wpList_store_part rfl 59 (.tmp 5) (.tmp 26) rfl wr.heap.size 0 (cs := zInp.cs) (Blk.new _ _ _) x.cs x.cs (by rfl) (by rfl) (Nat.le_refl 4) infoInZ (incs_one x) (inI_over x rfl) ?_; intro W3 hb1 hc1; have H5 := Lib.hid hb1; have HBA : Hid (Below wr.heap.size wr W3) := Lib.hid (((Below.refl _ _).alloc (Nat.le_refl _) _).trans (hc1.below (by simp) (by simp))); clear hb1 hc1))
      clear HCx c0
      have hwz : w0.heap.size + 1 < wr.heap.size := HR.out.lt
      have HQ5 : Hid ((Value.slice A k c).ownBlock ≠ some wr.heap.size) := Lib.hid (fun q => by have := (HO.out.lt _ q).2; omega)
      replace HX := Lib.hid (HX.out.bel HBA.out)
      replace HR := Lib.hid (HR.out.bel HBA.out)
      replace HT := Lib.hid (HT.out.bel HBA.out)
      replace HO := Lib.hid (own_belT HO.out HBA.out)
      replace HOW := Lib.hid (own_belT HOW.out HBA.out)
      replace HB := Lib.hid (HB.out.trans (HBA.out.mono HB.out.size))
      clear HBA
      generalize wr.heap.size = g5 at H5 hwz HQ5 ⊢
      have b0 : W3.cell? ⟨g5, 0, none⟩ = some (.string x.tx) := H5.out.cell 0
      have b3 : W3.cell? ⟨g5, 3, none⟩ = some (.string x.sig) := H5.out.cell 3
      have z0 : W3.frozen? ⟨g5, 0, none⟩ = false := H5.out.frozen 0
      have z3 : W3.frozen? ⟨g5, 3, none⟩ = false := H5.out.frozen 3
      have l0 := (cutN_le x.tx 40).1
      have l3 := (cutN_le x.sig 450).1
      have hgw : g < W3.heap.size := HT.out.lt
      have hne : g ≠ g5 := HT.out.ne_ H5.out (by decide)
      have HCH : Hid (Ch [g5] W3 ((W3.setCell ⟨g5, 0, none⟩ (.string (x.tx.extract 0 (cutN x.tx 40)))).setCell ⟨g5, 3, none⟩ (.string (x.sig.extract 0 (cutN x.sig 450))))) := Lib.hid ((Ch.set_ (by simp) _ _ _).trans (Ch.set_ (by simp) _ _ _))
      have HK5 := H5.out.kdT
      have H5f : Hid (Blk ((W3.setCell ⟨g5, 0, none⟩ (.string (x.tx.extract 0 (cutN x.tx 40)))).setCell ⟨g5, 3, none⟩ (.string (x.sig.extract 0 (cutN x.sig 450)))) g5 59 (cutI x).cs) := Lib.hid ((H5.out.set_ 0 _).set_ 3 _)
      have HXf : Hid (Blk ((W3.setCell ⟨g5, 0, none⟩ (.string (x.tx.extract 0 (cutN x.tx 40)))).setCell ⟨g5, 3, none⟩ (.string (x.sig.extract 0 (cutN x.sig 450)))) w0.heap.size 53 t.cs) := Lib.hid (HX.out.ch HCH.out (by simp <;> omega))
      have HRf : Hid (Blk ((W3.setCell ⟨g5, 0, none⟩ (.string (x.tx.extract 0 (cutN x.tx 40)))).setCell ⟨g5, 3, none⟩ (.string (x.sig.extract 0 (cutN x.sig 450)))) (w0.heap.size + 1) 53 zTxK) := Lib.hid (HR.out.ch HCH.out (by have := HR.out.ne_ H5.out (by decide); simpa using this))
      have HTf : Hid (Blk ((W3.setCell ⟨g5, 0, none⟩ (.string (x.tx.extract 0 (cutN x.tx 40)))).setCell ⟨g5, 3, none⟩ (.string (x.sig.extract 0 (cutN x.sig 450)))) g 53 (txK A k c none 0 0 am sg tk PA n pc)) := Lib.hid (HT.out.ch HCH.out (by simpa using hne))
      have HOf : Hid (((W3.setCell ⟨g5, 0, none⟩ (.string (x.tx.extract 0 (cutN x.tx 40)))).setCell ⟨g5, 3, none⟩ (.string (x.sig.extract 0 (cutN x.sig 450)))).ownsRow w0.heap.size 59 4 (.slice A k c) k ((cutIs t k).flatMap Inp.cl)) := Lib.hid (Ch.owns HCH.out HO.out (fun b hb hm => by simp at hm; subst hm; exact Hid.out (HQ5) hb))
      have HOWf : Hid (((W3.setCell ⟨g5, 0, none⟩ (.string (x.tx.extract 0 (cutN x.tx 40)))).setCell ⟨g5, 3, none⟩ (.string (x.sig.extract 0 (cutN x.sig 450)))).ownsRow w0.heap.size 122 10 (.slice PA n pc) n (((t.p.l.take 6).map cutW).flatMap Wn.cl)) := Lib.hid (own_chT HOW.out HCH.out HK5 (by decide))
      have HBf : Hid (Below w0.heap.size w0 ((W3.setCell ⟨g5, 0, none⟩ (.string (x.tx.extract 0 (cutN x.tx 40)))).setCell ⟨g5, 3, none⟩ (.string (x.sig.extract 0 (cutN x.sig 450))))) := Lib.hid (HB.out.trans (HCH.out.below HB.out.size (by simp <;> omega)))
      clear HX HR HT HO HOW HB HCH H5 HK5
      go_upto_region 8 with fail
      simp only [cutN_if40, cutN_if450, cutN_min40, cutN_min450, Int.toNat_natCast]
      clear b0 b3 z0 z3 l0 l3
      generalize (W3.setCell ⟨g5, 0, none⟩ (.string (x.tx.extract 0 (cutN x.tx 40)))).setCell ⟨g5, 3, none⟩ (.string (x.sig.extract 0 (cutN x.sig 450))) = W4 at H5f HXf HRf HTf HOf HOWf HBf ⊢
      have e0 : W4.cell? ⟨g, 0, none⟩ = some (.slice A k c) := Blk.cell HTf.out 0
      have hBA : Hid (Below W4.heap.size W4 (W4.alloc (.cells (cutI x).cs 59))) := Lib.hid ((Below.refl _ _).alloc (Nat.le_refl _) _)
      have HN4 : Hid (Blk (W4.alloc (.cells (cutI x).cs 59)) W4.heap.size 59 (cutI x).cs) := Blk.new _ _ _
      go_wp2_with (first
        | (refine wpList_load_blk rfl 59 (.tmp 5) rfl g5 0 4 H5f.out #[.string (cutT x.tx 40), .int .i64 x.out, .int .i64 x.path, .string (cutT x.sig 450)] (by rfl) (by rfl) Tryz.underlying59 infoInZ (by show 4 ≤ 4; omega) ?_)
        | (at_builtin; refine wpList_append_lies _ rfl (.tmp 47) (.tmp 49) _ rfl w0.heap.size 59 n0 _ 4 48 Tryz.underlying47 hni HNZ.out hn1 hn2 rfl (by omega) (.slice A k c) k ((cutIs t k).flatMap Inp.cl) rfl (own_belT HOf.out hBA.out) ⟨W4.heap.size, 0, none⟩ 1 1 (cutI x).cl rfl rfl (World.news_of_block HN4.out) (incl1 (cutI x)) (by omega) (by simp only [maxLen]; omega) (by omega) (Nat.le_trans HBf.out.size hBA.out.size) _ rfl ?_; intro gg cap W5 hown hgrow hat hlt5; rw [← HSN.out] at hown; have HO5 := Lib.hid hown; have HO1 := Lib.hid (own_belT HOf.out hBA.out); have HX5 := Lib.hid ((HXf.out.bel hBA.out).grown hgrow (blk_far (HXf.out.bel hBA.out) HO1.out (by decide))); have HR5 := Lib.hid ((HRf.out.bel hBA.out).grown hgrow (blk_far (HRf.out.bel hBA.out) HO1.out (by decide))); have HT5 := Lib.hid ((HTf.out.bel hBA.out).grown hgrow (blk_far (HTf.out.bel hBA.out) HO1.out (by decide))); have HW5 := Lib.hid (own_keptT (own_belT HOWf.out hBA.out) HO1.out (by decide) hgrow); have HB5 : Hid (Below w0.heap.size w0 W5) := Lib.hid ((HBf.out.trans (hBA.out.mono HBf.out.size)).grown hgrow (Nat.le_trans HBf.out.size hBA.out.size) (fun j hj => own_base HO1.out j hj)); have u0 : W5.cell? ⟨g, 0, none⟩ = some (.slice A k c) := HT5.out.cell 0; have v0 : W5.frozen? ⟨g, 0, none⟩ = false := HT5.out.frozen 0; clear hown hgrow hat hlt5 hBA HN4 HO1 H5f HXf HRf HTf HOf HOWf HBf e0))
      clear u0 v0
      have HCS : Hid (Ch [g] W5 (W5.setCell ⟨g, 0, none⟩ (.slice (some ⟨gg, 0, none⟩) (k + 1) cap))) := Lib.hid (Ch.set_ (by simp) _ _ _)
      have HX6 := Lib.hid (HX5.out.ch HCS.out (by simp <;> omega))
      have HR6 := Lib.hid (HR5.out.ch HCS.out (by simp <;> omega))
      have HT6 : Hid (Blk (W5.setCell ⟨g, 0, none⟩ (.slice (some ⟨gg, 0, none⟩) (k + 1) cap)) g 53 (txK (some ⟨gg, 0, none⟩) (k + 1) cap none 0 0 am sg tk PA n pc)) := Lib.hid (HT5.out.set_ 0 (.slice (some ⟨gg, 0, none⟩) (k + 1) cap))
      have HO6 := Lib.hid (own_chT HO5.out HCS.out HT5.out.kdT (by decide))
      have HW6 := Lib.hid (own_chT HW5.out HCS.out HT5.out.kdT (by decide))
      have HB6 : Hid (Below w0.heap.size w0 (W5.setCell ⟨g, 0, none⟩ (.slice (some ⟨gg, 0, none⟩) (k + 1) cap))) := Lib.hid (HB5.out.trans (HCS.out.below HB5.out.size (by simp <;> omega)))
      clear HX5 HR5 HT5 HO5 HW5 HB5 HCS
      go_roundw
      case rel => exact ⟨k + 1, _, _, by omega, by omega, by go_num, HX6, HR6, HT6, HO6, HW6, HB6⟩
      case measure => simp [intOf]; omega
    · have d1 : k < t.ins.length → decide ((k : Int) < 6) = false := fun h => decide_eq_false (by omega)
      have hk2 : k = ((t.ins.take 6).map cutI).length := by rw [List.length_map, List.length_take]; omega
      have hcw : cutIs t k = (t.ins.take 6).map cutI := by
        unfold cutIs
        by_cases h6 : k = 6
        · rw [h6]
        · rw [List.take_of_length_le (show t.ins.length ≤ k by omega), List.take_of_length_le (show t.ins.length ≤ 6 by omega)]
      rw [hcw] at HO
      have HK2 := Lib.hid hk2
      have hkn : k ≤ 9223372036854775807 := by omega
      clear hcw hk2
      obtain ⟨IS, hIS⟩ : ∃ l, l = (t.ins.take 6).map cutI := ⟨_, rfl⟩
      rw [← hIS] at HO HK2
      have HIS := Lib.hid hIS
      clear hIS
      have c1 : wr.cell? ⟨w0.heap.size, 1, none⟩ = some (.slice t.B t.outs.length t.d) := Blk.cell HX.out 1
      by_cases hkl : k < t.ins.length
      · have d2 := d1 hkl
        have d3 : decide (k < t.ins.length) = true := decide_eq_true hkl
        clear d1 hlt
        have HO0 : Hid (wr.ownsRow w0.heap.size 81 9 (.slice none 0 0) 0 []) := Lib.hid (own_nil0 _ _ _ _)
        have HXi := HX
        have HRi := HR
        have HTi := HT
        have HOi := HO
        have HOWi := HOW
        have HBi := HB
        clear HX HR HT HO HOW HB hkl hk hk6
        obtain ⟨wi, rfl⟩ : ∃ x : World, x = wr := ⟨_, rfl⟩
        obtain ⟨ki, rfl⟩ : ∃ x : Nat, x = k := ⟨_, rfl⟩
        obtain ⟨Ai, rfl⟩ : ∃ x : Option Addr, x = A := ⟨_, rfl⟩
        obtain ⟨ci, rfl⟩ : ∃ x : Nat, x = c := ⟨_, rfl⟩
        go_wp2_with fail
        clear c0 c1
        go_loopw [6] (fun i wr => ∃ (k : Nat) (A : Option Addr) (c : Nat), k ≤ t.outs.length ∧ k ≤ 6 ∧ i = .int .i64 k ∧ Hid (Blk wr w0.heap.size 53 t.cs) ∧ Hid (Blk wr (w0.heap.size + 1) 53 zTxK) ∧ Hid (Blk wr g 53 (txK Ai ki ci A k c am sg tk PA n pc)) ∧ Hid (wr.ownsRow w0.heap.size 59 4 (.slice Ai ki ci) ki (IS.flatMap Inp.cl)) ∧ Hid (wr.ownsRow w0.heap.size 81 9 (.slice A k c) k ((cutOs t k).flatMap Ou.cl)) ∧ Hid (wr.ownsRow w0.heap.size 122 10 (.slice PA n pc) n (((t.p.l.take 6).map cutW).flatMap Wn.cl)) ∧ Hid (Below w0.heap.size w0 wr)) (fun i _ => 6 - (intOf i).toNat)
        case atStart => exact ⟨0, none, 0, Nat.zero_le _, Nat.zero_le _, rfl, HXi, HRi, HTi, HOi, HO0, HOWi, HBi⟩
        case round =>
          clear HXi HRi HTi HOi HO0 HOWi HBi
          obtain ⟨k, A, c, hk, hk6, rfl, HX, HR, HT, HI, HO, HOW, HB⟩ := hrel
          have c1 : wr.cell? ⟨w0.heap.size, 1, none⟩ = some (.slice t.B t.outs.length t.d) := Blk.cell HX.out 1
          by_cases hlt : k < t.outs.length ∧ k < 6
          · obtain ⟨hlt, h6⟩ := hlt
            have HSN := Lib.hid (cutOs_snoc t k hlt)
            obtain ⟨ab, off, hA, hab, hc⟩ := HSO.out.at_ hlt
            rw [hA] at c1
            have HA := Lib.hid hA
            have HC := Lib.hid (fun (W : World) (hW : Below w0.heap.size w0 W) (j : Nat) (u : Value) (hu : (t.outs[k]).cl[j]? = some u) => (hW.cell (p := ⟨ab, off + k * 9 + j, none⟩) hab).trans (hc j u hu))
            clear hA hc
            generalize t.outs[k] = x at HC HSN
            have e1 : decide ((k : Int) < (t.outs.length : Int)) = true := decide_eq_true (by omega)
            have e2 : decide ((k : Int) < 6) = true := decide_eq_true (by omega)
            have e3 : decide (k < t.outs.length) = true := decide_eq_true hlt
            go_upto_region 12 with fail
            refine wp_region_z (fun W => Hid (Blk W w0.heap.size 53 t.cs ∧ Blk W g 53 (txK Ai ki ci A k c am sg tk PA n pc) ∧ ∀ j u, x.cl[j]? = some u → W.cell? ⟨ab, off + k * 9 + j, none⟩ = some u)) [11] (by kernel_rfl) (Lib.hid ⟨HX.out.drewN 1, HT.out.drewN 1, HC.out _ HB.out.drew⟩) (fun hS => ?_)
            replace HX : Hid (Blk wr.drew w0.heap.size 53 t.cs) := Lib.hid (HX.out.drewN 1)
            replace HR : Hid (Blk wr.drew (w0.heap.size + 1) 53 zTxK) := Lib.hid (HR.out.drewN 1)
            replace HT : Hid (Blk wr.drew g 53 (txK Ai ki ci A k c am sg tk PA n pc)) := Lib.hid (HT.out.drewN 1)
            replace HI : Hid (wr.drew.ownsRow w0.heap.size 59 4 (.slice Ai ki ci) ki (IS.flatMap Inp.cl)) := Lib.hid HI.out.drew
            replace HO : Hid (wr.drew.ownsRow w0.heap.size 81 9 (.slice A k c) k ((cutOs t k).flatMap Ou.cl)) := Lib.hid HO.out.drew
            replace HOW : Hid (wr.drew.ownsRow w0.heap.size 122 10 (.slice PA n pc) n (((t.p.l.take 6).map cutW).flatMap Wn.cl)) := Lib.hid HOW.out.drew
            replace HB : Hid (Below w0.heap.size w0 wr.drew) := HB.out.drew
            have hk0 : (0 : Int) ≤ (k : Int) := by omega
            have hkl : (k : Int) < (t.outs.length : Int) := by omega
            clear c1
            refine wpAnyZ_gen fun X2 hX => ?_
            rw [← hX] at HX HR HB HT HI HO HOW hS
            clear hX
            refine wpAnyZ_take (i := 0) (v := ?_) rfl (by kernel_rfl) (by kernel_rfl) (by kernel_rfl) (by kernel_rfl) (by kernel_rfl) (by decide) (fun _ _ _ h => h) (Or.inl ⟨by rfl, ?_⟩) hS ?_
            rotate_left
            · (intro w _; go_simp; try with_reducible rfl)
            refine wpAnyZ_take (i := 1) (v := ?_) rfl (by kernel_rfl) (by kernel_rfl) (by kernel_rfl) (by kernel_rfl) (by kernel_rfl) (by decide) (fun _ _ _ h => h) (Or.inl ⟨by rfl, ?_⟩) hS ?_
            rotate_left
            · (intro w hS'; have hcell := (show World.cell? _ ⟨g, 1, none⟩ = some (.slice A k c) from Blk.cell hS'.out.2.1 1); go_simp; try with_reducible rfl)
            refine wpAnyZ_take (i := 2) (v := ?_) rfl (by kernel_rfl) (by kernel_rfl) (by kernel_rfl) (by kernel_rfl) (by kernel_rfl) (by decide) (fun _ _ _ h => h) (Or.inl ⟨by rfl, ?_⟩) hS ?_
            rotate_left
            · (intro w _; go_simp; try with_reducible rfl)
            refine wpAnyZ_take (i := 3) (v := ?_) rfl (by kernel_rfl) (by kernel_rfl) (by kernel_rfl) (by kernel_rfl) (by kernel_rfl) (by decide) (fun _ _ _ h => h) (Or.inl ⟨by rfl, ?_⟩) hS ?_
            rotate_left
            · (intro w hS'; have hcell := (show World.cell? _ ⟨w0.heap.size, 1, none⟩ = some (.slice (some ⟨ab, off, none⟩) t.outs.length t.d) from (Blk.cell hS'.out.1 1).trans (by rw [← HA.out]; rfl)); go_simp; try with_reducible rfl)
            refine wpAnyZ_take (i := 4) (v := ?_) rfl (by kernel_rfl) (by kernel_rfl) (by kernel_rfl) (by kernel_rfl) (by kernel_rfl) (by decide) (fun _ _ _ h => h) (Or.inl ⟨by rfl, ?_⟩) hS ?_
            rotate_left
            · (intro w _; go_simp; try with_reducible rfl)
            refine wpAnyZ_take (i := 5) (v := ?_) rfl (by kernel_rfl) (by kernel_rfl) (by kernel_rfl) (by kernel_rfl) (by kernel_rfl) (by decide) (fun _ _ _ h => h) (Or.inl ⟨by rfl, ?_⟩) hS ?_
            rotate_left
            · (intro w _; go_simp; try with_reducible rfl)
            refine wpAnyZ_take (i := 6) (v := .agg x.cs) rfl (by kernel_rfl) (by kernel_rfl) (by kernel_rfl) (by kernel_rfl) (by kernel_rfl) (by decide) (fun _ _ _ h => h) ((yields_rowz (by rfl) 81 (.tmp 68) (by rfl) ab (off + k * 9) x.cl (fun W h => h.out.2.2) x.cs (by rfl) (Array.toArray_toList ..) Tryz.underlying81 infoOuC)) hS ?_
            refine wpAnyZ_ready (rs := [7]) (by kernel_rfl) (by simp) (AllReadyZ.cons rfl (fun K hK => ?_) AllReadyZ.nil)
            go_simp
            refine (cutout_x x _).mono ?_
            rintro e W ⟨rfl, hb⟩
            have HBX := Lib.hid hb
            clear hb
            go_simp
            have hSW := Lib.hid (And.intro (hS.out.1.bel HBX.out) (And.intro (hS.out.2.1.bel HBX.out) (HC.out _ (HB.out.trans (HBX.out.mono HB.out.size)))))
            refine hK.out _ _ (fun _ => hSW) ?_
            clear hK K
            clear hS
            refine wpAnyZ_ready (rs := [8]) (by kernel_rfl) (by simp) (AllReadyZ.cons rfl (fun K hK => ?_) AllReadyZ.nil)
            go_simp
            replace HBX := Lib.hid (HBX.out.alloc HBX.out.size (.cells (cutO x).cs 81))
            have HNB : Hid (Blk (W.alloc (.cells (cutO x).cs 81)) W.heap.size 81 (cutO x).cs) := Blk.new _ _ _
            refine hK.out _ _ (fun _ => Lib.hid ⟨hSW.out.1.alloc _, hSW.out.2.1.alloc _, HC.out _ (HB.out.trans (HBX.out.mono HB.out.size))⟩) ?_
            clear hK K hSW
            refine wpAnyZ_gen fun X1 hX1 => ?_
            replace hX1 : X1 = W.alloc (.cells (cutO x).cs 81) := hX1
            rw [← hX1] at HBX HNB
            clear hX1
            have HNW := Lib.hid (World.news_of_block HNB.out)
            have HO1 := Lib.hid (own_belT HO.out HBX.out)
            refine wpAnyZ_ready (rs := [9]) (by kernel_rfl) (by simp) (AllReadyZ.cons rfl (fun K hK => ?_) AllReadyZ.nil)
            refine step_append_lies _ (by rfl) (.tmp 64) (.tmp 71) 22 (by rfl) w0.heap.size 81 o0 _ 9 104 Tryz.underlying22 hoi HOZ.out ho1 ho2 rfl (by omega) (.slice A k c) k ((cutOs t k).flatMap Ou.cl) (by rfl) HO1.out ⟨W.heap.size, 0, none⟩ 1 1 (cutO x).cl (by rfl) (by rfl) HNW.out (oucl1 (cutO x)) (by omega) (by simp only [maxLen]; omega) (by omega) (Nat.le_trans HB.out.size HBX.out.size) _ rfl ?_
            intro gg cap W4 hown4 hgrow hat hlt4
            rw [← HSN.out] at hown4
            have HO4 := Lib.hid hown4
            have HX4 := Lib.hid ((HX.out.bel HBX.out).grown hgrow (blk_far (HX.out.bel HBX.out) HO1.out (by decide)))
            have HR4 := Lib.hid ((HR.out.bel HBX.out).grown hgrow (blk_far (HR.out.bel HBX.out) HO1.out (by decide)))
            have HT4 := Lib.hid ((HT.out.bel HBX.out).grown hgrow (blk_far (HT.out.bel HBX.out) HO1.out (by decide)))
            have HI4 := Lib.hid (own_keptT (own_belT HI.out HBX.out) HO1.out (by decide) hgrow)
            have HW4 := Lib.hid (own_keptT (own_belT HOW.out HBX.out) HO1.out (by decide) hgrow)
            have HB4 : Hid (Below w0.heap.size w0 W4) := Lib.hid ((HB.out.trans (HBX.out.mono HB.out.size)).grown hgrow (Nat.le_trans HB.out.size HBX.out.size) (fun j hj => own_base HO1.out j hj))
            clear hown4 hgrow hat hlt4 HNB HNW HO1
            refine hK.out _ _ (fun _ => Lib.hid ⟨HX4.out, HT4.out, HC.out _ HB4.out⟩) ?_
            clear hK K
            have hS4 := Lib.hid (And.intro HX4.out (And.intro HT4.out (HC.out _ HB4.out)))
            refine wpAnyZ_take (i := 10) (v := ?_) rfl (by kernel_rfl) (by kernel_rfl) (by kernel_rfl) (by kernel_rfl) (by kernel_rfl) (by decide) (fun _ _ _ h => h) (Or.inl ⟨by rfl, ?_⟩) hS4 ?_
            rotate_left
            · (intro w _; go_simp; try with_reducible rfl)
            refine wpAnyZ_ready (rs := [11]) (by kernel_rfl) (by simp) (AllReadyZ.cons rfl (fun K hK => ?_) AllReadyZ.nil)
            have u3 : W4.cell? ⟨g, 1, none⟩ = some (.slice A k c) := HT4.out.cell 1
            have z3 : W4.frozen? ⟨g, 1, none⟩ = false := HT4.out.frozen 1
            go_simp
            refine hK.out _ _ (fun h => absurd (by decide) h) ?_
            clear hK K
            refine wpAnyZ_done (by kernel_rfl) ?_ _
            clear u3 z3 hS4 HX HR HT HB HI HO HOW HBX
            have HCS : Hid (Ch [g] W4 (W4.setCell ⟨g, 1, none⟩ (.slice (some ⟨gg, 0, none⟩) (k + 1) cap))) := Lib.hid (Ch.set_ (by simp) _ _ _)
            have HX5 := Lib.hid (HX4.out.ch HCS.out (by simp <;> omega))
            have HR5 := Lib.hid (HR4.out.ch HCS.out (by simp <;> omega))
            have HT5 : Hid (Blk (W4.setCell ⟨g, 1, none⟩ (.slice (some ⟨gg, 0, none⟩) (k + 1) cap)) g 53 (txK Ai ki ci (some ⟨gg, 0, none⟩) (k + 1) cap am sg tk PA n pc)) := Lib.hid (HT4.out.set_ 1 (.slice (some ⟨gg, 0, none⟩) (k + 1) cap))
            have HI5 := Lib.hid (own_chT HI4.out HCS.out HT4.out.kdT (by decide))
            have HO5 := Lib.hid (own_chT HO4.out HCS.out HT4.out.kdT (by decide))
            have HW5 := Lib.hid (own_chT HW4.out HCS.out HT4.out.kdT (by decide))
            have HB5 : Hid (Below w0.heap.size w0 (W4.setCell ⟨g, 1, none⟩ (.slice (some ⟨gg, 0, none⟩) (k + 1) cap))) := Lib.hid (HB4.out.trans (HCS.out.below HB4.out.size (by simp <;> omega)))
            clear HCS
            generalize (W4.setCell ⟨g, 1, none⟩ (.slice (some ⟨gg, 0, none⟩) (k + 1) cap)) = W5 at HX5 HR5 HT5 HB5 HI5 HO5 HW5 ⊢
            clear HX4 HR4 HT4 HB4 HI4 HO4 HW4
            go_wp2_with fail
            go_roundw
            case rel => exact ⟨k + 1, _, _, by omega, by omega, by go_num, HX5, HR5, HT5, HI5, HO5, HW5, HB5⟩
            case measure => simp [intOf]; omega
          · have e1 : k < t.outs.length → decide ((k : Int) < 6) = false := fun h => decide_eq_false (by omega)
            have hk2 : k = ((t.outs.take 6).map cutO).length := by rw [List.length_map, List.length_take]; omega
            have hcw : cutOs t k = (t.outs.take 6).map cutO := by
              unfold cutOs
              by_cases h6 : k = 6
              · rw [h6]
              · rw [List.take_of_length_le (show t.outs.length ≤ k by omega), List.take_of_length_le (show t.outs.length ≤ 6 by omega)]
            rw [hcw] at HO
            have HK3 := Lib.hid hk2
            clear hcw hk2
            by_cases hkl : k < t.outs.length
            · have e2 := e1 hkl
              have e3 : decide (k < t.outs.length) = true := decide_eq_true hkl
              clear e1 hlt
              go_wp2_with (first
                | (refine wpList_load_blk rfl 53 (.tmp 3) rfl g 0 6 HT.out (txK Ai ki ci A k c am sg tk PA n pc) (by rfl) (by rfl) Tryz.underlying53 infoTxZ (by show 6 ≤ 6; omega) ?_)
                | (refine wpList_store_part rfl 53 (.tmp 2) (.tmp 74) rfl (w0.heap.size + 1) 0 HR.out (txK Ai ki ci A k c am sg tk PA n pc) (txK Ai ki ci A k c am sg tk PA n pc) (by rfl) (by rfl) (Nat.le_refl 6) infoTxZ (txK_one ..) (txK_over _ _ _ _ _ _ _ _ _ _ _ _ rfl) ?_; intro W6 hb6 hc6; have HR6 := Lib.hid hb6; have HC6 := Lib.hid hc6; clear hb6 hc6))
              exact bodyPost_ret (results_cell_row rfl _ _ (w0.heap.size + 1) 53 _ (0, 0) _ rfl HR6.out Tryz.underlying53 rfl infoTxZ) rfl ⟨Ai, A, PA, ki, ci, k, c, n, pc, (by rw [HSG.out, HTK.out, HAM.out]), (by rw [← HIS.out]; exact HK2.out), HK3.out, HNN.out, (by rw [← HIS.out]; exact own_chT HI.out HC6.out HR.out.kdT (by decide)), own_chT HO.out HC6.out HR.out.kdT (by decide), own_chT HOW.out HC6.out HR.out.kdT (by decide), HB.out.trans (HC6.out.below HB.out.size (by simp))⟩
            · have e3 : decide (k < t.outs.length) = false := decide_eq_false hkl
              clear e1 hlt
              go_wp2_with (first
                | (refine wpList_load_blk rfl 53 (.tmp 3) rfl g 0 6 HT.out (txK Ai ki ci A k c am sg tk PA n pc) (by rfl) (by rfl) Tryz.underlying53 infoTxZ (by show 6 ≤ 6; omega) ?_)
                | (refine wpList_store_part rfl 53 (.tmp 2) (.tmp 74) rfl (w0.heap.size + 1) 0 HR.out (txK Ai ki ci A k c am sg tk PA n pc) (txK Ai ki ci A k c am sg tk PA n pc) (by rfl) (by rfl) (Nat.le_refl 6) infoTxZ (txK_one ..) (txK_over _ _ _ _ _ _ _ _ _ _ _ _ rfl) ?_; intro W6 hb6 hc6; have HR6 := Lib.hid hb6; have HC6 := Lib.hid hc6; clear hb6 hc6))
              exact bodyPost_ret (results_cell_row rfl _ _ (w0.heap.size + 1) 53 _ (0, 0) _ rfl HR6.out Tryz.underlying53 rfl infoTxZ) rfl ⟨Ai, A, PA, ki, ci, k, c, n, pc, (by rw [HSG.out, HTK.out, HAM.out]), (by rw [← HIS.out]; exact HK2.out), HK3.out, HNN.out, (by rw [← HIS.out]; exact own_chT HI.out HC6.out HR.out.kdT (by decide)), own_chT HO.out HC6.out HR.out.kdT (by decide), own_chT HOW.out HC6.out HR.out.kdT (by decide), HB.out.trans (HC6.out.below HB.out.size (by simp))⟩
      · have d3 : decide (k < t.ins.length) = false := decide_eq_false hkl
        clear d1 hlt
        have HO0 : Hid (wr.ownsRow w0.heap.size 81 9 (.slice none 0 0) 0 []) := Lib.hid (own_nil0 _ _ _ _)
        have HXi := HX
        have HRi := HR
        have HTi := HT
        have HOi := HO
        have HOWi := HOW
        have HBi := HB
        clear HX HR HT HO HOW HB hkl hk hk6
        obtain ⟨wi, rfl⟩ : ∃ x : World, x = wr := ⟨_, rfl⟩
        obtain ⟨ki, rfl⟩ : ∃ x : Nat, x = k := ⟨_, rfl⟩
        obtain ⟨Ai, rfl⟩ : ∃ x : Option Addr, x = A := ⟨_, rfl⟩
        obtain ⟨ci, rfl⟩ : ∃ x : Nat, x = c := ⟨_, rfl⟩
        go_wp2_with fail
        clear c0 c1
        go_loopw [6] (fun i wr => ∃ (k : Nat) (A : Option Addr) (c : Nat), k ≤ t.outs.length ∧ k ≤ 6 ∧ i = .int .i64 k ∧ Hid (Blk wr w0.heap.size 53 t.cs) ∧ Hid (Blk wr (w0.heap.size + 1) 53 zTxK) ∧ Hid (Blk wr g 53 (txK Ai ki ci A k c am sg tk PA n pc)) ∧ Hid (wr.ownsRow w0.heap.size 59 4 (.slice Ai ki ci) ki (IS.flatMap Inp.cl)) ∧ Hid (wr.ownsRow w0.heap.size 81 9 (.slice A k c) k ((cutOs t k).flatMap Ou.cl)) ∧ Hid (wr.ownsRow w0.heap.size 122 10 (.slice PA n pc) n (((t.p.l.take 6).map cutW).flatMap Wn.cl)) ∧ Hid (Below w0.heap.size w0 wr)) (fun i _ => 6 - (intOf i).toNat)
        case atStart => exact ⟨0, none, 0, Nat.zero_le _, Nat.zero_le _, rfl, HXi, HRi, HTi, HOi, HO0, HOWi, HBi⟩
        case round =>
          clear HXi HRi HTi HOi HO0 HOWi HBi
          obtain ⟨k, A, c, hk, hk6, rfl, HX, HR, HT, HI, HO, HOW, HB⟩ := hrel
          have c1 : wr.cell? ⟨w0.heap.size, 1, none⟩ = some (.slice t.B t.outs.length t.d) := Blk.cell HX.out 1
          by_cases hlt : k < t.outs.length ∧ k < 6
          · obtain ⟨hlt, h6⟩ := hlt
            have HSN := Lib.hid (cutOs_snoc t k hlt)
            obtain ⟨ab, off, hA, hab, hc⟩ := HSO.out.at_ hlt
            rw [hA] at c1
            have HA := Lib.hid hA
            have HC := Lib.hid (fun (W : World) (hW : Below w0.heap.size w0 W) (j : Nat) (u : Value) (hu : (t.outs[k]).cl[j]? = some u) => (hW.cell (p := ⟨ab, off + k * 9 + j, none⟩) hab).trans (hc j u hu))
            clear hA hc
            generalize t.outs[k] = x at HC HSN
            have e1 : decide ((k : Int) < (t.outs.length : Int)) = true := decide_eq_true (by omega)
            have e2 : decide ((k : Int) < 6) = true := decide_eq_true (by omega)
            have e3 : decide (k < t.outs.length) = true := decide_eq_true hlt
            go_upto_region 12 with fail
            refine wp_region_z (fun W => Hid (Blk W w0.heap.size 53 t.cs ∧ Blk W g 53 (txK Ai ki ci A k c am sg tk PA n pc) ∧ ∀ j u, x.cl[j]? = some u → W.cell? ⟨ab, off + k * 9 + j, none⟩ = some u)) [11] (by kernel_rfl) (Lib.hid ⟨HX.out.drewN 1, HT.out.drewN 1, HC.out _ HB.out.drew⟩) (fun hS => ?_)
            replace HX : Hid (Blk wr.drew w0.heap.size 53 t.cs) := Lib.hid (HX.out.drewN 1)
            replace HR : Hid (Blk wr.drew (w0.heap.size + 1) 53 zTxK) := Lib.hid (HR.out.drewN 1)
            replace HT : Hid (Blk wr.drew g 53 (txK Ai ki ci A k c am sg tk PA n pc)) := Lib.hid (HT.out.drewN 1)
            replace HI : Hid (wr.drew.ownsRow w0.heap.size 59 4 (.slice Ai ki ci) ki (IS.flatMap Inp.cl)) := Lib.hid HI.out.drew
            replace HO : Hid (wr.drew.ownsRow w0.heap.size 81 9 (.slice A k c) k ((cutOs t k).flatMap Ou.cl)) := Lib.hid HO.out.drew
            replace HOW : Hid (wr.drew.ownsRow w0.heap.size 122 10 (.slice PA n pc) n (((t.p.l.take 6).map cutW).flatMap Wn.cl)) := Lib.hid HOW.out.drew
            replace HB : Hid (Below w0.heap.size w0 wr.drew) := HB.out.drew
            have hk0 : (0 : Int) ≤ (k : Int) := by omega
            have hkl : (k : Int) < (t.outs.length : Int) := by omega
            clear c1
            refine wpAnyZ_gen fun X2 hX => ?_
            rw [← hX] at HX HR HB HT HI HO HOW hS
            clear hX
            refine wpAnyZ_take (i := 0) (v := ?_) rfl (by kernel_rfl) (by kernel_rfl) (by kernel_rfl) (by kernel_rfl) (by kernel_rfl) (by decide) (fun _ _ _ h => h) (Or.inl ⟨by rfl, ?_⟩) hS ?_
            rotate_left
            · (intro w _; go_simp; try with_reducible rfl)
            refine wpAnyZ_take (i := 1) (v := ?_) rfl (by kernel_rfl) (by kernel_rfl) (by kernel_rfl) (by kernel_rfl) (by kernel_rfl) (by decide) (fun _ _ _ h => h) (Or.inl ⟨by rfl, ?_⟩) hS ?_
            rotate_left
            · (intro w hS'; have hcell := (show World.cell? _ ⟨g, 1, none⟩ = some (.slice A k c) from Blk.cell hS'.out.2.1 1); go_simp; try with_reducible rfl)
            refine wpAnyZ_take (i := 2) (v := ?_) rfl (by kernel_rfl) (by kernel_rfl) (by kernel_rfl) (by kernel_rfl) (by kernel_rfl) (by decide) (fun _ _ _ h => h) (Or.inl ⟨by rfl, ?_⟩) hS ?_
            rotate_left
            · (intro w _; go_simp; try with_reducible rfl)
            refine wpAnyZ_take (i := 3) (v := ?_) rfl (by kernel_rfl) (by kernel_rfl) (by kernel_rfl) (by kernel_rfl) (by kernel_rfl) (by decide) (fun _ _ _ h => h) (Or.inl ⟨by rfl, ?_⟩) hS ?_
            rotate_left
            · (intro w hS'; have hcell := (show World.cell? _ ⟨w0.heap.size, 1, none⟩ = some (.slice (some ⟨ab, off, none⟩) t.outs.length t.d) from (Blk.cell hS'.out.1 1).trans (by rw [← HA.out]; rfl)); go_simp; try with_reducible rfl)
            refine wpAnyZ_take (i := 4) (v := ?_) rfl (by kernel_rfl) (by kernel_rfl) (by kernel_rfl) (by kernel_rfl) (by kernel_rfl) (by decide) (fun _ _ _ h => h) (Or.inl ⟨by rfl, ?_⟩) hS ?_
            rotate_left
            · (intro w _; go_simp; try with_reducible rfl)
            refine wpAnyZ_take (i := 5) (v := ?_) rfl (by kernel_rfl) (by kernel_rfl) (by kernel_rfl) (by kernel_rfl) (by kernel_rfl) (by decide) (fun _ _ _ h => h) (Or.inl ⟨by rfl, ?_⟩) hS ?_
            rotate_left
            · (intro w _; go_simp; try with_reducible rfl)
            refine wpAnyZ_take (i := 6) (v := .agg x.cs) rfl (by kernel_rfl) (by kernel_rfl) (by kernel_rfl) (by kernel_rfl) (by kernel_rfl) (by decide) (fun _ _ _ h => h) ((yields_rowz (by rfl) 81 (.tmp 68) (by rfl) ab (off + k * 9) x.cl (fun W h => h.out.2.2) x.cs (by rfl) (Array.toArray_toList ..) Tryz.underlying81 infoOuC)) hS ?_
            refine wpAnyZ_ready (rs := [7]) (by kernel_rfl) (by simp) (AllReadyZ.cons rfl (fun K hK => ?_) AllReadyZ.nil)
            go_simp
            refine (cutout_x x _).mono ?_
            rintro e W ⟨rfl, hb⟩
            have HBX := Lib.hid hb
            clear hb
            go_simp
            have hSW := Lib.hid (And.intro (hS.out.1.bel HBX.out) (And.intro (hS.out.2.1.bel HBX.out) (HC.out _ (HB.out.trans (HBX.out.mono HB.out.size)))))
            refine hK.out _ _ (fun _ => hSW) ?_
            clear hK K
            clear hS
            refine wpAnyZ_ready (rs := [8]) (by kernel_rfl) (by simp) (AllReadyZ.cons rfl (fun K hK => ?_) AllReadyZ.nil)
            go_simp
            replace HBX := Lib.hid (HBX.out.alloc HBX.out.size (.cells (cutO x).cs 81))
            have HNB : Hid (Blk (W.alloc (.cells (cutO x).cs 81)) W.heap.size 81 (cutO x).cs) := Blk.new _ _ _
            refine hK.out _ _ (fun _ => Lib.hid ⟨hSW.out.1.alloc _, hSW.out.2.1.alloc _, HC.out _ (HB.out.trans (HBX.out.mono HB.out.size))⟩) ?_
            clear hK K hSW
            refine wpAnyZ_gen fun X1 hX1 => ?_
            replace hX1 : X1 = W.alloc (.cells (cutO x).cs 81) := hX1
            rw [← hX1] at HBX HNB
            clear hX1
            have HNW := Lib.hid (World.news_of_block HNB.out)
            have HO1 := Lib.hid (own_belT HO.out HBX.out)
            refine wpAnyZ_ready (rs := [9]) (by kernel_rfl) (by simp) (AllReadyZ.cons rfl (fun K hK => ?_) AllReadyZ.nil)
            refine step_append_lies _ (by rfl) (.tmp 64) (.tmp 71) 22 (by rfl) w0.heap.size 81 o0 _ 9 104 Tryz.underlying22 hoi HOZ.out ho1 ho2 rfl (by omega) (.slice A k c) k ((cutOs t k).flatMap Ou.cl) (by rfl) HO1.out ⟨W.heap.size, 0, none⟩ 1 1 (cutO x).cl (by rfl) (by rfl) HNW.out (oucl1 (cutO x)) (by omega) (by simp only [maxLen]; omega) (by omega) (Nat.le_trans HB.out.size HBX.out.size) _ rfl ?_
            intro gg cap W4 hown4 hgrow hat hlt4
            rw [← HSN.out] at hown4
            have HO4 := Lib.hid hown4
            have HX4 := Lib.hid ((HX.out.bel HBX.out).grown hgrow (blk_far (HX.out.bel HBX.out) HO1.out (by decide)))
            have HR4 := Lib.hid ((HR.out.bel HBX.out).grown hgrow (blk_far (HR.out.bel HBX.out) HO1.out (by decide)))
            have HT4 := Lib.hid ((HT.out.bel HBX.out).grown hgrow (blk_far (HT.out.bel HBX.out) HO1.out (by decide)))
            have HI4 := Lib.hid (own_keptT (own_belT HI.out HBX.out) HO1.out (by decide) hgrow)
            have HW4 := Lib.hid (own_keptT (own_belT HOW.out HBX.out) HO1.out (by decide) hgrow)
            have HB4 : Hid (Below w0.heap.size w0 W4) := Lib.hid ((HB.out.trans (HBX.out.mono HB.out.size)).grown hgrow (Nat.le_trans HB.out.size HBX.out.size) (fun j hj => own_base HO1.out j hj))
            clear hown4 hgrow hat hlt4 HNB HNW HO1
            refine hK.out _ _ (fun _ => Lib.hid ⟨HX4.out, HT4.out, HC.out _ HB4.out⟩) ?_
            clear hK K
            have hS4 := Lib.hid (And.intro HX4.out (And.intro HT4.out (HC.out _ HB4.out)))
            refine wpAnyZ_take (i := 10) (v := ?_) rfl (by kernel_rfl) (by kernel_rfl) (by kernel_rfl) (by kernel_rfl) (by kernel_rfl) (by decide) (fun _ _ _ h => h) (Or.inl ⟨by rfl, ?_⟩) hS4 ?_
            rotate_left
            · (intro w _; go_simp; try with_reducible rfl)
            refine wpAnyZ_ready (rs := [11]) (by kernel_rfl) (by simp) (AllReadyZ.cons rfl (fun K hK => ?_) AllReadyZ.nil)
            have u3 : W4.cell? ⟨g, 1, none⟩ = some (.slice A k c) := HT4.out.cell 1
            have z3 : W4.frozen? ⟨g, 1, none⟩ = false := HT4.out.frozen 1
            go_simp
            refine hK.out _ _ (fun h => absurd (by decide) h) ?_
            clear hK K
            refine wpAnyZ_done (by kernel_rfl) ?_ _
            clear u3 z3 hS4 HX HR HT HB HI HO HOW HBX
            have HCS : Hid (Ch [g] W4 (W4.setCell ⟨g, 1, none⟩ (.slice (some ⟨gg, 0, none⟩) (k + 1) cap))) := Lib.hid (Ch.set_ (by simp) _ _ _)
            have HX5 := Lib.hid (HX4.out.ch HCS.out (by simp <;> omega))
            have HR5 := Lib.hid (HR4.out.ch HCS.out (by simp <;> omega))
            have HT5 : Hid (Blk (W4.setCell ⟨g, 1, none⟩ (.slice (some ⟨gg, 0, none⟩) (k + 1) cap)) g 53 (txK Ai ki ci (some ⟨gg, 0, none⟩) (k + 1) cap am sg tk PA n pc)) := Lib.hid (HT4.out.set_ 1 (.slice (some ⟨gg, 0, none⟩) (k + 1) cap))
            have HI5 := Lib.hid (own_chT HI4.out HCS.out HT4.out.kdT (by decide))
            have HO5 := Lib.hid (own_chT HO4.out HCS.out HT4.out.kdT (by decide))
            have HW5 := Lib.hid (own_chT HW4.out HCS.out HT4.out.kdT (by decide))
            have HB5 : Hid (Below w0.heap.size w0 (W4.setCell ⟨g, 1, none⟩ (.slice (some ⟨gg, 0, none⟩) (k + 1) cap))) := Lib.hid (HB4.out.trans (HCS.out.below HB4.out.size (by simp <;> omega)))
            clear HCS
            generalize (W4.setCell ⟨g, 1, none⟩ (.slice (some ⟨gg, 0, none⟩) (k + 1) cap)) = W5 at HX5 HR5 HT5 HB5 HI5 HO5 HW5 ⊢
            clear HX4 HR4 HT4 HB4 HI4 HO4 HW4
            go_wp2_with fail
            go_roundw
            case rel => exact ⟨k + 1, _, _, by omega, by omega, by go_num, HX5, HR5, HT5, HI5, HO5, HW5, HB5⟩
            case measure => simp [intOf]; omega
          · have e1 : k < t.outs.length → decide ((k : Int) < 6) = false := fun h => decide_eq_false (by omega)
            have hk2 : k = ((t.outs.take 6).map cutO).length := by rw [List.length_map, List.length_take]; omega
            have hcw : cutOs t k = (t.outs.take 6).map cutO := by
              unfold cutOs
              by_cases h6 : k = 6
              · rw [h6]
              · rw [List.take_of_length_le (show t.outs.length ≤ k by omega), List.take_of_length_le (show t.outs.length ≤ 6 by omega)]
            rw [hcw] at HO
            have HK3 := Lib.hid hk2
            clear hcw hk2
            by_cases hkl : k < t.outs.length
            · have e2 := e1 hkl
              have e3 : decide (k < t.outs.length) = true := decide_eq_true hkl
              clear e1 hlt
              go_wp2_with (first
                | (refine wpList_load_blk rfl 53 (.tmp 3) rfl g 0 6 HT.out (txK Ai ki ci A k c am sg tk PA n pc) (by rfl) (by rfl) Tryz.underlying53 infoTxZ (by show 6 ≤ 6; omega) ?_)
                | (refine wpList_store_part rfl 53 (.tmp 2) (.tmp 74) rfl (w0.heap.size + 1) 0 HR.out (txK Ai ki ci A k c am sg tk PA n pc) (txK Ai ki ci A k c am sg tk PA n pc) (by rfl) (by rfl) (Nat.le_refl 6) infoTxZ (txK_one ..) (txK_over _ _ _ _ _ _ _ _ _ _ _ _ rfl) ?_; intro W6 hb6 hc6; have HR6 := Lib.hid hb6; have HC6 := Lib.hid hc6; clear hb6 hc6))
              exact bodyPost_ret (results_cell_row rfl _ _ (w0.heap.size + 1) 53 _ (0, 0) _ rfl HR6.out Tryz.underlying53 rfl infoTxZ) rfl ⟨Ai, A, PA, ki, ci, k, c, n, pc, (by rw [HSG.out, HTK.out, HAM.out]), (by rw [← HIS.out]; exact HK2.out), HK3.out, HNN.out, (by rw [← HIS.out]; exact own_chT HI.out HC6.out HR.out.kdT (by decide)), own_chT HO.out HC6.out HR.out.kdT (by decide), own_chT HOW.out HC6.out HR.out.kdT (by decide), HB.out.trans (HC6.out.below HB.out.size (by simp))⟩
            · have e3 : decide (k < t.outs.length) = false := decide_eq_false hkl
              clear e1 hlt
              go_wp2_with (first
                | (refine wpList_load_blk rfl 53 (.tmp 3) rfl g 0 6 HT.out (txK Ai ki ci A k c am sg tk PA n pc) (by rfl) (by rfl) Tryz.underlying53 infoTxZ (by show 6 ≤ 6; omega) ?_)
                | (refine wpList_store_part rfl 53 (.tmp 2) (.tmp 74) rfl (w0.heap.size + 1) 0 HR.out (txK Ai ki ci A k c am sg tk PA n pc) (txK Ai ki ci A k c am sg tk PA n pc) (by rfl) (by rfl) (Nat.le_refl 6) infoTxZ (txK_one ..) (txK_over _ _ _ _ _ _ _ _ _ _ _ _ rfl) ?_; intro W6 hb6 hc6; have HR6 := Lib.hid hb6; have HC6 := Lib.hid hc6; clear hb6 hc6))
              exact bodyPost_ret (results_cell_row rfl _ _ (w0.heap.size + 1) 53 _ (0, 0) _ rfl HR6.out Tryz.underlying53 rfl infoTxZ) rfl ⟨Ai, A, PA, ki, ci, k, c, n, pc, (by rw [HSG.out, HTK.out, HAM.out]), (by rw [← HIS.out]; exact HK2.out), HK3.out, HNN.out, (by rw [← HIS.out]; exact own_chT HI.out HC6.out HR.out.kdT (by decide)), own_chT HO.out HC6.out HR.out.kdT (by decide), own_chT HOW.out HC6.out HR.out.kdT (by decide), HB.out.trans (HC6.out.below HB.out.size (by simp))⟩
end Go.Proofs.YtjcinncphffgaaaGreat
namespace Go.Proofs.YtjcinncphffgaaaGreat
open Go.RowKit
theorem own_atA {α : Type} {enc : α → List Value} {k : Nat} (hk : ∀ x, (enc x).length = k) {w : World} {base c : Nat} {e : TypeId} {A : Option Addr} {l : List α} (h : w.ownsRow base e k (.slice A l.length c) l.length (l.flatMap enc)) (i : Nat) (hi : i < l.length) :
    ∃ g cur, A = some ⟨g, 0, none⟩ ∧ base ≤ g ∧ Blk w g e cur ∧ cur.extract (i * k) (i * k + k) = (enc l[i]).toArray ∧ i * k + k ≤ cur.size := by
  have h0 := h
  obtain ⟨_, h | ⟨g, cap, cur, hv, h1, h2, h3, h4, h5, h6⟩⟩ := h
  · omega
  · injection hv with hA _ _
    have hle : (i + 1) * k ≤ cap * k := Nat.mul_le_mul_right k (by omega)
    rw [Nat.add_mul, Nat.one_mul] at hle
    refine ⟨g, cur, hA, h1, h2, ?_, by omega⟩
    apply Array.ext'
    apply List.ext_getElem?
    intro j
    have hlen : (enc l[i]).length = k := hk _
    by_cases hj : j < k
    · have e1 : (l.flatMap enc)[i * k + j]? = (enc l[i])[j]? := (flatMap_get enc k hk l i j l[i] (enc l[i])[j] (List.getElem?_eq_getElem hi) (List.getElem?_eq_getElem (by omega))).trans (List.getElem?_eq_getElem (by omega)).symm
      rw [Array.toList_extract, List.extract_eq_take_drop]
      have e2 : cur.toList[i * k + j]? = (l.flatMap enc)[i * k + j]? := by
        rw [← h6, List.getElem?_take_of_lt]
        have : (i + 1) * k ≤ l.length * k := Nat.mul_le_mul_right k (by omega)
        rw [Nat.add_mul, Nat.one_mul] at this
        omega
      rw [List.getElem?_take_of_lt (by omega), List.getElem?_drop, e2, e1]
    · rw [List.getElem?_eq_none (by simp [List.extract_eq_take_drop]; omega), List.getElem?_eq_none (by simp; omega)]
end Go.Proofs.YtjcinncphffgaaaGreat
namespace Go.Proofs.YtjcinncphffgaaaGreat
open Go.RowKit Go.Maps
theorem Tryz.infoOutR : (Tryz.prog.info? 131).map (fun i => (i.zero, i.size, i.bytes)) = some (some (.agg zOu.cs), 9, 104) := by kernel_rfl
set_option maxRecDepth 100000 in
set_option maxHeartbeats 1000000 in
theorem refout_x (o : Ou) (w : World) : Calls Tryz.prog 55 #[.agg o.cs] w fun e w' => e = .returned (.agg #[.int .i64 o.kind, .int .u64 (o.am : Nat), .string o.key, .string o.gate, .int .i64 o.ex, .string o.anchor, .int .u64 (o.unit : Nat), .int .i64 o.tok, .string o.of_]) ∧ Below w.heap.size w w' := by
  obtain ⟨k, am, key, gate, ex, an, un, tk, of_⟩ := o
  unfold Ou.cs
  go_enter Tryz.func55, Tryz.ntmps55
  go_wp2_with fail
  refine bodyPost_ret (v := .agg #[.int .i64 k, .int .u64 (am : Nat), .string key, .string gate, .int .i64 ex, .string an, .int .u64 (un : Nat), .int .i64 tk, .string of_]) (by simp [results, Tryz.results55, go_sem]) rfl ⟨rfl, ((Below.refl _ _).alloc (Nat.le_refl _) _).alloc (by simp) _⟩
theorem ouLen9 (o : Ou) : o.cl.length = 9 := rfl
def cutL (l : List Ou) (k : Nat) : List Ou := (l.take k).map cutO
theorem cutL_len (l : List Ou) (k : Nat) (h : k ≤ l.length) : (cutL l k).length = k := by unfold cutL; rw [List.length_map, List.length_take]; omega
theorem cutL_snoc (l : List Ou) (k : Nat) (h : k < l.length) : cutL l (k + 1) = cutL l k ++ [cutO l[k]] := by
  unfold cutL
  rw [List.take_succ_eq_append_getElem h, List.map_append]; rfl
theorem cutL_flat (l : List Ou) (k : Nat) (h : k < l.length) : (cutL l (k + 1)).flatMap Ou.cl = (cutL l k).flatMap Ou.cl ++ (cutO l[k]).cl := by
  rw [cutL_snoc l k h, List.flatMap_append]; simp
theorem cutL_at (l : List Ou) (k : Nat) (h : k < l.length) (hl : k < (cutL l (k + 1)).length) : (cutL l (k + 1))[k] = cutO l[k] := by
  unfold cutL
  simp [List.getElem_take]
set_option maxRecDepth 100000 in
set_option maxHeartbeats 2000000 in
theorem outs11_any (A0 : Option Addr) (l : List Ou) (c0 : Nat) (w0 : World) (hsl : Sl w0 w0.heap.size 9 Ou.cl A0 l) (hl : l.length ≤ maxLen) :
    Calls Tryz.prog 8 #[.slice A0 l.length c0, .int .i64 8] w0 fun e w' => ∃ (A : Option Addr) (c : Nat) (B : Option Addr) (d m : Nat), e = .returned (.tuple #[.slice A m c, .slice B m d]) ∧ m = ((l.take 8).map cutO).length ∧
      w'.ownsRow w0.heap.size 81 9 (.slice A m c) m (((l.take 8).map cutO).flatMap Ou.cl) ∧ w'.ownsRow w0.heap.size 131 9 (.slice B m d) m (((l.take 8).map cutO).flatMap Ou.cl) ∧ Below w0.heap.size w0 w' := by
  unfold maxLen at hl
  have HSL := Lib.hid hsl
  clear hsl
  obtain ⟨o0, hoi, ho0, ho1, ho2⟩ := info_parts Tryz.infoOutC
  have HOZ := Lib.hid ho0
  obtain ⟨r0, hri, hr0, hr1, hr2⟩ := info_parts Tryz.infoOutR
  have HRZ := Lib.hid hr0
  clear ho0 hr0
  have HO0 : Hid (((w0.alloc (.cells #[] 81)).alloc (.cells #[] 131)).ownsRow w0.heap.size 81 9 (.slice (some ⟨w0.heap.size, 0, none⟩) 0 0) 0 []) := Lib.hid (own_empty (show Blk _ _ _ _ from (Blk.new _ _ _).alloc _) (Nat.le_refl _))
  have HR0 : Hid (((w0.alloc (.cells #[] 81)).alloc (.cells #[] 131)).ownsRow w0.heap.size 131 9 (.slice (some ⟨w0.heap.size + 1, 0, none⟩) 0 0) 0 []) := Lib.hid (own_empty (show Blk _ _ _ _ from Blk.newAt (by simp)) (by omega))
  have HB0 : Hid (Below w0.heap.size w0 ((w0.alloc (.cells #[] 81)).alloc (.cells #[] 131))) := Lib.hid (((Below.refl _ _).alloc (Nat.le_refl _) _).alloc (by simp) _)
  go_enter Tryz.func8, Tryz.ntmps8
  go_wp2_with fail
  generalize (w0.alloc (.cells #[] 81)).alloc (.cells #[] 131) = W0 at HO0 HR0 HB0 ⊢
  go_loopw [6, 7, 8] (fun v6 v7 i wr => ∃ (k : Nat) (A : Option Addr) (c : Nat) (B : Option Addr) (d : Nat), k ≤ l.length ∧ k ≤ 8 ∧ i = .int .i64 k ∧ v6 = .slice A k c ∧ v7 = .slice B k d ∧ Hid (wr.ownsRow w0.heap.size 81 9 (.slice A k c) k ((cutL l k).flatMap Ou.cl)) ∧ Hid (wr.ownsRow w0.heap.size 131 9 (.slice B k d) k ((cutL l k).flatMap Ou.cl)) ∧ Hid (Below w0.heap.size w0 wr)) (fun _ _ i _ => 8 - (intOf i).toNat)
  case atStart => exact ⟨0, _, _, _, _, Nat.zero_le _, Nat.zero_le _, rfl, rfl, rfl, HO0, HR0, HB0⟩
  case round =>
    clear HO0 HR0 HB0
    obtain ⟨k, A, c, B, d, hk, hk8, rfl, rfl, rfl, HO, HR, HB⟩ := hrel
    by_cases hlt : k < l.length ∧ k < 8
    · obtain ⟨hlt, h8⟩ := hlt
      have HSN := Lib.hid (cutL_flat l k hlt)
      have HLE := Lib.hid (cutL_len l (k + 1) (by omega))
      have HAT := Lib.hid (fun hl => cutL_at l k hlt hl)
      obtain ⟨ab, off, hA, hab, hc⟩ := HSL.out.at_ hlt
      have HC := Lib.hid (fun (W : World) (hW : Below w0.heap.size w0 W) (j : Nat) (u : Value) (hu : (l[k]).cl[j]? = some u) => (hW.cell (p := ⟨ab, off + k * 9 + j, none⟩) hab).trans (hc j u hu))
      subst hA
      clear hc
      generalize l[k] = x at HC HSN HAT
      have HCx := Lib.hid (HC.out _ HB.out)
      have d1 : decide ((k : Int) < (l.length : Int)) = true := decide_eq_true (by omega)
      have d2 : decide ((k : Int) < 8) = true := decide_eq_true (by omega)
      have d3 : decide (k < l.length) = true := decide_eq_true hlt
      go_wp2_with (refine wpList_load_ou rfl (.tmp 25) rfl ab (off + k * 9) (by rfl) x HCx.out ?_)
      refine (cutout_x x _).mono ?_
      rintro e W1 ⟨rfl, hb⟩
      have HBA : Hid (Below wr.heap.size wr (W1.alloc (.cells (cutO x).cs 81))) := Lib.hid (hb.alloc hb.size _)
      have HNB : Hid (Blk (W1.alloc (.cells (cutO x).cs 81)) W1.heap.size 81 (cutO x).cs) := Blk.new _ _ _
      have HO1 := Lib.hid (own_belT HO.out HBA.out)
      have HR1 := Lib.hid (own_belT HR.out HBA.out)
      have HB1 : Hid (Below w0.heap.size w0 (W1.alloc (.cells (cutO x).cs 81))) := Lib.hid (HB.out.trans (HBA.out.mono HB.out.size))
      have HNW := Lib.hid (World.news_of_block HNB.out)
      clear hb HO HR HB HCx HBA HC HNB
      go_upto_region 6 with (at_builtin; refine wpList_append_lies _ rfl (.tmp 22) (.tmp 28) _ rfl w0.heap.size 81 o0 _ 9 104 Tryz.underlying22 hoi HOZ.out ho1 ho2 rfl (by omega) (.slice A k c) k ((cutL l k).flatMap Ou.cl) rfl HO1.out ⟨W1.heap.size, 0, none⟩ 1 1 (cutO x).cl rfl rfl HNW.out (oucl1 (cutO x)) (by omega) (by simp only [maxLen]; omega) (by omega) HB1.out.size _ rfl ?_; intro gg cap W5 hown hgrow hat hlt5; rw [← HSN.out] at hown; have HO5 := Lib.hid hown; have HR5 := Lib.hid (own_keptT HR1.out HO1.out (by decide) hgrow); have HB5 : Hid (Below w0.heap.size w0 W5) := Lib.hid (HB1.out.grown hgrow HB1.out.size (fun j hj => own_base HO1.out j hj)); clear hown hgrow hat hlt5 HO1 HR1 HB1 HNW)
      obtain ⟨g', cur, hg', _, hcur, hce, hcz⟩ := own_atA (c := cap) (A := some ⟨gg, 0, none⟩) (l := cutL l (k + 1)) ouLen9 (by rw [HLE.out]; exact HO5.out) k (by rw [HLE.out]; omega)
      injection hg' with hg'
      injection hg' with hg'
      subst hg'
      rw [HAT.out] at hce
      have HCE : Hid (cur.extract (k * 9) (k * 9 + 9) = (cutO x).cs) := Lib.hid (hce.trans (Array.toArray_toList ..))
      have HCU := Lib.hid hcur
      clear hce hcur HAT
      have d4 : decide (k < k + 1) = true := by simp
      go_wp2_with (refine wpList_load_blk rfl 81 (.tmp 33) (by rfl) gg (k * 9) 9 HCU.out (cutO x).cs (by go_simp) HCE.out Tryz.underlying81 infoOuC hcz ?_)
      refine (refout_x (cutO x) _).mono ?_
      rintro e W6 ⟨rfl, hb⟩
      have HBA : Hid (Below W5.heap.size W5 (W6.alloc (.cells (cutO x).cs 131))) := Lib.hid (hb.alloc hb.size _)
      have HNB : Hid (Blk (W6.alloc (.cells (cutO x).cs 131)) W6.heap.size 131 (cutO x).cs) := Blk.new _ _ _
      have HO7 := Lib.hid (own_belT HO5.out HBA.out)
      have HR7 := Lib.hid (own_belT HR5.out HBA.out)
      have HB7 : Hid (Below w0.heap.size w0 (W6.alloc (.cells (cutO x).cs 131))) := Lib.hid (HB5.out.trans (HBA.out.mono HB5.out.size))
      have HNW := Lib.hid (World.news_of_block HNB.out)
      clear hb HO5 HR5 HB5 HBA HNB HCE HCU hcz
      go_wp2_with (at_builtin; refine wpList_append_lies _ rfl (.tmp 30) (.tmp 36) _ rfl w0.heap.size 131 r0 _ 9 104 Tryz.underlying24 hri HRZ.out hr1 hr2 rfl (by omega) (.slice B k d) k ((cutL l k).flatMap Ou.cl) rfl HR7.out ⟨W6.heap.size, 0, none⟩ 1 1 (cutO x).cl rfl rfl HNW.out (oucl1 (cutO x)) (by omega) (by simp only [maxLen]; omega) (by omega) HB7.out.size _ rfl ?_; intro g8 cap8 W8 hown hgrow hat hlt5; rw [← HSN.out] at hown; have HR8 := Lib.hid hown; have HO8 := Lib.hid (own_keptT HO7.out HR7.out (by decide) hgrow); have HB8 : Hid (Below w0.heap.size w0 W8) := Lib.hid (HB7.out.grown hgrow HB7.out.size (fun j hj => own_base HR7.out j hj)); clear hown hgrow hat hlt5 HO7 HR7 HB7 HNW)
      go_roundw
      case rel => exact ⟨k + 1, _, _, _, _, by omega, by omega, by go_num, rfl, rfl, HO8, HR8, HB8⟩
      case measure => simp [intOf]; omega
    · have d1 : k < l.length → decide ((k : Int) < 8) = false := fun h => decide_eq_false (by omega)
      have hk2 : k = ((l.take 8).map cutO).length := by rw [List.length_map, List.length_take]; omega
      have hcw : cutL l k = (l.take 8).map cutO := by
        unfold cutL
        by_cases h8 : k = 8
        · rw [h8]
        · rw [List.take_of_length_le (show l.length ≤ k by omega), List.take_of_length_le (show l.length ≤ 8 by omega)]
      rw [hcw] at HO HR
      have HK2 := Lib.hid hk2
      clear hcw hk2
      by_cases hkl : k < l.length
      · have d2 := d1 hkl
        have d3 : decide (k < l.length) = true := decide_eq_true hkl
        clear d1 hlt
        go_wp2_with fail
        go_ret2
        exact ⟨A, c, B, d, k, rfl, HK2.out, HO.out, HR.out, HB.out⟩
      · have d3 : decide (k < l.length) = false := decide_eq_false hkl
        clear d1 hlt
        go_wp2_with fail
        go_ret2
        exact ⟨A, c, B, d, k, rfl, HK2.out, HO.out, HR.out, HB.out⟩
end Go.Proofs.YtjcinncphffgaaaGreat
