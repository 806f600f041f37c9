/- note.Right, of any proof. A set of numbers in memory; note.Proof.faces. note.Proof.faces. note.Worth, of any proof. -/
import Derived.Outline
import Derived.Maps.Views
import Derived.Test.YtjcinncphffgaaaGreatMjG14
import Derived.Test.YtjcinncphffgaaaGreatMjMerk
import Derived.Test.YtjcinncphffgaaaGreatMjSdkA
set_option linter.unusedVariables false
set_option linter.unusedSimpArgs false
namespace Go.Proofs.YtjcinncphffgaaaGreat
open Go.RowKit
def Wn.cl (x : Wn) : List Value := x.cs.toList
def zTk0 : Tk := ⟨ByteArray.empty, 0, 0, 0, 0, ByteArray.empty, 0, ByteArray.empty⟩
def zWn : Wn := ⟨zTk0, ByteArray.empty, 0⟩
theorem infoWn : (Tryz.prog.info? 122).map (·.size) = some 10 := by kernel_rfl
theorem wncs_one (x : Wn) : x.cs.all (·.oneCell') = true := by
  rw [Array.all_eq_true']
  intro v hv
  simp only [Wn.cs, List.mem_toArray, List.mem_cons, List.not_mem_nil, or_false] at hv
  rcases hv with rfl | rfl | rfl | rfl | rfl | rfl | rfl | rfl | rfl | rfl <;> rfl
theorem wncs_over (y x : Wn) : over y.cs 0 x.cs.toList = x.cs := (over_full x.cs.toList y.cs rfl).trans (Array.toArray_toList ..)
/-- one of a list of wins is read -/
theorem wpList_load_wn {ops : Array Oper} {rest : List Oper} {o : Oper} {a : Act} {w : World} {Q : Exit → Act → World → Prop} (hgd : o.guard = none) (x : Operand) (ho : o.op = .load 122 x) (b off : Nat) (hx : a.eval x = .pointer (some ⟨b, off, none⟩)) (y : Wn)
    (hc : ∀ j u, y.cl[j]? = some u → w.cell? ⟨b, off + j, none⟩ = some u) (h : wpList Tryz.prog ops Q rest (a.put o.dst (.agg y.cs)) w) : wpList Tryz.prog ops Q (o :: rest) a w := by
  refine wpList_load_mid (P := Tryz.prog) hgd 122 x ho b off hx y.cl _ hc Tryz.underlying122 rfl (by rw [infoWn]; rfl) ?_
  show wpList Tryz.prog ops Q rest (a.put o.dst (.agg y.cs.toList.toArray)) w
  rw [Array.toArray_toList]
  exact h
theorem bel_st' {V W : World} {o : Obj} (h : Ch [V.heap.size] (V.alloc o) W) : Below V.heap.size V W := ((Below.refl _ _).alloc (Nat.le_refl _) _).trans (h.below (by simp) (by simp))
def wmayB (x : Wn) : Bool := tmayB x.t && decide (x.salt.size ≤ 32)
def rightB (p : Pf) : Bool := p.l.all wmayB && decide (p.sig.size ≤ 400) && (decide (p.tok = ByteArray.empty) || decide (p.tok.size = 16)) && decide (p.l.length ≤ 3)
set_option maxRecDepth 100000 in
set_option maxHeartbeats 1000000 in
theorem right_any (p : Pf) (w : World) (hl : p.l.length ≤ 1000000) (hS : Sl w w.heap.size 10 Wn.cl p.A p.l) :
    Calls Tryz.prog 86 #[.agg p.cs] w fun e w' => e = .returned (.bool (rightB p)) ∧ Below w.heap.size w w' := by
  have HS := Lib.hid hS
  have HX := Lib.hid (Blk.new w 51 p.cs)
  have HA0 : Hid (Below w.heap.size w (w.alloc (.cells p.cs 51))) := (Below.refl _ _).alloc (Nat.le_refl _) _
  have hzx : w.heap.size < (w.alloc (.cells p.cs 51)).heap.size := HX.out.lt
  have c3 : (w.alloc (.cells p.cs 51)).cell? ⟨w.heap.size, 3, none⟩ = some (.slice p.A p.l.length p.c) := HX.out.cell 3
  have HXX : Hid (∀ W, Below (w.alloc (.cells p.cs 51)).heap.size (w.alloc (.cells p.cs 51)) W → Blk W w.heap.size 51 p.cs ∧ Below w.heap.size w W) := fun W hW => ⟨HX.out.bel hW, HA0.out.trans (hW.mono (by simp))⟩
  obtain ⟨A, hA⟩ : ∃ A, A = p.A := ⟨_, rfl⟩
  rw [← hA] at c3 HS
  have HA := Lib.hid hA
  clear hS hA
  go_enter Tryz.func86, Tryz.ntmps86
  go_wp2_with fail
  go_loopw [8] (fun i wr => ∃ k : Nat, k ≤ p.l.length ∧ i = .int .i64 k ∧ Hid ((p.l.take k).all wmayB = true) ∧ Hid (Below (w.alloc (.cells p.cs 51)).heap.size (w.alloc (.cells p.cs 51)) wr)) (fun i _ => p.l.length - (intOf i).toNat)
  case atStart => exact ⟨0, Nat.zero_le _, rfl, Lib.hid rfl, Below.refl _ _⟩
  case round =>
    obtain ⟨k, hk, rfl, HT, HB⟩ := hrel
    obtain ⟨hXr, hBw⟩ := HXX.out _ HB.out
    have HXr := Lib.hid hXr
    have HBw := Lib.hid hBw
    clear hXr hBw c3
    by_cases hlt : k < p.l.length
    · obtain ⟨ab, off, rfl, hbB, hc⟩ := (HS.out.below HBw.out).at_ hlt
      have HTS : Hid ((p.l.take (k + 1)).all wmayB = ((p.l.take k).all wmayB && wmayB p.l[k])) := by
        show _ = _
        rw [List.take_succ_eq_append_getElem hlt, List.all_append]
        simp
      have HBAD : Hid (wmayB p.l[k] = false → rightB p = false) := fun hbad => by
        unfold rightB
        have : p.l.all wmayB = false := by
          rw [List.all_eq_false]
          exact ⟨p.l[k], List.getElem_mem hlt, by rw [hbad]; simp⟩
        rw [this]; rfl
      generalize p.l[k] = x at hc HTS HBAD
      have HCC := Lib.hid hc
      have HM := fun W => Lib.hid (tmay_any x.t W)
      clear hc
      go_wp2_with (first
        | (refine wpList_load_wn rfl (.tmp 10) rfl ab (off + k * 10) (by rfl) x HCC.out ?_)
        | (refine wpList_store_part rfl 122 (.tmp 4) (.tmp 11) rfl wr.heap.size 0 (cs := zWn.cs) (Blk.new _ _ _) x.cs x.cs (by rfl) (by rfl) (Nat.le_refl 10) infoWn (wncs_one x) (wncs_over zWn x) ?_; intro W1 hb1 hc1; have HG := Lib.hid hb1; have hb := Lib.hid (bel_st' hc1); clear hb1 hc1)
        | (refine wpList_load_blk rfl 120 (.tmp 12) rfl wr.heap.size 0 8 HG.out (Tk.cs x.t) (by rfl) (by rfl) Tryz.underlying120 infoTk' (by show 8 ≤ 10; omega) ?_))
      refine (HM _).out.mono ?_
      rintro e W2 ⟨rfl, hb2⟩
      have HG2 := Lib.hid (HG.out.bel hb2)
      have HB2 := Lib.hid ((HB.out.trans (hb.out.mono HB.out.size)).trans (hb2.mono (Nat.le_trans HB.out.size hb.out.size)))
      have u8 : W2.cell? ⟨wr.heap.size, 8, none⟩ = some (.string x.salt) := HG2.out.cell 8
      have HWM : Hid (wmayB x = (tmayB x.t && decide (x.salt.size ≤ 32))) := rfl
      clear hb2 hb HG HCC
      generalize tmayB x.t = tm at HWM ⊢
      cases tm with
      | false =>
        go_wp2_with fail
        go_ret
        refine ⟨?_, (HXX.out _ HB2.out).2⟩
        have hf := HBAD.out (by rw [HWM.out]; rfl)
        rw [hf]
        rfl
      | true =>
        by_cases h32 : x.salt.size ≤ 32
        · have d32 : decide ((32 : Int) < (x.salt.size : Int)) = false := decide_eq_false (by omega)
          have H32 := Lib.hid h32
          clear h32
          go_wp2_with fail
          go_roundw
          case rel => exact ⟨k + 1, by omega, by go_num, Lib.hid (by rw [HTS.out, HT.out, HWM.out, decide_eq_true H32.out]; rfl), HB2⟩
          case measure => simp [intOf]; omega
        · have d32 : decide ((32 : Int) < (x.salt.size : Int)) = true := decide_eq_true (by omega)
          have H32 := Lib.hid h32
          clear h32
          go_wp2_with fail
          go_ret
          refine ⟨?_, (HXX.out _ HB2.out).2⟩
          have hf := HBAD.out (by rw [HWM.out, decide_eq_false H32.out]; rfl)
          rw [hf]
          rfl
    · have hkl : k = p.l.length := by omega
      subst hkl
      have HALL : Hid (p.l.all wmayB = true) := by have := HT.out; rwa [List.take_length] at this
      have v1 : wr.cell? ⟨w.heap.size, 1, none⟩ = some (.string p.sig) := HXr.out.cell 1
      have v2 : wr.cell? ⟨w.heap.size, 2, none⟩ = some (.string p.tok) := HXr.out.cell 2
      have v3 : wr.cell? ⟨w.heap.size, 3, none⟩ = some (.slice A p.l.length p.c) := by rw [HA.out]; exact HXr.out.cell 3
      have HRB : Hid (rightB p = (decide (p.sig.size ≤ 400) && (decide (p.tok = ByteArray.empty) || decide (p.tok.size = 16)) && decide (p.l.length ≤ 3))) := by
        show _ = _
        unfold rightB
        rw [HALL.out]; simp
      have e1 : decide ((p.sig.size : Int) ≤ 400) = decide (p.sig.size ≤ 400) := by rw [decide_eq_decide]; omega
      have e2 : p.tok.toList.isEmpty = decide (p.tok = ByteArray.empty) := by
        rw [← toList_beq]; cases h : p.tok.toList <;> simp
      have e3 : ((p.tok.size : Int) == 16) = decide (p.tok.size = 16) := by
        by_cases h : p.tok.size = 16
        · rw [decide_eq_true h, h]; rfl
        · rw [decide_eq_false h]; exact beq_eq_false_iff_ne.2 (by omega)
      have e4 : decide ((p.l.length : Int) ≤ 3) = decide (p.l.length ≤ 3) := by rw [decide_eq_decide]; omega
      generalize decide (p.sig.size ≤ 400) = b1 at e1 HRB
      generalize decide (p.tok = ByteArray.empty) = b2 at e2 HRB
      generalize decide (p.tok.size = 16) = b3 at e3 HRB
      generalize decide (p.l.length ≤ 3) = b4 at e4 HRB
      clear hlt hk
      cases b1 <;> cases b2 <;> cases b3 <;> cases b4 <;>
      · go_wp2_with fail
        go_ret
        exact ⟨by rw [HRB.out]; rfl, HBw.out⟩
end Go.Proofs.YtjcinncphffgaaaGreat
namespace Go.Proofs.YtjcinncphffgaaaGreat
open Go.RowKit Go.Maps
noncomputable abbrev elB : Value → Option (DU × List MemPlace) := plainElem Tryz.prog 4
theorem elB_mk (b : Bool) : elB (.bool b) = some (.lit (.bool b), []) := plainElem_bool Tryz.underlying4 b
theorem isMap_put {H : Type} {D : DataW H} (h : IsMap D) (k : Lit) (d : DataW H) : IsMap (D.put k d) := by
  obtain ⟨es, rfl⟩ := h
  exact ⟨_, rfl⟩
theorem plainElem_bool_inv {H : Type} {P : Program} {e : TypeId} (he : P.underlying e = some .bool) {v : Value} {z : DataW H × List MemPlace} (h : plainElem P e v = some z) : ∃ b, v = .bool b ∧ z = (.lit (.bool b), []) := by
  unfold plainElem at h
  rw [he] at h
  cases v <;> simp at h
  exact ⟨_, rfl, h.symm⟩
set_option maxRecDepth 100000 in
theorem elB_inv {v : Value} {b : Bool} {ps : List MemPlace} (h : elB v = some (.lit (.bool b), ps)) : v = .bool b := by
  obtain ⟨c, rfl, hz⟩ := plainElem_bool_inv (P := Tryz.prog) (e := 4) Tryz.underlying4 h
  have hz := congrArg Prod.fst hz
  injection hz with hz
  injection hz with hz
  rw [hz]
theorem zeroBo (w : World) : (zeroValue 4).run Tryz.prog w = .ok (.bool false) w := by kernel_rfl
def setD (l : List Nat) : DU := setOf (.lit (.bool true)) (l.map ku)
theorem ku_inj {a b : Nat} (h : ku a = ku b) : a = b := by
  unfold ku at h
  injection h with _ h
  omega
theorem setD_key (l : List Nat) : ∀ x ∈ l.map ku, WideAt.IsKeyLit x := by
  intro x hx
  obtain ⟨n, _, rfl⟩ := List.mem_map.1 hx
  exact ku_is n
theorem setD_has (l : List Nat) (n : Nat) : Maps.has (setD l) (ku n) = decide (n ∈ l) := by
  unfold setD
  rw [has_setOf _ _ _ (setD_key l), Bool.eq_iff_iff, List.any_eq_true, decide_eq_true_iff]
  constructor
  · rintro ⟨x, hx, hs⟩
    obtain ⟨m, hm, rfl⟩ := List.mem_map.1 hx
    rw [← ku_inj (WideAt.sameKey_eq hs)]; exact hm
  · intro h
    exact ⟨ku n, List.mem_map.2 ⟨n, h, rfl⟩, WideAt.sameKey_self (ku_is n)⟩
theorem setD_snoc (l : List Nat) (n : Nat) : setD (l ++ [n]) = (setD l).put (ku n) (.lit (.bool true)) := by
  unfold setD
  rw [List.map_append, List.map_cons, List.map_nil, setOf_snoc]
theorem fold_at (n : Nat) (z : DU) : ∀ (l : List Nat) (D : DU), IsMap D → (n ∈ l ∨ D.atKey (ku n) z = .lit (.bool true)) → (l.foldl (fun m x => m.put (ku x) (.lit (.bool true))) D).atKey (ku n) z = .lit (.bool true)
  | [], D, _, h => by
    rcases h with h | h
    · cases h
    · exact h
  | x :: r, D, hD, h => by
    show (r.foldl _ (D.put (ku x) (.lit (.bool true)))).atKey (ku n) z = _
    refine fold_at n z r _ (isMap_put hD _ _) ?_
    by_cases e : x = n
    · subst e
      exact .inr (atKey_put_same hD (ku_is _) _ _)
    · rcases h with h | h
      · rcases List.mem_cons.1 h with h | h
        · exact absurd h.symm e
        · exact .inl h
      · exact .inr (by rw [atKey_put_other (fun e' => e (ku_inj e').symm)]; exact h)
theorem setD_at (n : Nat) (l : List Nat) (h : n ∈ l) (z : DU) : (setD l).atKey (ku n) z = .lit (.bool true) := by
  unfold setD setOf
  rw [List.foldl_map]
  exact fold_at n z l _ isMap_empty (.inl h)
/-- block b is a set of numbers -/
def StU (w : World) (b : Nat) (l : List Nat) : Prop := w.ownsMap Tryz.prog 48 elB b l.length (setD l)
theorem StU.new (w : World) : StU (w.alloc (.map #[] 0)) w.heap.size [] := World.ownsMap_made _ _ _ _
theorem StU.ch {S : List Nat} {w w' : World} {b : Nat} {l : List Nat} (h : StU w b l) (hc : Ch S w w') (hn : b ∉ S) : StU w' b l := hc.map h hn
theorem StU.look {w : World} {b : Nat} {l : List Nat} (h : StU w b l) (n : Nat) (hn : n < 18446744073709551616) : (Instr.lookup 315 (.map (some b)) (.int .u64 (n : Int)) false).run Tryz.prog w = .ok (.bool (decide (n ∈ l))) w := by
  obtain ⟨v, ps, hrun, hv⟩ := World.ownsMap.lookup h lawU Tryz.underlying315 (zeroBo w) (elB_mk false) (ku_key n hn)
  by_cases hm : n ∈ l
  · rw [setD_at n l hm] at hv
    rw [hrun, elB_inv hv, decide_eq_true hm]
  · rw [atKey_of_not_has (by rw [setD_has, decide_eq_false hm])] at hv
    rw [hrun, elB_inv hv, decide_eq_false hm]
theorem StU.put {w : World} {b : Nat} {l : List Nat} (h : StU w b l) (n : Nat) (hn : n < 18446744073709551616) (hl : l.length < maxLen) : ∃ w', (Instr.mapUpdate 315 (.map (some b)) (.int .u64 (n : Int)) (.bool true)).run Tryz.prog w = .ok () w' ∧ StU w' b (l ++ [n]) ∧ Ch [b] w w' := by
  obtain ⟨w', hrun, h1, h2⟩ := World.ownsMap.update h lawU Tryz.underlying315 hl (ku_key n hn) (elB_mk true)
  refine ⟨w', hrun, ?_, Ch.of_grown h2⟩
  unfold StU
  rw [setD_snoc, List.length_append]
  exact h1
end Go.Proofs.YtjcinncphffgaaaGreat
namespace Go.Proofs.YtjcinncphffgaaaGreat
open Go.RowKit Go.Maps
def sers (l : List Wn) : List Nat := l.map fun x => x.t.ser
def fcs (l : List Wn) : List Value := l.map fun x => .int .u64 (x.t.face : Nat)
/-- what is wrong with a win behind others -/
def facE (t : Tm) (seen : List Nat) (x : Wn) : Int := if x.t.ch ≠ t.chan then 13 else if x.t.ser ∈ seen then 7 else wonE t.client x
def OkTo (t : Tm) (l : List Wn) (k : Nat) : Prop := ∀ i (h : i < l.length), i < k → facE t (sers (l.take i)) l[i] = 0
def FacR (t : Tm) (p : Pf) (w : World) (e : Ending) (w' : World) : Prop := Below w.heap.size w w' ∧
  ((∃ k, ∃ h : k < p.l.length, OkTo t p.l k ∧ facE t (sers (p.l.take k)) p.l[k] ≠ 0 ∧ e = .returned (.tuple #[.slice none 0 0, .int .i64 (facE t (sers (p.l.take k)) p.l[k])])) ∨
   (OkTo t p.l p.l.length ∧ ∃ v, e = .returned (.tuple #[v, .int .i64 0]) ∧ w'.ownsRow w.heap.size 48 1 v p.l.length (fcs p.l)))
theorem StU.obj {w : World} {b : Nat} {l : List Nat} (h : StU w b l) : ∃ es c, w.heap[b]? = some (.map es c) := by
  obtain ⟨es, c, hb, _⟩ := h
  exact ⟨es, c, hb⟩
theorem StU.ne_own {w : World} {b base size n : Nat} {l : List Nat} {e : TypeId} {v : Value} {xs : List Value} (h : StU w b l) (ho : w.ownsRow base e size v n xs) : some b ≠ v.ownBlock := by
  obtain ⟨es, c, hb⟩ := h.obj
  intro he
  obtain ⟨c', fz, hk⟩ := Lib.ownsRow_kind ho b he.symm
  rw [hb] at hk
  cases hk
theorem StU.ne_blk {w : World} {b g : Nat} {l : List Nat} {t : TypeId} {cs : Array Value} (h : StU w b l) (hg : Blk w g t cs) : b ≠ g := by
  obtain ⟨es, c, hb⟩ := h.obj
  rintro rfl
  unfold Blk at hg
  rw [hb] at hg
  cases hg
theorem StU.lt {w : World} {b : Nat} {l : List Nat} (h : StU w b l) : b < w.heap.size := World.ownsMap.lt h
theorem StU.grown {w w' : World} {b : Nat} {l : List Nat} {row : Option Nat} (h : StU w b l) (hg : w.grownBy w' row) (hn : some b ≠ row) : StU w' b l := by
  have hlt := h.lt
  obtain ⟨es, clock, hb, r⟩ := h
  exact ⟨es, clock, (hg.block b hlt hn).trans hb, r⟩
theorem own_base {w : World} {base size n : Nat} {e : TypeId} {v : Value} {xs : List Value} (h : w.ownsRow base e size v n xs) : ∀ b, v.ownBlock = some b → base ≤ b := by
  obtain ⟨_, h | ⟨g, cap, cur, rfl, hb, _⟩⟩ := h
  · obtain ⟨rfl, rfl⟩ := h
    intro b hb; cases hb
  · intro b hb'
    cases hb'
    exact hb
theorem own_nil0 (w : World) (base : Nat) (e : TypeId) (k : Nat) : w.ownsRow base e k (.slice none 0 0) 0 [] := ⟨by simp, .inl ⟨rfl, rfl⟩⟩
theorem OkTo.snoc {t : Tm} {l : List Wn} {k : Nat} (h : OkTo t l k) (hk : k < l.length) (he : facE t (sers (l.take k)) l[k] = 0) : OkTo t l (k + 1) := fun i hi hik => by
  by_cases e : i = k
  · subst e; exact he
  · exact h i hi (by omega)
theorem sers_snoc (l : List Wn) (k : Nat) (hk : k < l.length) : sers (l.take (k + 1)) = sers (l.take k) ++ [l[k].t.ser] := by
  unfold sers
  rw [List.take_succ_eq_append_getElem hk, List.map_append]; rfl
theorem fcs_snoc (l : List Wn) (k : Nat) (hk : k < l.length) : fcs (l.take (k + 1)) = fcs (l.take k) ++ [.int .u64 (l[k].t.face : Nat)] := by
  unfold fcs
  rw [List.take_succ_eq_append_getElem hk, List.map_append]; rfl
/-- behind the append: the set, the boxes -/
theorem fac_kept {w w1 w3 : World} {row : Option Nat} {mb px tx ser : Nat} {l : List Nat} {pc tc : Array Value} (hs : StU w1 mb l) (hp : Blk w1 px 51 pc) (ht : Blk w1 tx 269 tc) (hb : Below w.heap.size w w1)
    (hg : w1.grownBy w3 row) (hr : ∀ b, row = some b → w.heap.size ≤ b) (n1 : some mb ≠ row) (n2 : some px ≠ row) (n3 : some tx ≠ row) (hl : l.length < maxLen) (hser : ser < 18446744073709551616) (hmb : w.heap.size ≤ mb) :
    ∃ w4, (Instr.mapUpdate 315 (.map (some mb)) (.int .u64 (ser : Int)) (.bool true)).run Tryz.prog w3 = .ok () w4 ∧ StU w4 mb (l ++ [ser]) ∧ Ch [mb] w3 w4 ∧ Blk w4 px 51 pc ∧ Blk w4 tx 269 tc ∧ Below w.heap.size w w4 ∧ StU w3 mb l := by
  have h3 := hs.grown hg n1
  obtain ⟨w4, e1, e2, e3⟩ := h3.put ser hser hl
  have p3 := hp.grown hg n2
  have t3 := ht.grown hg n3
  have b3 : Below w.heap.size w w3 := hb.grown hg hb.size hr
  have m1 := h3.ne_blk p3
  have m2 := h3.ne_blk t3
  exact ⟨w4, e1, e2, e3, p3.ch e3 (by simpa using Ne.symm m1), t3.ch e3 (by simpa using Ne.symm m2), b3.trans (e3.below b3.size (by simpa using hmb)), h3⟩
set_option maxRecDepth 100000 in
set_option maxHeartbeats 2000000 in
theorem faces_any (t : Tm) (p : Pf) (w : World) (hl : p.l.length ≤ 1000000) (hfit : ∀ x ∈ p.l, x.fit) (hS : Sl w w.heap.size 10 Wn.cl p.A p.l) :
    Calls Tryz.prog 196 #[.agg p.cs, .agg t.cs] w (FacR t p w) := by
  have hmm := @run_makeMap Tryz.prog
  obtain ⟨i0, hi, hz0, hz1, hz2⟩ := info_parts Tryz.infoU64
  have Hhz := Lib.hid hz0
  have HS := Lib.hid hS
  have HF := Lib.hid hfit
  have HX := Lib.hid (Blk.alloc (Blk.new w 51 p.cs) (.cells t.cs 269))
  have HT : Hid (Blk ((w.alloc (.cells p.cs 51)).alloc (.cells t.cs 269)) (w.heap.size + 1) 269 t.cs) := Blk.newAt (by simp)
  have HA0 : Hid (Below w.heap.size w ((w.alloc (.cells p.cs 51)).alloc (.cells t.cs 269))) := ((Below.refl _ _).alloc (Nat.le_refl _) _).alloc (by simp) _
  have c3 : ∀ o, (((w.alloc (.cells p.cs 51)).alloc (.cells t.cs 269)).alloc o).cell? ⟨w.heap.size, 3, none⟩ = some (.slice p.A p.l.length p.c) := fun o => (HX.out.alloc o).cell 3
  have HM0 : Hid (StU (((w.alloc (.cells p.cs 51)).alloc (.cells t.cs 269)).alloc (.map #[] 0)) (w.heap.size + 1 + 1) []) := Lib.hid (by have q := StU.new ((w.alloc (.cells p.cs 51)).alloc (.cells t.cs 269)); rw [World.size_alloc, World.size_alloc] at q; exact q)
  obtain ⟨A, hA⟩ : ∃ A, A = p.A := ⟨_, rfl⟩
  rw [← hA] at c3 HS
  have HA := Lib.hid hA
  clear hS hA hz0 hfit
  go_enter Tryz.func196, Tryz.ntmps196
  go_wp2_with fail
  go_loopw [6, 16] (fun v i wr => ∃ (k : Nat) (B : Option Addr) (c : Nat), k ≤ p.l.length ∧ i = .int .i64 k ∧ v = .slice B k c ∧ Hid (OkTo t p.l k) ∧ Hid (wr.ownsRow w.heap.size 48 1 (.slice B k c) k (fcs (p.l.take k))) ∧ Hid (StU wr (w.heap.size + 1 + 1) (sers (p.l.take k))) ∧ Hid (Blk wr w.heap.size 51 p.cs ∧ Blk wr (w.heap.size + 1) 269 t.cs) ∧ Hid (Below w.heap.size w wr)) (fun _ i _ => p.l.length - (intOf i).toNat)
  case atStart => exact ⟨0, none, 0, Nat.zero_le _, rfl, rfl, Lib.hid (fun i _ h => by omega), own_nil0 _ _ _ _, HM0, Lib.hid ⟨HX.out.alloc _, HT.out.alloc _⟩, HA0.out.alloc HA0.out.size _⟩
  case round =>
    obtain ⟨k, B, cc, hk, rfl, rfl, HOK, HO, HM, HBX, HB⟩ := hrel
    have hz := HB.out.size
    have hzb2 := HBX.out.2.lt
    have hzb3 := HM.out.lt
    clear c3 HM0
    by_cases hlt : k < p.l.length
    · obtain ⟨ab, off, rfl, hbB, hc⟩ := (HS.out.below HB.out).at_ hlt
      have HSN := Lib.hid (sers_snoc p.l k hlt)
      have HFN := Lib.hid (fcs_snoc p.l k hlt)
      have HON : Hid (facE t (sers (p.l.take k)) p.l[k] = 0 → OkTo t p.l (k + 1)) := fun he => HOK.out.snoc hlt he
      have HBAD : Hid (∀ W' f, Below w.heap.size w W' → facE t (sers (p.l.take k)) p.l[k] = f → f ≠ 0 → FacR t p w (.returned (.tuple #[.slice none 0 0, .int .i64 f])) W') := fun W' f hb he hf => ⟨hb, .inl ⟨k, hlt, HOK.out, by rw [he]; exact hf, by rw [he]⟩⟩
      have hfx := HF.out _ (List.getElem_mem hlt)
      have hlen : (sers (p.l.take k)).length = k := by simp [sers]; omega
      generalize p.l[k] = x at hc HSN HFN HON HBAD hfx
      generalize sers (p.l.take k) = ss at HM HSN HON HBAD hlen
      generalize fcs (p.l.take k) = ff at HO HFN
      have HCC := Lib.hid hc
      have HFE : Hid (facE t ss x = if x.t.ch ≠ t.chan then 13 else if x.t.ser ∈ ss then 7 else wonE t.client x) := rfl
      have hser := hfx.ser
      have hface := hfx.face
      have HWN := fun W => Lib.hid (won_any t.client x W hfx)
      have HWV : Hid (wonV t.client x = if wonE t.client x = 0 then x.t.face else 0) := rfl
      have hbq := toList_beq x.t.ch t.chan
      clear hc hfx
      have HFR : Hid (∀ W1, Below wr.heap.size wr W1 → StU W1 (w.heap.size + 1 + 1) ss ∧ Blk W1 w.heap.size 51 p.cs ∧ Blk W1 (w.heap.size + 1) 269 t.cs ∧ Below w.heap.size w W1 ∧ W1.ownsRow w.heap.size 48 1 (.slice B k cc) k ff) := fun W1 hb => ⟨HM.out.ch (Ch.of_below hb []) (by simp), HBX.out.1.bel hb, HBX.out.2.bel hb, HB.out.trans (hb.mono hz), Ch.owns (Ch.of_below hb []) HO.out (by simp)⟩
      have go1 : ∀ W1, Below wr.heap.size wr W1 → Hid ((Instr.lookup 315 (.map (some (w.heap.size + 1 + 1))) (.int .u64 (x.t.ser : Int)) false).run Tryz.prog W1 = .ok (.bool (decide (x.t.ser ∈ ss))) W1) := fun W1 hb => (HFR.out W1 hb).1.look _ hser
      by_cases hch : x.t.ch = t.chan
      · rw [decide_eq_true hch] at hbq
        by_cases hin : x.t.ser ∈ ss
        · have hf7 : facE t ss x = 7 := by rw [HFE.out, if_neg (by simpa using hch), if_pos hin]
          have HF7 := Lib.hid hf7
          rw [decide_eq_true hin] at go1
          clear hf7 hin hch
          go_wp2_with (first
            | (refine wpList_load_wn rfl (.tmp 18) rfl ab (off + k * 10) (by rfl) x HCC.out ?_)
              | (refine wpList_store_part rfl 122 (.tmp 9) (.tmp 19) rfl wr.heap.size 0 (cs := zWn.cs) (Blk.new _ _ _) x.cs x.cs (by rfl) (by rfl) (Nat.le_refl 10) infoWn (wncs_one x) (wncs_over zWn x) ?_; intro W1 hb1 hc1; have HG := Lib.hid hb1; have hb := Lib.hid (bel_st' hc1); have g0 : W1.cell? ⟨wr.heap.size, 0, none⟩ = some (.string x.t.ch) := hb1.cell 0; have e0 : W1.cell? ⟨w.heap.size + 1, 0, none⟩ = some (.string t.chan) := (HFR.out W1 hb.out).2.2.1.cell 0; have g1 : W1.cell? ⟨wr.heap.size, 1, none⟩ = some (.int .u64 x.t.ser) := hb1.cell 1; have e1 : W1.cell? ⟨w.heap.size + 1, 1, none⟩ = some (.string t.client) := (HFR.out W1 hb.out).2.2.1.cell 1; (have hlk := (go1 W1 hb.out).out; clear go1); clear hb1 hc1))
          go_ret2
          exact HBAD.out _ 7 (HFR.out _ hb.out).2.2.2.1 HF7.out (by decide)
        · have HFW : Hid (facE t ss x = wonE t.client x) := Lib.hid (by rw [HFE.out, if_neg (by simpa using hch), if_neg hin])
          rw [decide_eq_false hin] at go1
          clear hin hch
          by_cases hE : wonE t.client x = 0
          · have hV : wonV t.client x = x.t.face := by rw [HWV.out, if_pos hE]
            rw [hE, hV] at HWN
            have HOK1 := Lib.hid (HON.out (by rw [HFW.out, hE]))
            clear hE hV HBAD HFW HWV HFE
            go_wp2_with (first
              | (refine wpList_load_wn rfl (.tmp 18) rfl ab (off + k * 10) (by rfl) x HCC.out ?_)
                | (refine wpList_store_part rfl 122 (.tmp 9) (.tmp 19) rfl wr.heap.size 0 (cs := zWn.cs) (Blk.new _ _ _) x.cs x.cs (by rfl) (by rfl) (Nat.le_refl 10) infoWn (wncs_one x) (wncs_over zWn x) ?_; intro W1 hb1 hc1; have HG := Lib.hid hb1; have hb := Lib.hid (bel_st' hc1); have g0 : W1.cell? ⟨wr.heap.size, 0, none⟩ = some (.string x.t.ch) := hb1.cell 0; have e0 : W1.cell? ⟨w.heap.size + 1, 0, none⟩ = some (.string t.chan) := (HFR.out W1 hb.out).2.2.1.cell 0; have g1 : W1.cell? ⟨wr.heap.size, 1, none⟩ = some (.int .u64 x.t.ser) := hb1.cell 1; have e1 : W1.cell? ⟨w.heap.size + 1, 1, none⟩ = some (.string t.client) := (HFR.out W1 hb.out).2.2.1.cell 1; (have hlk := (go1 W1 hb.out).out; clear go1); clear hb1 hc1)
              | (refine wpList_load_blk rfl 122 (.tmp 9) rfl wr.heap.size 0 10 HG.out x.cs (by rfl) (by rfl) Tryz.underlying122 infoWn (Nat.le_refl 10) ?_))
            refine (HWN _).out.mono ?_
            rintro e W2 ⟨rfl, hb2⟩
            have hbw : Below wr.heap.size wr W2 := hb.out.trans (hb2.mono hb.out.size)
            have HBW := Lib.hid hbw
            have HG2 := Lib.hid (HG.out.bel hb2)
            clear hb2 hlk g0 g1 e0 e1 HG hb HWN
            have hzz : w.heap.size ≤ W2.heap.size := Nat.le_trans hz hbw.size
            obtain ⟨f1, f2, f3, f4, f5⟩ := HFR.out _ (hbw.alloc hbw.size (.cells #[.int .u64 (x.t.face : Nat)] 48))
            have HF1 := Lib.hid f1
            have HF2 := Lib.hid f2
            have HF3 := Lib.hid f3
            have HF4 := Lib.hid f4
            have HO2 := Lib.hid f5
            clear f1 f2 f3 f4 f5 hbw HFR
            go_wp2_with (first
              | (at_builtin; go_loud (refine wpList_append_own _ rfl (.tmp 43) (.tmp 45) _ rfl w.heap.size 48 i0 _ 1 8 Tryz.underlying199 hi Hhz.out hz1 hz2 rfl (by decide) _ k _ rfl HO2.out ⟨W2.heap.size, 0, none⟩ 1 1 [.int .u64 (x.t.face : Nat)] rfl rfl (news_alloc _ _ _ _ _ rfl rfl) (one_int _) (by simp only [maxLen]; omega) (by omega) (by simp; omega) ?_; intro v' w3 hown3 hg3 hnil3; have HO3 := Lib.hid hown3; have HG3 := Lib.hid hg3; obtain ⟨w4, hrun4, hs4, hc4, hp4, ht4, hb4, hs3⟩ := fac_kept HF1.out HF2.out HF3.out HF4.out hg3 (own_base HO2.out) (StU.ne_own HF1.out HO2.out) (Blk.ne_own HF2.out HO2.out (by decide)) (Blk.ne_own HF3.out HO2.out (by decide)) (by rw [hlen]; simp only [maxLen]; omega) hser (by omega); have g1 : w3.cell? ⟨wr.heap.size, 1, none⟩ = some (.int .u64 x.t.ser) := Blk.cell (Blk.grown (HG2.out.alloc _) hg3 (Blk.ne_own (HG2.out.alloc _) HO2.out (by decide))) 1; have HN3 := Lib.hid (StU.ne_own hs3 hown3); have HS4 := Lib.hid hs4; have HC4 := Lib.hid hc4; have HP4 := Lib.hid hp4; have HT4 := Lib.hid ht4; have HB4 := Lib.hid hb4; clear hown3 hg3 hnil3 hs4 hc4 hp4 ht4 hb4 hs3)))
            obtain ⟨B3, c3, rfl⟩ := own_form HO3.out
            go_roundw
            case rel => exact ⟨k + 1, B3, c3, by omega, by go_num, rfl, HOK1, Lib.hid (by rw [HFN.out]; exact Ch.owns HC4.out HO3.out (fun b hb hm => HN3.out (by rw [hb]; simp at hm; rw [hm]))), by rw [HSN.out]; exact HS4, Lib.hid ⟨HP4.out, HT4.out⟩, HB4⟩
            case measure => simp [intOf]; omega
          · have f1 : (wonE t.client x != 0) = true := by simp [bne, beq_eq_false_iff_ne.2 hE]
            have HE := Lib.hid hE
            generalize wonE t.client x = we at *
            clear hE HON HWV HFE
            go_wp2_with (first
              | (refine wpList_load_wn rfl (.tmp 18) rfl ab (off + k * 10) (by rfl) x HCC.out ?_)
                | (refine wpList_store_part rfl 122 (.tmp 9) (.tmp 19) rfl wr.heap.size 0 (cs := zWn.cs) (Blk.new _ _ _) x.cs x.cs (by rfl) (by rfl) (Nat.le_refl 10) infoWn (wncs_one x) (wncs_over zWn x) ?_; intro W1 hb1 hc1; have HG := Lib.hid hb1; have hb := Lib.hid (bel_st' hc1); have g0 : W1.cell? ⟨wr.heap.size, 0, none⟩ = some (.string x.t.ch) := hb1.cell 0; have e0 : W1.cell? ⟨w.heap.size + 1, 0, none⟩ = some (.string t.chan) := (HFR.out W1 hb.out).2.2.1.cell 0; have g1 : W1.cell? ⟨wr.heap.size, 1, none⟩ = some (.int .u64 x.t.ser) := hb1.cell 1; have e1 : W1.cell? ⟨w.heap.size + 1, 1, none⟩ = some (.string t.client) := (HFR.out W1 hb.out).2.2.1.cell 1; (have hlk := (go1 W1 hb.out).out; clear go1); clear hb1 hc1)
              | (refine wpList_load_blk rfl 122 (.tmp 9) rfl wr.heap.size 0 10 HG.out x.cs (by rfl) (by rfl) Tryz.underlying122 infoWn (Nat.le_refl 10) ?_))
            refine (HWN _).out.mono ?_
            rintro e W2 ⟨rfl, hb2⟩
            have HBW := Lib.hid (hb.out.trans (hb2.mono hb.out.size))
            clear hb2 hlk g0 g1 e0 e1 HG hb
            go_wp2_with fail
            go_ret2
            exact HBAD.out _ we (HFR.out _ HBW.out).2.2.2.1 HFW.out HE.out
      · rw [decide_eq_false hch] at hbq
        have HF13 := Lib.hid (show facE t ss x = 13 by rw [HFE.out, if_pos hch])
        clear hch go1
        go_wp2_with (first
          | (refine wpList_load_wn rfl (.tmp 18) rfl ab (off + k * 10) (by rfl) x HCC.out ?_)
          | (refine wpList_store_part rfl 122 (.tmp 9) (.tmp 19) rfl wr.heap.size 0 (cs := zWn.cs) (Blk.new _ _ _) x.cs x.cs (by rfl) (by rfl) (Nat.le_refl 10) infoWn (wncs_one x) (wncs_over zWn x) ?_; intro W1 hb1 hc1; have HG := Lib.hid hb1; have hb := Lib.hid (bel_st' hc1); have g0 : W1.cell? ⟨wr.heap.size, 0, none⟩ = some (.string x.t.ch) := hb1.cell 0; have e0 : W1.cell? ⟨w.heap.size + 1, 0, none⟩ = some (.string t.chan) := (HFR.out W1 hb.out).2.2.1.cell 0; clear hb1 hc1))
        go_ret2
        exact HBAD.out _ 13 (HFR.out _ hb.out).2.2.2.1 HF13.out (by decide)
    · have hkl : k = p.l.length := by omega
      subst hkl
      rw [List.take_length] at HO
      go_wp2_with fail
      go_ret2
      exact ⟨HB.out, .inr ⟨HOK.out, _, rfl, HO.out⟩⟩
end Go.Proofs.YtjcinncphffgaaaGreat
namespace Go.Proofs.YtjcinncphffgaaaGreat
open Go.RowKit Go.Maps
theorem infoPf : (Tryz.prog.info? 51).map (·.size) = some 4 := by kernel_rfl
theorem infoTm : (Tryz.prog.info? 269).map (·.size) = some 5 := by kernel_rfl
def fcI (l : List Wn) : List Int := l.map fun x => (x.t.face : Int)
theorem fcs_eq (l : List Wn) : fcs l = (fcI l).map (Value.int .u64) := by simp [fcs, fcI]
/-- what the tokens are worth, or what is wrong -/
def TokX (t : Tm) (p : Pf) (v : Nat) (f : Int) : Prop :=
  (p.tok = ByteArray.empty ∧ v = 0 ∧ f = 0) ∨ (p.tok.size ≠ 16 ∧ p.tok ≠ ByteArray.empty ∧ v = 0 ∧ f = 1) ∨ (p.tok.size = 16 ∧ ∃ n b, CntP t.anchor p.tok t.tokens n b ∧ (v : Int) = (if b then mulV n t.unit else 0) ∧ f = (if b then mulE n t.unit else 4))
theorem TokX.lt {t : Tm} {p : Pf} {v : Nat} {f : Int} (h : TokX t p v f) : (v : Int) < 18446744073709551616 := by
  rcases h with ⟨_, rfl, _⟩ | ⟨_, _, rfl, _⟩ | ⟨_, n, b, _, hv, _⟩
  · decide
  · decide
  · rw [hv]
    have := (mulV_bd n t.unit).2
    cases b
    · rw [if_neg (by decide)]; decide
    · rw [if_pos rfl]; exact this
theorem fcI_bd {l : List Wn} (h : ∀ x ∈ l, x.fit) : ∀ y ∈ fcI l, 0 ≤ y ∧ y < 18446744073709551616 := by
  intro y hy
  obtain ⟨x, hx, rfl⟩ := List.mem_map.1 hy
  have := (h x hx).face
  omega
def FacX (t : Tm) (p : Pf) (f : Int) : Prop := ∃ k, ∃ h : k < p.l.length, OkTo t p.l k ∧ f = facE t (sers (p.l.take k)) p.l[k] ∧ f ≠ 0
def WorR (t : Tm) (p : Pf) (w : World) (e : Ending) (w' : World) : Prop := Below w.heap.size w w' ∧ ∃ (v f : Int), e = .returned (.tuple #[.int .u64 v, .int .i64 f]) ∧
  ((rightB p = false ∧ v = 0 ∧ f = 1) ∨ (rightB p = true ∧ ((paidB t p = false ∧ v = 0 ∧ f = 10) ∨ (paidB t p = true ∧ ((∃ z, TokX t p z f ∧ f ≠ 0 ∧ v = 0) ∨
    (∃ z : Nat, TokX t p z 0 ∧ ((FacX t p f ∧ v = 0) ∨ (OkTo t p.l p.l.length ∧ v = totV (fcI p.l ++ [(p.am : Int), (z : Int)]) ∧ f = totE (fcI p.l ++ [(p.am : Int), (z : Int)])))))))))
set_option maxRecDepth 100000 in
set_option maxHeartbeats 2000000 in
theorem worth_any (t : Tm) (p : Pf) (w : World) (ht : t.ok) (hl : p.l.length ≤ 1000) (hfit : ∀ x ∈ p.l, x.fit) (hS : Sl w w.heap.size 10 Wn.cl p.A p.l) (hs : p.sig.size ≤ 1000000) (ha : p.am < 18446744073709551616) :
    Calls Tryz.prog 164 #[.agg t.cs, .agg p.cs] w (WorR t p w) := by
  have HT := Lib.hid (Blk.alloc (Blk.new w 269 t.cs) (.cells p.cs 51))
  have HX : Hid (Blk ((w.alloc (.cells t.cs 269)).alloc (.cells p.cs 51)) (w.heap.size + 1) 51 p.cs) := Blk.newAt (by simp)
  have HB : Hid (Below w.heap.size w ((w.alloc (.cells t.cs 269)).alloc (.cells p.cs 51))) := ((Below.refl _ _).alloc (Nat.le_refl _) _).alloc (by simp) _
  have HSl : Hid (∀ W, Below w.heap.size w W → Sl W W.heap.size 10 Wn.cl p.A p.l) := fun W hb => (hS.below hb).more hb.size
  have HRI := fun W hb => Lib.hid (right_any p W (by omega) (HSl.out W hb))
  have HPA := fun W => Lib.hid (paid_any t p W ht hs ha)
  have HTO := fun W => Lib.hid (tokens_any t p W ht)
  have HFA := fun W hb => Lib.hid (faces_any t p W (by omega) hfit (HSl.out W hb))
  have HFB := Lib.hid (fcI_bd hfit)
  obtain ⟨i0, hi, hz0, hz1, hzb⟩ := info_parts Tryz.infoU64
  have Hhz := Lib.hid hz0
  clear hS hfit hs ht hz0
  go_enter Tryz.func164, Tryz.ntmps164
  go_wp2_with (first
    | (refine wpList_load_blk rfl 51 (.tmp 3) rfl _ 0 4 HX.out p.cs (by rfl) (by rfl) Tryz.underlying51 infoPf (Nat.le_refl 4) ?_))
  refine (HRI _ HB.out).out.mono ?_
  rintro e w1 ⟨rfl, hb⟩
  replace HT := Lib.hid (HT.out.bel hb)
  replace HX := Lib.hid (HX.out.bel hb)
  replace HB := Lib.hid (HB.out.trans (hb.mono HB.out.size))
  clear hb HRI
  cases hr : rightB p with
  | false =>
    have HR := Lib.hid hr
    clear hr
    go_wp2_with fail
    go_ret2
    exact ⟨HB.out, 0, 1, rfl, .inl ⟨HR.out, rfl, rfl⟩⟩
  | true =>
    have HR := Lib.hid hr
    clear hr
    go_wp2_with (first
      | (refine wpList_load_blk rfl 51 (.tmp 3) rfl _ 0 4 HX.out p.cs (by rfl) (by rfl) Tryz.underlying51 infoPf (Nat.le_refl 4) ?_)
      | (refine wpList_load_blk rfl 269 (.tmp 2) rfl _ 0 5 HT.out t.cs (by rfl) (by rfl) Tryz.underlying269 infoTm (Nat.le_refl 5) ?_))
    refine (HPA _).out.mono ?_
    rintro e w2 ⟨rfl, hb⟩
    replace HT := Lib.hid (HT.out.bel hb)
    replace HX := Lib.hid (HX.out.bel hb)
    replace HB := Lib.hid (HB.out.trans (hb.mono HB.out.size))
    clear hb HPA
    cases hp : paidB t p with
    | false =>
      have HP := Lib.hid hp
      clear hp
      go_wp2_with fail
      go_ret2
      exact ⟨HB.out, 0, 10, rfl, .inr ⟨HR.out, .inl ⟨HP.out, rfl, rfl⟩⟩⟩
    | true =>
      have HP := Lib.hid hp
      clear hp
      simp only [if_true]
      go_wp2_with (first
        | (refine wpList_load_blk rfl 51 (.tmp 3) rfl _ 0 4 HX.out p.cs (by rfl) (by rfl) Tryz.underlying51 infoPf (Nat.le_refl 4) ?_)
        | (refine wpList_load_blk rfl 269 (.tmp 2) rfl _ 0 5 HT.out t.cs (by rfl) (by rfl) Tryz.underlying269 infoTm (Nat.le_refl 5) ?_))
      refine (HTO _).out.mono ?_
      rintro e w3 ⟨z, f, rfl, hb, hx⟩
      replace HT := Lib.hid (HT.out.bel hb)
      replace HX := Lib.hid (HX.out.bel hb)
      replace HB := Lib.hid (HB.out.trans (hb.mono HB.out.size))
      have HTX : Hid (TokX t p z f) := hx
      clear hb HTO hx
      by_cases hf : f = 0
      · subst hf
        go_wp2_with (first
          | (refine wpList_load_blk rfl 51 (.tmp 3) rfl _ 0 4 HX.out p.cs (by rfl) (by rfl) Tryz.underlying51 infoPf (Nat.le_refl 4) ?_)
          | (refine wpList_load_blk rfl 269 (.tmp 2) rfl _ 0 5 HT.out t.cs (by rfl) (by rfl) Tryz.underlying269 infoTm (Nat.le_refl 5) ?_))
        refine (HFA _ HB.out).out.mono ?_
        rintro e w4 ⟨hb, hcase⟩
        have hzw := HB.out.size
        have hz34 := hb.size
        replace HB := Lib.hid (HB.out.trans (hb.mono HB.out.size))
        clear hb HFA HT HX
        rcases hcase with ⟨k, hk, hok, hne, rfl⟩ | ⟨hok, v, rfl, hown⟩
        · have HFX : Hid (FacX t p (facE t (sers (p.l.take k)) p.l[k])) := ⟨k, hk, hok, rfl, hne⟩
          have f1 : (facE t (sers (p.l.take k)) p.l[k] != 0) = true := by simp [bne, beq_eq_false_iff_ne.2 hne]
          generalize facE t (sers (p.l.take k)) p.l[k] = ff at *
          clear hok hne
          go_wp2_with fail
          go_ret2
          exact ⟨HB.out, 0, ff, rfl, .inr ⟨HR.out, .inr ⟨HP.out, .inr ⟨z, HTX.out, .inl ⟨HFX.out, rfl⟩⟩⟩⟩⟩
        · have hzl := HTX.out.lt
          have HOK := Lib.hid hok
          rw [fcs_eq] at hown
          obtain ⟨B, cc, rfl⟩ := own_form hown
          have HO := Lib.hid (hown.alloc (.cells #[.int .u64 (p.am : Int), .int .u64 (z : Int)] 48))
          have HL : Hid ((fcI p.l ++ [(p.am : Int), (z : Int)]).length = p.l.length + 2) := by show _ = _; simp [fcI]
          clear hok hown
          go_wp2_with (first
            | (at_builtin; (refine wpList_append_own _ rfl (.tmp 40) (.tmp 43) _ rfl w3.heap.size 48 i0 _ 1 8 Tryz.underlying199 hi Hhz.out hz1 hzb rfl (by decide) _ p.l.length _ rfl HO.out ⟨w4.heap.size, 0, none⟩ 2 2 [.int .u64 (p.am : Int), .int .u64 (z : Int)] rfl rfl (news_alloc _ _ _ _ _ rfl rfl) (by intro u hu; simp at hu; rcases hu with rfl | rfl <;> rfl) (by simp only [maxLen]; omega) (by omega) (by simp; omega) ?_; intro v' w5 hown5 hg5 hnil5; have HO5 := Lib.hid hown5; have HG5 := Lib.hid hg5; clear hown5 hg5 hnil5)))
          obtain ⟨B5, c5, rfl⟩ := own_form HO5.out
          have HB5 : Hid (Below w.heap.size w w5) := (HB.out.alloc (Nat.le_trans hzw hz34) _).grown HG5.out (by simp; omega) (fun b hb => by have := own_base HO.out b hb; omega)
          have e5 : (fcI p.l).map (Value.int .u64) ++ [.int .u64 (p.am : Int), .int .u64 (z : Int)] = (fcI p.l ++ [(p.am : Int), (z : Int)]).map (Value.int .u64) := by simp
          have HS := Lib.hid (sum64_any B5 (fcI p.l ++ [(p.am : Int), (z : Int)]) c5 w5 (by rw [HL.out]; omega) (by
            intro y hy
            rcases List.mem_append.1 hy with h | h
            · exact HFB.out y h
            · simp at h; rcases h with rfl | rfl <;> omega) (Sl.of_own (base := w3.heap.size) (n := p.l.length + 2) (c := c5) (e := 48) (fun _ => rfl) (by rw [u64_flat, ← e5, HL.out]; exact HO5.out)))
          rw [HL.out] at HS
          have HTZ := Lib.hid (Eq.refl (totV (fcI p.l ++ [(p.am : Int), (z : Int)])))
          generalize hv : totV (fcI p.l ++ [(p.am : Int), (z : Int)]) = tv at HS
          generalize hf : totE (fcI p.l ++ [(p.am : Int), (z : Int)]) = tf at HS
          have HV := Lib.hid hv
          have HF := Lib.hid hf
          clear hv hf e5 HTZ hzl
          go_wp2_with fail
          refine HS.out.mono ?_
          rintro e w6 ⟨rfl, rfl⟩
          go_wp2_with fail
          go_ret2
          exact ⟨HB5.out, tv, tf, rfl, .inr ⟨HR.out, .inr ⟨HP.out, .inr ⟨z, HTX.out, .inr ⟨HOK.out, HV.out.symm, HF.out.symm⟩⟩⟩⟩⟩
      · have f1 : (f != 0) = true := by simp [bne, beq_eq_false_iff_ne.2 hf]
        have HF := Lib.hid hf
        clear hf
        go_wp2_with fail
        go_ret2
        exact ⟨HB.out, 0, f, rfl, .inr ⟨HR.out, .inr ⟨HP.out, .inl ⟨z, HTX.out, HF.out, rfl⟩⟩⟩⟩
end Go.Proofs.YtjcinncphffgaaaGreat
