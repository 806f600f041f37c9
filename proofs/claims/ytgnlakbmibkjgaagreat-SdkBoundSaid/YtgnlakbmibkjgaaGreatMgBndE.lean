/- SdkBound: what its last lines read, and what the proof that is shown is. -/
import Derived.Test.YtgnlakbmibkjgaaGreatMgBndC
import Derived.Test.YtgnlakbmibkjgaaGreatMgTrmA
import Derived.Test.YtgnlakbmibkjgaaGreatMgWorE
set_option linter.unusedVariables false
set_option linter.unusedSimpArgs false
namespace Go.Proofs.YtgnlakbmibkjgaaGreat
open Go.RowKit Go.Maps
theorem own_at {α : Type} {enc : α → List Value} {k : Nat} (hk : ∀ x, (enc x).length = k) {w : World} {base c : Nat} {e : TypeId} {A : Option Addr} {l : List α} (h : w.ownsRow base e k (.slice A l.length c) l.length (l.flatMap enc)) (i : Nat) (hi : i < l.length) :
    ∃ g cur, A = some ⟨g, 0, none⟩ ∧ base ≤ g ∧ Blk w g e cur ∧ cur.extract (i * k) (i * k + k) = (enc l[i]).toArray ∧ i * k + k ≤ cur.size := by
  have h0 := h
  obtain ⟨_, h | ⟨g, cap, cur, hv, h1, h2, h3, h4, h5, h6⟩⟩ := h
  · omega
  · injection hv with hA _ _
    have hle : (i + 1) * k ≤ cap * k := Nat.mul_le_mul_right k (by omega)
    rw [Nat.add_mul, Nat.one_mul] at hle
    refine ⟨g, cur, hA, h1, h2, ?_, by omega⟩
    apply Array.ext'
    apply List.ext_getElem?
    intro j
    have hlen : (enc l[i]).length = k := hk _
    by_cases hj : j < k
    · have e1 : (l.flatMap enc)[i * k + j]? = (enc l[i])[j]? := (flatMap_get enc k hk l i j l[i] (enc l[i])[j] (List.getElem?_eq_getElem hi) (List.getElem?_eq_getElem (by omega))).trans (List.getElem?_eq_getElem (by omega)).symm
      rw [Array.toList_extract, List.extract_eq_take_drop]
      have e2 : cur.toList[i * k + j]? = (l.flatMap enc)[i * k + j]? := by
        rw [← h6, List.getElem?_take_of_lt]
        have : (i + 1) * k ≤ l.length * k := Nat.mul_le_mul_right k (by omega)
        rw [Nat.add_mul, Nat.one_mul] at this
        omega
      rw [List.getElem?_take_of_lt (by omega), List.getElem?_drop, e2, e1]
    · rw [List.getElem?_eq_none (by simp [List.extract_eq_take_drop]; omega), List.getElem?_eq_none (by simp; omega)]
theorem wpList_load_opP {ops : Array Oper} {rest : List Oper} {o : Oper} {a : Act} {w : World} {Q : Exit → Act → World → Prop} (hgd : o.guard = none) (x : Operand) (ho : o.op = .load 45 x) (g off : Nat) {cur : Array Value} (hb : Blk w g 45 cur) (hx : a.eval x = .pointer (some ⟨g, off, none⟩)) (kd am : Nat) (ch sg : ByteArray)
    (hp : cur.extract off (off + 27) = opP kd ch am sg) (hn : off + 27 ≤ cur.size) (h : wpList Tryz.prog ops Q rest (a.put o.dst (.agg (opP kd ch am sg))) w) : wpList Tryz.prog ops Q (o :: rest) a w := by
  obtain ⟨fs, hu⟩ : ∃ fs, Tryz.prog.underlying 45 = some (.struct fs) := ⟨_, Tryz.underlying45⟩
  exact wpList_load_blk hgd 45 x ho g off 27 hb (opP kd ch am sg) hx hp hu infoOp hn h
/-- a proof in memory -/
def pfC (am : Nat) (sig tok : ByteArray) (A : Option Addr) (n c : Nat) : Array Value := #[.int .u64 (am : Nat), .string sig, .string tok, .slice A n c]
theorem pfC_one (am : Nat) (sig tok : ByteArray) (A : Option Addr) (n c : Nat) : (pfC am sig tok A n c).all (·.oneCell') = true := by
  rw [Array.all_eq_true']
  intro v hv
  simp only [pfC, List.mem_toArray, List.mem_cons, List.not_mem_nil, or_false] at hv
  rcases hv with rfl | rfl | rfl | rfl <;> rfl
theorem pfC_over (am am' : Nat) (sig tok sig' tok' : ByteArray) (A A' : Option Addr) (n c n' c' : Nat) : over (pfC am sig tok A n c) 0 (pfC am' sig' tok' A' n' c').toList = pfC am' sig' tok' A' n' c' := (over_full (pfC am' sig' tok' A' n' c').toList (pfC am sig tok A n c) rfl).trans (Array.toArray_toList ..)
theorem pfC_set0 (am am' : Nat) (sig tok : ByteArray) (A : Option Addr) (n c : Nat) : (pfC am sig tok A n c).setIfInBounds 0 (.int .u64 (am' : Int)) = pfC am' sig tok A n c := by simp [pfC]
theorem pfC_set1 (am : Nat) (sig sig' tok : ByteArray) (A : Option Addr) (n c : Nat) : (pfC am sig tok A n c).setIfInBounds 1 (.string sig') = pfC am sig' tok A n c := by simp [pfC]
theorem pfC_set3 (am : Nat) (sig tok : ByteArray) (A A' : Option Addr) (n c n' c' : Nat) : (pfC am sig tok A n c).setIfInBounds 3 (.slice A' n' c') = pfC am sig tok A' n' c' := by simp [pfC]
/-- behind a change in one block of another type -/
theorem BSt.other {w w' : World} {cb kb ctr pb mb bb N g : Nat} {sd nm tx : ByteArray} {l : Lk} {k i am tk b next : Nat} {D : DU} {V : List (Nat × Nat)} {T : List ByteArray} {Wi : List Wn} {O : List Of} {v1 v2 v3 : Value} {t : TypeId}
    (h : BSt w cb kb ctr pb mb bb N sd nm tx l k i am tk b next D V T Wi O v1 v2 v3) (hc : Ch [g] w w') (hg : Kd w g t) (hN : N ≤ g) (t1 : t ≠ 143 ∧ t ≠ 149 ∧ t ≠ 271 ∧ t ≠ 278) (t2 : t ≠ 202 ∧ t ≠ 51) (t3 : t ≠ 45 ∧ t ≠ 9 ∧ t ≠ 97) :
    BSt w' cb kb ctr pb mb bb N sd nm tx l k i am tk b next D V T Wi O v1 v2 v3 := by
  have hS : ∀ P : TypeId → Prop, P t → ∀ q ∈ [g], (∃ t, Kd w q t ∧ P t) ∨ (∃ D, MpU w q D) := by
    intro P p1 q hq
    simp at hq
    subst hq
    exact .inl ⟨t, hg, p1⟩
  have hcl := h.cl
  exact ⟨⟨hcl.cin.chK h.pin hc (fun q hq => by simp at hq; subst hq; exact ⟨hN, t, hg, t1⟩), hcl.all, hcl.num, hcl.tkn, hcl.sz, hcl.bd, hcl.le⟩, h.pin.ch hc (hS (fun t => t ≠ 149 ∧ t ≠ 278) ⟨t1.2.1, t1.2.2.2⟩), h.bk.ch hc (hS (fun t => t ≠ 202 ∧ t ≠ 51) t2),
    own_chK h.r1 hc (hS (fun t => t ≠ 45) t3.1), own_chK h.r2 hc (hS (fun t => t ≠ 9) t3.2.1), own_chK h.r3 hc (hS (fun t => t ≠ 97) t3.2.2), h.ok⟩
/-- what is shown is worth at most what is bound -/
theorem shown_bd {w0 w w' : World} {e : Ending} {cb kb ctr pb mb bb N : Nat} {sd tx : ByteArray} {k i am tk b next pam pc : Nat} {D : DU} {V : List (Nat × Nat)} {T : List ByteArray} {Wi PL : List Wn} {O : List Of} {v1 v2 v3 : Value} {psg tok : ByteArray} {A : Option Addr} {l : Lk}
    (h : BSt w0 cb kb ctr pb mb bb N sd (nameB tx 1) tx l k i am tk b next D V T Wi O v1 v2 v3) (hlk : l.key = rootB sd 4 ∧ l.anchor = tokB sd 20 0 ∧ l.tok = 20 ∧ l.am < 18446744073709551616)
    (hv : (pam = 0 ∧ psg = ByteArray.empty) ∨ ∃ p ∈ V, pam = p.1 ∧ psg = signB sd 4 p.2 (vouchB (nameB tx 1) p.1)) (ht : tok ∈ T) (hP : ∀ x ∈ PL, x ∈ Wi) (hl : PL.length ≤ 3) (hw : WorR (lkT tx 1 l) ⟨pam, psg, tok, A, PL, pc⟩ w e w') :
    Below w.heap.size w w' ∧ ∃ (v f : Int), e = .returned (.tuple #[.int .u64 v, .int .i64 f]) ∧ ((f = 0 ∧ 0 ≤ v ∧ v ≤ b) ∨ f = 7) := by
  obtain ⟨A0, a1, a2⟩ := h.cl.all
  obtain ⟨l1, l2, l3, l4⟩ := hlk
  have hbd := h.cl.bd
  have htok := h.ok.t tok ht
  refine shown_le (seed := sd) (n := 20) (t := lkT tx 1 l) (D := D) (am := am) (tk := tk) (A := A0) (b := b) h.cl.cin.2.2.2.tidy h.cl.num l2 l3 h.cl.tkn a1 a2 (by omega) ?_ ?_ ?_ htok (fun x hx => ?_) hw
  · unfold rightB
    have e1 : (PL.all wmayB) = true := by
      rw [List.all_eq_true]
      intro x hx
      exact (h.ok.w x (hP x hx)).2.2.2.1
    have e2 : psg.size ≤ 400 := by
      rcases hv with ⟨_, rfl⟩ | ⟨p, hp, _, rfl⟩
      · decide
      · rw [signB_size sd (h.ok.v p hp).2.2]; omega
    have e3 : (decide (tok = ByteArray.empty) || decide (tok.size = 16)) = true := by
      rcases htok with rfl | ⟨j, _, rfl⟩
      · rfl
      · rw [tokB_size]; simp
    show (PL.all wmayB && decide (psg.size ≤ 400) && (decide (tok = ByteArray.empty) || decide (tok.size = 16)) && decide (PL.length ≤ 3)) = true
    rw [e1, e3, decide_eq_true e2, decide_eq_true hl]; rfl
  · unfold paidB
    show (if 0 < pam then verB l.key (vouchB (nameB tx 1) pam) psg else decide (psg = ByteArray.empty)) = true
    rcases hv with ⟨rfl, rfl⟩ | ⟨p, hp, rfl, rfl⟩
    · rfl
    · rw [if_pos (h.ok.v p hp).2.1, l1]
      exact ver_sign sd (by omega) (h.ok.v p hp).2.2 _
  · show pam ≤ am
    rcases hv with ⟨rfl, _⟩ | ⟨p, hp, rfl, _⟩
    · omega
    · exact (h.ok.v p hp).1
  · obtain ⟨q1, q2, _, _, q5⟩ := h.ok.w x (hP x hx)
    exact ⟨q1, by show wonE l.key x = 0; rw [l1]; exact q2, q5⟩
/-- behind a win that is appended to those that are shown -/
theorem win_step {W0 X1 W4 : World} {pg pam c gg cap : Nat} {psg tok : ByteArray} {A : Option Addr} {PL : List Wn} {x : Wn} (hC : Ch [pg] W0 X1) (hpf : Blk X1 pg 78 (pfC pam psg tok A PL.length c)) (how : X1.ownsRow W0.heap.size 97 10 (.slice A PL.length c) PL.length (PL.flatMap Wn.cl)) (hpgl : pg < W0.heap.size)
    (hown : W4.ownsRow W0.heap.size 97 10 (.slice (some ⟨gg, 0, none⟩) (PL.length + 1) cap) (PL.length + 1) (PL.flatMap Wn.cl ++ x.cl)) (hg : X1.grownBy W4 (Value.slice A PL.length c).ownBlock) :
    Blk W4 pg 78 (pfC pam psg tok A PL.length c) ∧ Ch [pg] W0 W4 ∧ Blk (W4.setCell ⟨pg, 3, none⟩ (.slice (some ⟨gg, 0, none⟩) (PL.length + 1) cap)) pg 78 (pfC pam psg tok (some ⟨gg, 0, none⟩) (PL ++ [x]).length cap) ∧
      (W4.setCell ⟨pg, 3, none⟩ (.slice (some ⟨gg, 0, none⟩) (PL.length + 1) cap)).ownsRow W0.heap.size 97 10 (.slice (some ⟨gg, 0, none⟩) (PL ++ [x]).length cap) (PL ++ [x]).length ((PL ++ [x]).flatMap Wn.cl) ∧ Ch [pg] W0 (W4.setCell ⟨pg, 3, none⟩ (.slice (some ⟨gg, 0, none⟩) (PL.length + 1) cap)) := by
  have hr := own_base how
  have hl : (PL ++ [x]).length = PL.length + 1 := by simp
  have hf : (PL ++ [x]).flatMap Wn.cl = PL.flatMap Wn.cl ++ x.cl := by simp
  have h1 : Blk W4 pg 78 (pfC pam psg tok A PL.length c) := hpf.grown hg (fun e => by have := hr pg e.symm; omega)
  have h2 : Ch [pg] W0 W4 := by
    refine Ch.mono (S := pg :: (Value.slice A PL.length c).ownBlock.toList) ((hC.mono (by simp)).trans ((grown_ch hg).mono (fun b hb => .inl (List.mem_cons_of_mem _ hb)))) (fun b hb => ?_)
    rcases List.mem_cons.1 hb with rfl | hb
    · exact .inl (by simp)
    · exact .inr (hr b (own_list.1 hb))
  refine ⟨h1, h2, ?_, ?_, h2.trans (Ch.set_ (b := pg) (by simp) _ 3 _)⟩
  · have q := h1.set_ 3 (.slice (some ⟨gg, 0, none⟩) (PL.length + 1) cap)
    rw [pfC_set3] at q
    rw [hl]; exact q
  · rw [hl, hf]
    refine Ch.owns (Ch.set_ (S := [pg]) (b := pg) (by simp) W4 3 _) hown (fun b hb => ?_)
    have := own_base hown b hb
    simp; omega
theorem mod_nat (a b : Nat) (h : 0 < b) : ∃ j : Nat, (a : Int) % (b : Int) = j ∧ j < b := ⟨a % b, rfl, Nat.mod_lt _ h⟩
end Go.Proofs.YtgnlakbmibkjgaaGreat
