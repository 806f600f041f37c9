/- Transactions that are alike but for where their lists lie. The chain, in plain words: what is pushed, made, popped. The chain, in plain words: what is popped, and pushed again. The chain, in plain words: what is made stands in the order that it was told in; how deep the last transaction is that is so. -/
import Derived.Test.YtjcinncphffgaaaGreatMjN5
set_option linter.unusedVariables false
set_option linter.unusedSimpArgs false
namespace Go.Proofs.YtjcinncphffgaaaGreat
open Go.RowKit Go.Maps
structure Txn.al (t u : Txn) : Prop where
  ins : t.ins = u.ins
  outs : t.outs = u.outs
  am : t.p.am = u.p.am
  sig : t.p.sig = u.p.sig
  tok : t.p.tok = u.p.tok
  l : t.p.l = u.p.l
theorem Txn.al.refl (t : Txn) : t.al t := ⟨rfl, rfl, rfl, rfl, rfl, rfl⟩
theorem Txn.al.symm {t u : Txn} (h : t.al u) : u.al t := ⟨h.ins.symm, h.outs.symm, h.am.symm, h.sig.symm, h.tok.symm, h.l.symm⟩
section
variable {t u : Txn} (h : t.al u)
theorem al_cases {P : Txn → Txn → Prop} (hp : ∀ (A B PA A' B' PA' : Option Addr) (c d pc c' d' pc' : Nat) (ins : List Inp) (outs : List Ou) (am : Nat) (sig tok : ByteArray) (l : List Wn), P ⟨A, ins, c, B, outs, d, ⟨am, sig, tok, PA, l, pc⟩⟩ ⟨A', ins, c', B', outs, d', ⟨am, sig, tok, PA', l, pc'⟩⟩) (h : t.al u) : P t u := by
  obtain ⟨A, ins, c, B, outs, d, ⟨am, sig, tok, PA, l, pc⟩⟩ := t
  obtain ⟨A', ins', c', B', outs', d', ⟨am', sig', tok', PA', l', pc'⟩⟩ := u
  obtain ⟨rfl, rfl, rfl, rfl, rfl, rfl⟩ := h
  exact hp ..
include h
theorem al_right : rightT t = rightT u := al_cases (P := fun t u => rightT t = rightT u) (fun _ _ _ _ _ _ _ _ _ _ _ _ _ _ _ _ _ _ => rfl) h
theorem al_core : coreX t = coreX u := by
  unfold coreX
  rw [al_right h]
  have e : coreT t = coreT u := al_cases (P := fun t u => coreT t = coreT u) (fun _ _ _ _ _ _ _ _ _ _ _ _ _ _ _ _ _ _ => rfl) h
  rw [e]
theorem al_id : idT t = idT u := by unfold idT; rw [al_core h]
theorem al_none : noneP t.p = noneP u.p := al_cases (P := fun t u => noneP t.p = noneP u.p) (fun _ _ _ _ _ _ _ _ _ _ _ _ _ _ _ _ _ _ => rfl) h
theorem al_path : path0 t = path0 u := by unfold path0; rw [h.ins]
theorem al_one : oneP t = oneP u := by unfold oneP; rw [h.ins, al_path h]
theorem al_found (T : List En) : foundE T t = foundE T u := by unfold foundE; rw [al_right h, al_one h, al_path h, al_none h, h.ins]
theorem al_spent (T : List En) : spentT T t = spentT T u := by unfold spentT; rw [h.ins]
theorem al_may (L : List En) (core : ByteArray) (x : Int) : mayL L t core x = mayL L u core x := by unfold mayL; rw [h.ins]
theorem al_wor (m : Tm) : worF m t.p = worF m u.p := al_cases (P := fun t u => worF m t.p = worF m u.p) (fun _ _ _ _ _ _ _ _ _ _ _ _ _ _ _ _ _ _ => rfl) h
theorem al_claims (x : En) (wh : Nat) : claimsE x t wh = claimsE x u wh := by unfold claimsE; rw [al_path h, al_wor h, h.outs]
theorem al_check (T : List En) (x : Int) : checkE T t x = checkE T u x := by unfold checkE; rw [al_found h, al_spent h, al_may h, al_core h, al_claims h, h.outs]
theorem al_apply (T : List En) : applyT T t = applyT T u := by unfold applyT; rw [al_id h, h.ins, h.outs]
theorem al_ok (k : TxOk t) : TxOk u := ⟨by rw [← h.ins]; exact k.ins, by rw [← h.outs]; exact k.outs, ⟨by rw [← h.l]; exact k.pf.len, by rw [← h.l]; exact k.pf.fit, by rw [← h.sig]; exact k.pf.sig, by rw [← h.am]; exact k.pf.am⟩, by rw [← h.outs]; exact k.out⟩
end
end Go.Proofs.YtjcinncphffgaaaGreat
namespace Go.Proofs.YtjcinncphffgaaaGreat
open Go.RowKit Go.Maps
/-- a block -/
structure Bk where
  h : Int
  prev : ByteArray
  txs : List Txn
inductive al2 : List Txn → List Txn → Prop
  | nil : al2 [] []
  | cons {x y : Txn} {r s : List Txn} : x.al y → al2 r s → al2 (x :: r) (y :: s)
theorem al2.refl : ∀ l, al2 l l
  | [] => .nil
  | x :: r => .cons (Txn.al.refl x) (al2.refl r)
theorem al2.symm {l m : List Txn} (h : al2 l m) : al2 m l := by
  induction h with
  | nil => exact .nil
  | cons h1 _ ih => exact .cons h1.symm ih
theorem al2.len {l m : List Txn} (h : al2 l m) : l.length = m.length := by
  induction h with
  | nil => rfl
  | cons _ _ ih => rw [List.length_cons, List.length_cons, ih]
theorem al2.snoc {l m : List Txn} {x y : Txn} (h : al2 l m) (k : x.al y) : al2 (l ++ [x]) (m ++ [y]) := by
  induction h with
  | nil => exact .cons k .nil
  | cons h1 _ ih => exact .cons h1 ih
theorem al2.get {l m : List Txn} (h : al2 l m) : ∀ (i : Nat) (x y : Txn), l[i]? = some x → m[i]? = some y → x.al y := by
  induction h with
  | nil => intro i x y h1; simp at h1
  | cons k _ ih =>
    intro i x y h1 h2
    cases i with
    | zero =>
      injection h1 with h1
      injection h2 with h2
      subst h1 h2
      exact k
    | succ i => exact ih i x y (by simpa using h1) (by simpa using h2)
structure Bk.al (a b : Bk) : Prop where
  h : a.h = b.h
  prev : a.prev = b.prev
  txs : al2 a.txs b.txs
theorem Bk.al.refl (a : Bk) : a.al a := ⟨rfl, rfl, al2.refl _⟩
theorem Bk.al.symm {a b : Bk} (h : a.al b) : b.al a := ⟨h.h.symm, h.prev.symm, h.txs.symm⟩
theorem al2_all {l m : List Txn} (h : al2 l m) : l.all rightT = m.all rightT := by
  induction h with
  | nil => rfl
  | cons k _ ih => rw [List.all_cons, List.all_cons, al_right k, ih]
def rightK (b : Bk) : Bool := decide (1 ≤ b.h) && decide (b.h ≤ 4294967295) && decide (b.prev.size = 16) && decide (b.txs.length ≤ 8) && b.txs.all rightT
theorem rightK_al {a b : Bk} (h : a.al b) : rightK a = rightK b := by unfold rightK; rw [h.h, h.prev, h.txs.len, al2_all h.txs]
structure RightK (b : Bk) : Prop where
  h : 1 ≤ b.h ∧ b.h ≤ 4294967295
  prev : b.prev.size = 16
  len : b.txs.length ≤ 8
  txs : ∀ t ∈ b.txs, rightT t = true
theorem right_k {b : Bk} (h : rightK b = true) : RightK b := by
  simp only [rightK, Bool.and_eq_true, decide_eq_true_eq, List.all_eq_true] at h
  obtain ⟨⟨⟨⟨h1, h2⟩, h3⟩, h4⟩, h5⟩ := h
  exact ⟨⟨h1, h2⟩, h3, h4, h5⟩
def wBlock : ByteArray := ⟨#[98, 108, 111, 99, 107]⟩
/-- the names of transactions, one behind the other -/
def joinT (l : List Txn) : ByteArray := l.foldl (fun s t => s ++ idT t) ByteArray.empty
theorem fold_al {l m : List Txn} (h : al2 l m) : ∀ s : ByteArray, l.foldl (fun s t => s ++ idT t) s = m.foldl (fun s t => s ++ idT t) s := by
  induction h with
  | nil => exact fun _ => rfl
  | cons k _ ih => intro s; rw [List.foldl_cons, List.foldl_cons, al_id k]; exact ih _
def idK (b : Bk) : ByteArray := if rightK b = true then tagB wBlock [putB b.h.toNat, b.prev, joinT b.txs] else ByteArray.empty
theorem idK_al {a b : Bk} (h : a.al b) : idK a = idK b := by unfold idK joinT; rw [rightK_al h, h.h, h.prev, fold_al h.txs]
theorem idK_size {b : Bk} (h : rightK b = true) : (idK b).size = 16 := by unfold idK; rw [if_pos h]; exact tagB_size _ _
/-- transactions applied, one by one: what is wrong with the first one that can't be; the outputs behind all -/
noncomputable def runT : List Txn → Int → List En → Int × List En
  | [], _, T => (0, T)
  | t :: r, h, T => if checkE T t h = 0 then runT r h (applyT T t) else (checkE T t h, T)
theorem runT_al {l m : List Txn} (k : al2 l m) : ∀ (h : Int) (T : List En), runT l h T = runT m h T := by
  induction k with
  | nil => exact fun _ _ => rfl
  | cons k1 _ ih => intro h T; unfold runT; rw [al_check k1, al_apply k1, ih]
theorem runT_snoc : ∀ (l : List Txn) (t : Txn) (h : Int) (T : List En), (runT l h T).1 = 0 → runT (l ++ [t]) h T = if checkE (runT l h T).2 t h = 0 then (0, applyT (runT l h T).2 t) else (checkE (runT l h T).2 t h, (runT l h T).2)
  | [], t, h, T, _ => rfl
  | x :: r, t, h, T, k => by
    by_cases hx : checkE T x h = 0
    · have e : runT (x :: r) h T = runT r h (applyT T x) := by rw [runT, if_pos hx]
      rw [e] at k ⊢
      rw [List.cons_append, runT, if_pos hx]
      exact runT_snoc r t h _ k
    · rw [runT, if_neg hx] at k; exact absurd k hx
/-- the state of a chain: the first name; its blocks, each with the outputs ahead of it; the outputs -/
structure Cn where
  first : ByteArray
  ls : List (Bk × List En)
  T : List En
def tipC (s : Cn) : ByteArray := match s.ls.getLast? with | none => s.first | some x => idK x.1
noncomputable def pushC (s : Cn) (b : Bk) : Int := if rightK b = false then 4 else if b.h ≠ (s.ls.length : Int) + 1 ∨ b.prev ≠ tipC s then 13 else (runT b.txs b.h s.T).1
noncomputable def pushS (s : Cn) (b : Bk) : Cn := ⟨s.first, s.ls ++ [(b, s.T)], (runT b.txs b.h s.T).2⟩
theorem tip_push (s : Cn) (b : Bk) : tipC (pushS s b) = idK b := by unfold tipC pushS; simp
theorem push_len (s : Cn) (b : Bk) : (pushS s b).ls.length = s.ls.length + 1 := by unfold pushS; simp
/-- what comes about by pushing -/
inductive Good (T0 : List En) : Cn → Prop
  | new (f : ByteArray) : f.size = 16 → Good T0 ⟨f, [], T0⟩
  | push (s : Cn) (b : Bk) : Good T0 s → pushC s b = 0 → (∀ t ∈ b.txs, TxOk t) → Good T0 (pushS s b)
theorem push_zero {s : Cn} {b : Bk} (h : pushC s b = 0) : rightK b = true ∧ b.h = (s.ls.length : Int) + 1 ∧ b.prev = tipC s ∧ (runT b.txs b.h s.T).1 = 0 := by
  unfold pushC at h
  by_cases h1 : rightK b = false
  · rw [if_pos h1] at h; exact absurd h (by decide)
  rw [if_neg h1] at h
  by_cases h2 : b.h ≠ (s.ls.length : Int) + 1 ∨ b.prev ≠ tipC s
  · rw [if_pos h2] at h; exact absurd h (by decide)
  rw [if_neg h2] at h
  exact ⟨by simpa using h1, by omega, Decidable.byContradiction fun k => h2 (.inr k), h⟩
theorem Good.tip {T0 : List En} {s : Cn} (h : Good T0 s) : (tipC s).size = 16 := by
  cases h with
  | new f hf => exact hf
  | push s b hs hp ht => rw [tip_push]; exact idK_size (push_zero hp).1
/-- outputs that may be, in order -/
def TS (T : List En) : Prop := TOk T ∧ SrtE T
theorem run_ts : ∀ (l : List Txn) (h : Int) (T : List En), TS T → (∀ t ∈ l, TxOk t) → T.length + 4 * l.length ≤ 900 → (runT l h T).1 = 0 → TS (runT l h T).2 ∧ (runT l h T).2.length ≤ T.length + 4 * l.length
  | [], _, T, hT, _, _, _ => ⟨hT, by simp [runT]⟩
  | t :: r, h, T, hT, ht, hl, k => by
    by_cases hx : checkE T t h = 0
    · have e : runT (t :: r) h T = runT r h (applyT T t) := by rw [runT, if_pos hx]
      rw [e] at k ⊢
      simp only [List.length_cons] at hl
      have h1 := apply_len T t (found_t (check_parts hx).1).rt
      have h2 := run_ts r h (applyT T t) ⟨tok_apply hT.1 hT.2 (ht t (by simp)) hx (by omega), apply_srt t hT.2⟩ (fun x hx => ht x (by simp [hx])) (by omega) k
      exact ⟨h2.1, by simp only [List.length_cons]; omega⟩
    · rw [runT, if_neg hx] at k; exact absurd k hx
theorem Good.ts {T0 : List En} (h0 : TS T0) (h8 : T0.length ≤ 8) {s : Cn} (h : Good T0 s) : s.ls.length ≤ 20 → TS s.T ∧ s.T.length ≤ 8 + 32 * s.ls.length := by
  induction h with
  | new f hf => exact fun _ => ⟨h0, by simp; omega⟩
  | push s b hs hp ht ih =>
    intro hl
    rw [push_len] at hl
    obtain ⟨i1, i2⟩ := ih (by omega)
    obtain ⟨p1, _, _, p4⟩ := push_zero hp
    have hb := (right_k p1).len
    have h1 := run_ts b.txs b.h s.T i1 ht (by omega) p4
    rw [push_len]
    exact ⟨h1.1, by show (runT b.txs b.h s.T).2.length ≤ _; omega⟩
/-- what is made of transactions: those that can be applied, one by one -/
noncomputable def makeL : List Txn → Int → List Txn → List En → List Txn × List En
  | [], _, acc, T => (acc, T)
  | t :: r, h, acc, T => if acc.length < 8 ∧ checkE T t h = 0 then makeL r h (acc ++ [t]) (applyT T t) else makeL r h acc T
theorem make_run : ∀ (l : List Txn) (h : Int) (acc : List Txn) (T0 T : List En), runT acc h T0 = (0, T) → runT (makeL l h acc T).1 h T0 = (0, (makeL l h acc T).2)
  | [], _, _, _, _, k => k
  | t :: r, h, acc, T0, T, k => by
    unfold makeL
    by_cases hx : acc.length < 8 ∧ checkE T t h = 0
    · rw [if_pos hx]
      refine make_run r h _ T0 _ ?_
      rw [runT_snoc acc t h T0 (by rw [k]), k, if_pos hx.2]
    · rw [if_neg hx]; exact make_run r h acc T0 T k
theorem make_len : ∀ (l : List Txn) (h : Int) (acc : List Txn) (T : List En), acc.length ≤ 8 → (makeL l h acc T).1.length ≤ 8
  | [], _, _, _, k => k
  | t :: r, h, acc, T, k => by
    unfold makeL
    by_cases hx : acc.length < 8 ∧ checkE T t h = 0
    · rw [if_pos hx]; exact make_len r h _ _ (by simp; omega)
    · rw [if_neg hx]; exact make_len r h acc T k
theorem make_right : ∀ (l : List Txn) (h : Int) (acc : List Txn) (T : List En), (∀ t ∈ acc, rightT t = true) → ∀ t ∈ (makeL l h acc T).1, rightT t = true
  | [], _, _, _, k => k
  | x :: r, h, acc, T, k => by
    unfold makeL
    by_cases hx : acc.length < 8 ∧ checkE T x h = 0
    · rw [if_pos hx]
      refine make_right r h _ _ (fun t ht => ?_)
      rcases List.mem_append.1 ht with ht | ht
      · exact k t ht
      · rw [List.mem_singleton.1 ht]; exact (found_t (check_parts hx.2).1).rt
    · rw [if_neg hx]; exact make_right r h acc T k
/-- what is made can be pushed -/
theorem make_push {T0 : List En} {s : Cn} (hs : Good T0 s) (hl : s.ls.length ≤ 1000) (l : List Txn) (b : Bk) (hb : b.h = (s.ls.length : Int) + 1) (hp : b.prev = tipC s) (ht : al2 b.txs (makeL l b.h [] s.T).1) : pushC s b = 0 := by
  have h1 := make_run l b.h [] s.T s.T rfl
  have h2 : rightK b = true := by
    unfold rightK
    rw [al2_all ht, ht.len]
    have h3 := make_len l b.h [] s.T (by simp)
    have h4 := make_right l b.h [] s.T (fun _ h => by cases h)
    simp only [Bool.and_eq_true, decide_eq_true_eq, List.all_eq_true]
    exact ⟨⟨⟨⟨by omega, by omega⟩, by rw [hp]; exact hs.tip⟩, h3⟩, h4⟩
  unfold pushC
  rw [if_neg (by rw [h2]; decide), if_neg (by rw [hb, hp]; simp), runT_al ht, h1]
end Go.Proofs.YtjcinncphffgaaaGreat
namespace Go.Proofs.YtjcinncphffgaaaGreat
open Go.RowKit Go.Maps
structure Cn.al (s u : Cn) : Prop where
  first : s.first = u.first
  T : s.T = u.T
  len : s.ls.length = u.ls.length
  at_ : ∀ (i : Nat) (a b : Bk × List En), s.ls[i]? = some a → u.ls[i]? = some b → a.1.al b.1 ∧ a.2 = b.2
theorem Cn.al.refl (s : Cn) : s.al s := ⟨rfl, rfl, rfl, fun i a b h1 h2 => by
  have e : a = b := Option.some.inj (h1.symm.trans h2)
  subst e
  exact ⟨Bk.al.refl _, rfl⟩⟩
theorem tip_al {s u : Cn} (h : s.al u) : tipC s = tipC u := by
  unfold tipC
  rw [List.getLast?_eq_getElem?, List.getLast?_eq_getElem?, h.len]
  cases hq : u.ls[u.ls.length - 1]? with
  | none =>
    have h1 : u.ls.length ≤ u.ls.length - 1 := List.getElem?_eq_none_iff.1 hq
    rw [List.getElem?_eq_none (by have := h.len; omega)]
    exact h.first
  | some b =>
    have h1 : u.ls.length - 1 < u.ls.length := (List.getElem?_eq_some_iff.1 hq).1
    have h2 : s.ls[u.ls.length - 1]? = some (s.ls[u.ls.length - 1]'(by rw [h.len]; exact h1)) := List.getElem?_eq_getElem _
    rw [h2]
    exact idK_al (h.at_ _ _ _ h2 hq).1
theorem push_al {s u : Cn} {a b : Bk} (h : s.al u) (k : a.al b) : pushC s a = pushC u b ∧ (pushS s a).al (pushS u b) := by
  have hr : runT a.txs a.h s.T = runT b.txs b.h u.T := by rw [k.h, h.T]; exact runT_al k.txs _ _
  refine ⟨?_, h.first, by show (runT a.txs a.h s.T).2 = _; rw [hr]; rfl, by rw [push_len, push_len, h.len], fun i x y h1 h2 => ?_⟩
  · unfold pushC
    rw [rightK_al k, tip_al h, k.h, k.prev, h.len, ← k.h, hr, k.h]
  · show x.1.al y.1 ∧ x.2 = y.2
    by_cases hi : i < s.ls.length
    · have e1 : (pushS s a).ls[i]? = s.ls[i]? := List.getElem?_append_left hi
      have e2 : (pushS u b).ls[i]? = u.ls[i]? := List.getElem?_append_left (by rw [← h.len]; exact hi)
      rw [e1] at h1
      rw [e2] at h2
      exact h.at_ i x y h1 h2
    · have e1 : (pushS s a).ls[i]? = [(a, s.T)][i - s.ls.length]? := List.getElem?_append_right (by omega)
      have e2 : (pushS u b).ls[i]? = [(b, u.T)][i - u.ls.length]? := List.getElem?_append_right (by rw [← h.len]; omega)
      rw [e1] at h1
      rw [e2, ← h.len] at h2
      cases hz : i - s.ls.length with
      | zero =>
        rw [hz] at h1 h2
        injection h1 with h1
        injection h2 with h2
        subst h1 h2
        exact ⟨k, h.T⟩
      | succ j => rw [hz] at h1; simp at h1
end Go.Proofs.YtjcinncphffgaaaGreat
namespace Go.Proofs.YtjcinncphffgaaaGreat
open Go.RowKit Go.Maps
end Go.Proofs.YtjcinncphffgaaaGreat
