/- Transactions that are alike but for where their lists lie. The chain, in plain words: what is pushed, made, popped. The chain, in plain words: what is popped, and pushed again. The chain, in plain words: what is made stands in the order that it was told in; how deep the last transaction is that is so. Blocks and chains in memory. law17's fixed calls: the states and their answers, in plain words. -/
import Derived.Test.YtjcinncphffgaaaGreatMiFixK
import Derived.Test.YtjcinncphffgaaaGreatMiK2
import Derived.Test.YtjcinncphffgaaaGreatMiN1
import Derived.Test.YtjcinncphffgaaaGreatMiN4
import Derived.Test.YtjcinncphffgaaaGreatMiSmC
set_option linter.unusedVariables false
set_option linter.unusedSimpArgs false
namespace Go.Proofs.YtjcinncphffgaaaGreat
section
open Go.RowKit Go.Maps
structure Txn.al (t u : Txn) : Prop where
 ins : t.ins = u.ins
 outs : t.outs = u.outs
 am : t.p.am = u.p.am
 sig : t.p.sig = u.p.sig
 tok : t.p.tok = u.p.tok
 l : t.p.l = u.p.l
theorem Txn.al.symm {t u : Txn} (h : t.al u) : u.al t := ⟨h.ins.symm, h.outs.symm, h.am.symm, h.sig.symm, h.tok.symm, h.l.symm⟩
section
variable {t u : Txn} (h : t.al u)
theorem al_cases {P : Txn → Txn → Prop} (hp : ∀ (A B PA A' B' PA' : Option Addr) (c d pc c' d' pc' : Nat) (ins : List Inp) (outs : List Ou) (am : Nat) (sig tok : ByteArray) (l : List Wn), P ⟨A, ins, c, B, outs, d, ⟨am, sig, tok, PA, l, pc⟩⟩ ⟨A', ins, c', B', outs, d', ⟨am, sig, tok, PA', l, pc'⟩⟩) (h : t.al u) : P t u := by
 obtain ⟨A, ins, c, B, outs, d, ⟨am, sig, tok, PA, l, pc⟩⟩ := t
 obtain ⟨A', ins', c', B', outs', d', ⟨am', sig', tok', PA', l', pc'⟩⟩ := u
 obtain ⟨rfl, rfl, rfl, rfl, rfl, rfl⟩ := h
 exact hp ..
include h
theorem al_right : rightT t = rightT u := al_cases (P := fun t u => rightT t = rightT u) (fun _ _ _ _ _ _ _ _ _ _ _ _ _ _ _ _ _ _ => rfl) h
theorem al_core : coreX t = coreX u := by
 unfold coreX
 rw [al_right h]
 have e : coreT t = coreT u := al_cases (P := fun t u => coreT t = coreT u) (fun _ _ _ _ _ _ _ _ _ _ _ _ _ _ _ _ _ _ => rfl) h
 rw [e]
theorem al_none : noneP t.p = noneP u.p := al_cases (P := fun t u => noneP t.p = noneP u.p) (fun _ _ _ _ _ _ _ _ _ _ _ _ _ _ _ _ _ _ => rfl) h
theorem al_path : path0 t = path0 u := by unfold path0; rw [h.ins]
theorem al_one : oneP t = oneP u := by unfold oneP; rw [h.ins, al_path h]
theorem al_found (T : List En) : foundE T t = foundE T u := by unfold foundE; rw [al_right h, al_one h, al_path h, al_none h, h.ins]
theorem al_spent (T : List En) : spentT T t = spentT T u := by unfold spentT; rw [h.ins]
theorem al_may (L : List En) (core : ByteArray) (x : Int) : mayL L t core x = mayL L u core x := by unfold mayL; rw [h.ins]
theorem al_wor (m : Tm) : worF m t.p = worF m u.p := al_cases (P := fun t u => worF m t.p = worF m u.p) (fun _ _ _ _ _ _ _ _ _ _ _ _ _ _ _ _ _ _ => rfl) h
theorem al_claims (x : En) (wh : Nat) : claimsE x t wh = claimsE x u wh := by unfold claimsE; rw [al_path h, al_wor h, h.outs]
theorem al_check (T : List En) (x : Int) : checkE T t x = checkE T u x := by unfold checkE; rw [al_found h, al_spent h, al_may h, al_core h, al_claims h, h.outs]
theorem al_ok (k : TxOk t) : TxOk u := ⟨by rw [← h.ins]; exact k.ins, by rw [← h.outs]; exact k.outs, ⟨by rw [← h.l]; exact k.pf.len, by rw [← h.l]; exact k.pf.fit, by rw [← h.sig]; exact k.pf.sig, by rw [← h.am]; exact k.pf.am⟩, by rw [← h.outs]; exact k.out⟩
end
end
section
open Go.RowKit Go.Maps
end
section
open Go.RowKit Go.Maps
end
section
open Go.RowKit Go.Maps
end
section
open Go.RowKit Go.Maps
/-- a block, its list's place in it -/
structure Bm where
 h : Int
 prev : ByteArray
 A : Option Addr
 txs : List Txn
 c : Nat
/-- a list survives a write into a block that it can't lie in -/
theorem Sl.chH {α : Type} {w w' : World} {B k cb : Nat} {t : TypeId} {cs : Array Value} {enc : α → List Value} {A : Option Addr} {l : List α} (h : Sl w B k enc A l) (hb : Blk w cb t cs) (hx : ∀ (x : α) (o : Nat), ∃ (j : Nat) (u : Value), (enc x)[j]? = some u ∧ cs[o + j]? ≠ some u) (hc : Ch [cb] w w') (hB : B ≤ w.heap.size) : Sl w' B k enc A l := fun hn => by
 obtain ⟨b, off, e, hlt, hcell⟩ := h hn
 have hne : b ≠ cb := by
  rintro rfl
  obtain ⟨x, r, rfl⟩ := List.exists_cons_of_ne_nil hn
  obtain ⟨j, u, h1, h2⟩ := hx x (off + 0 * k)
  have h3 := hcell 0 x rfl j u h1
  rw [hb.cell] at h3
  exact h2 h3
 have hbk : w'.heap[b]? = w.heap[b]? := hc.block b (by omega) (by simpa using hne)
 refine ⟨b, off, e, hlt, fun i x hi j u hu => ?_⟩
 rw [← hcell i x hi j u hu]
 simp only [World.cell?, hbk]
section
variable (f : ByteArray) (A : Option Addr) (n c sb : Nat)
end
section
variable {w w' : World} {cb : Nat} {f : ByteArray} {A : Option Addr} {n c sb : Nat}
end
end
section
open Go.RowKit Go.Maps
def e0C : En := ⟨txC17, 0, lkoL rC rC 100 9⟩
def e1C : En := ⟨txC17, 1, lkoM rC rC 20 9 chC⟩
def sgC : ByteArray := signB sdC 1 0 (vouchB chC 110)
def tkC : ByteArray := tokB wTok 5 2
def s0C : St := newS e0C
def t0C : St := s0C.addtop e1C
def a0C : St := t0C.vouch 110 sgC
/-! the lists of a state do not matter -/
section
variable (s : St) (A : Option Addr) (c : Nat) (B : Option Addr) (d : Nat) (A' : Option Addr) (c' : Nat) (B' : Option Addr) (d' : Nat)
theorem St.fit.lists_ {s : St} (h : s.fit) (A : Option Addr) (c : Nat) (B : Option Addr) (d : Nat) : (s.lists A c B d).fit := ⟨h.lam, h.lunit, h.am, h.tokens, h.faces, h.nominal, h.tams, h.tops, h.wins, h.tx⟩
theorem worth_ls : worthV (s.lists A c B d) = worthV s := rfl
theorem whole_ls : wholeV (s.lists A c B d) = wholeV s := rfl
theorem vouE_ls (am : Nat) (sig : ByteArray) (r : Nat) : vouE (s.lists A c B d) am sig r = vouE s am sig r := rfl
end
theorem rm_b : xroomB (a0C.token tkC 2) 0 = true := by decide +kernel
theorem tok1 : tokE a0C tkC 5 0 = 0 := by
 unfold tokE
 rw [show a0C.lock.o.anchor = tokB wTok 5 0 from rfl, show tkC = tokB wTok 5 2 from rfl, cntE_tok, cntN_tok, if_neg (by decide), if_neg (by decide), if_neg (by decide), if_pos (show xroomB (a0C.token (tokB wTok 5 2) 2) 0 = true from rm_b)]
end
end Go.Proofs.YtjcinncphffgaaaGreat
