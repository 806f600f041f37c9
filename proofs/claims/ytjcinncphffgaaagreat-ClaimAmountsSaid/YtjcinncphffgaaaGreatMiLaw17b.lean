/- law17: what any calls keep. -/
import Derived.Test.YtjcinncphffgaaaGreatMiN1
import Derived.Test.YtjcinncphffgaaaGreatMiN4
import Derived.Test.YtjcinncphffgaaaGreatMiSmC
set_option linter.unusedVariables false
set_option linter.unusedSimpArgs false
namespace Go.Proofs.YtjcinncphffgaaaGreat
section
open Go.RowKit Go.Maps
theorem cutT_le (s : ByteArray) (n : Nat) : (cutT s n).size ≤ n := by rw [cutT_size]; exact (cutN_le s n).2
theorem cutOp_fit {o : Op17} (h : o.fz) : (cutOp o).fit := by
 obtain ⟨h1, ⟨x1, x2, x3, x4, x5, x6⟩, h3, h4⟩ := h
 refine ⟨h1, ?_, ⟨x1, x2, x3, x4, x5, x6, ?_⟩, h3, h4⟩
 ·exact Nat.le_trans (cutT_le o.s 450) (by decide)
 ·exact Nat.le_trans (cutT_le o.x.salt 40) (by decide)
/-- a channel's state behind any calls -/
structure Inv (s : St) (mt : Nat) : Prop where
 good : s.good mt
 tops : s.tops.length ≤ 3
 wins : s.wins.length ≤ 3
theorem Inv.lists {s : St} {mt : Nat} (h : Inv s mt) (A : Option Addr) (c : Nat) (B : Option Addr) (d : Nat) : Inv (s.lists A c B d) mt :=
 ⟨⟨⟨h.good.fit.lam, h.good.fit.lunit, h.good.fit.am, h.good.fit.tokens, h.good.fit.faces, h.good.fit.nominal, h.good.fit.tams, h.good.fit.tops, h.good.fit.wins, h.good.fit.tx⟩, h.good.an, h.good.tok, h.good.mt, h.good.tops, h.good.wins⟩, h.tops, h.wins⟩
/-- an entry whose numbers fit -/
def En.fz (e : En) : Prop := e.o.am < 18446744073709551616 ∧ e.o.unit < 18446744073709551616
theorem begin_tx (e : En) : (beginX e).tx = cutT e.tx 40 := by
 unfold beginX
 split <;> rfl
theorem begin_am (e : En) : (beginX e).o.am = e.o.am := by
 unfold beginX
 split <;> rfl
theorem begin_unit (e : En) : (beginX e).o.unit = e.o.unit := by
 unfold beginX
 split <;> rfl
theorem new_inv {e : En} (he : e.fz) (h : newB (beginX e) (fitsB (beginX e).o) = true) : ∃ mt : Nat, Inv (newS (beginX e)) mt := by
 have ha := begin_am e
 have hu := begin_unit e
 have ht := begin_tx e
 generalize beginX e = x at h ha hu ht
 simp only [newB, Bool.and_eq_true, decide_eq_true_eq] at h
 obtain ⟨hk, hf⟩ := h
 unfold fitsB at hf
 rw [if_pos hk] at hf
 unfold fits2B at hf
 simp only [Bool.and_eq_true, decide_eq_true_eq] at hf
 obtain ⟨⟨⟨⟨⟨⟨⟨⟨_, _⟩, h3⟩, h4⟩, h5⟩, _⟩, _⟩, _⟩, _⟩ := hf
 refine ⟨x.o.tok.toNat, ⟨⟨?_, ?_, by show (0 : Nat) < _; decide, Nat.zero_le _, by show (0 : Nat) < _; decide, by show (0 : Nat) < _; decide, (by intro e he; cases he), Nat.zero_le _, Nat.zero_le _, ?_⟩, h3, ?_, by omega, Nat.zero_le _, Nat.zero_le _⟩, Nat.zero_le _, Nat.zero_le _⟩
 ·show x.o.am < _; rw [ha]; exact he.1
 ·show x.o.unit < _; rw [hu]; exact he.2
 ·show x.tx.size ≤ _; rw [ht]; exact Nat.le_trans (cutT_le _ 40) (by decide)
 ·show x.o.tok = _; omega
theorem cntGo_le (a t : ByteArray) : ∀ f i, (cntGo a t f i).1 ≤ i + f
 | 0, i => Nat.le_refl _
 | f + 1, i => by
  rw [cntGo]
  split
  ·exact Nat.le_add_right _ _
  ·have := cntGo_le a t f (i + 1); omega
theorem cntN_le' (a t : ByteArray) (m : Nat) : cntN a t m ≤ m := by
 unfold cntN
 have := cntGo_le a t m 0
 split
 ·split <;> omega
 ·omega
theorem mk_lock (l : En) (A : Option Addr) (t : List En) (c a : Nat) (sg tk : ByteArray) (B : Option Addr) (w : List Wn) (d tk' f n : Nat) (cl : Bool) : (St.mk l A t c a sg tk B w d tk' f n cl).lock = l := rfl
theorem mk_tops (l : En) (A : Option Addr) (t : List En) (c a : Nat) (sg tk : ByteArray) (B : Option Addr) (w : List Wn) (d tk' f n : Nat) (cl : Bool) : (St.mk l A t c a sg tk B w d tk' f n cl).tops = t := rfl
theorem mk_wins (l : En) (A : Option Addr) (t : List En) (c a : Nat) (sg tk : ByteArray) (B : Option Addr) (w : List Wn) (d tk' f n : Nat) (cl : Bool) : (St.mk l A t c a sg tk B w d tk' f n cl).wins = w := rfl
theorem nom_eq (s : St) (v : Nat) : s.nom v = ⟨s.lock, s.A, s.tops, s.c, s.am, s.sig, s.tok, s.B, s.wins, s.d, s.tokens, s.faces, (capA s.nominal v).toNat, s.closed⟩ := rfl
theorem addw_eq (s : St) (x : Wn) : s.addw x = ⟨s.lock, s.A, s.tops, s.c, s.am, s.sig, s.tok, s.B, s.wins ++ [x], s.d, s.tokens, (capA s.faces x.t.face).toNat, s.nominal, s.closed⟩ := rfl
theorem tickS_pos (s : St) {x : Wn} (h : ticB x = true) : tickS s x = (s.addw x).nom (ticV x) := if_pos h
theorem tickS_neg (s : St) {x : Wn} (h : ¬ ticB x = true) : tickS s x = s.nom (ticV x) := if_neg h
theorem nom_lock (s : St) (v : Nat) : (s.nom v).lock = s.lock := by rw [nom_eq, mk_lock]
theorem addw_lock (s : St) (x : Wn) : (s.addw x).lock = s.lock := by rw [addw_eq, mk_lock]
theorem tick_lock (s : St) (x : Wn) : (tickS s x).lock = s.lock := by
 by_cases hb : ticB x = true
 ·rw [tickS_pos s hb, nom_lock, addw_lock]
 ·rw [tickS_neg s hb, nom_lock]
theorem nom_tops (s : St) (v : Nat) : (s.nom v).tops = s.tops := by rw [nom_eq, mk_tops]
theorem addw_tops (s : St) (x : Wn) : (s.addw x).tops = s.tops := by rw [addw_eq, mk_tops]
theorem tick_tops (s : St) (x : Wn) : (tickS s x).tops = s.tops := by
 by_cases hb : ticB x = true
 ·rw [tickS_pos s hb, nom_tops, addw_tops]
 ·rw [tickS_neg s hb, nom_tops]
theorem nom_wins (s : St) (v : Nat) : (s.nom v).wins = s.wins := by rw [nom_eq, mk_wins]
theorem addw_wins (s : St) (x : Wn) : (s.addw x).wins = s.wins ++ [x] := by rw [addw_eq, mk_wins]
theorem tick_wins (s : St) (x : Wn) : (tickS s x).wins = if ticB x = true then s.wins ++ [x] else s.wins := by
 by_cases hb : ticB x = true
 ·rw [tickS_pos s hb, if_pos hb, nom_wins, addw_wins]
 ·rw [tickS_neg s hb, if_neg hb, nom_wins]
theorem tick_fit {s : St} (x : Wn) (h : s.fit) (hw : s.wins.length ≤ 900) : (tickS s x).fit := by
 by_cases hb : ticB x = true
 ·rw [tickS_pos s hb]; exact (h.addw x hw).nom _
 ·rw [tickS_neg s hb]; exact h.nom _
theorem tic_wins {s : St} {x : Wn} {r : Nat} (hE : ticE s x r = 0) (hb : ticB x = true) : s.wins.length + 1 ≤ 3 := by
 unfold ticE at hE
 rw [if_pos hb] at hE
 generalize ((s.addw x).nom (ticV x)).nominal = nn at hE
 generalize xroomB ((s.addw x).nom (ticV x)) r = rb at hE
 generalize winE s x = we at hE
 generalize nomE x.t.face x.t.wins x.t.many = ne at hE
 generalize winsOk x.drawn x.t.wins x.t.many = wo at hE
 generalize (18446744073709551615 : Nat) = q at hE
 refine Nat.le_of_not_lt (fun hlt => ?_)
 split at hE
 ·omega
 ·split at hE
  ·rename_i hx; exact hx hE
  ·split at hE
   ·omega
   ·split at hE
    ·rename_i hx; exact hx hE
    ·split at hE
     ·omega
     ·first | omega | (rw [if_pos hlt] at hE; omega)
theorem play_inv {s : St} {mt : Nat} {o : Op17} (h : Inv s mt) (ho : o.fit) (hE : playE s mt o = 0) : Inv (playS s mt o) mt := by
 unfold playE at hE
 unfold playS
 by_cases k0 : o.kind = 0
 ·rw [if_pos k0]
  exact ⟨⟨h.good.fit.vouch ho.am _, h.good.an, h.good.tok, h.good.mt, h.good.tops, h.good.wins⟩, h.tops, h.wins⟩
 ·rw [if_neg k0] at hE ⊢
  by_cases k1 : o.kind = 1
  ·rw [if_pos k1]
   exact ⟨⟨h.good.fit.token _ (Nat.le_trans (cntN_le' _ _ _) (Nat.le_trans h.good.mt (by decide))), h.good.an, h.good.tok, h.good.mt, h.good.tops, h.good.wins⟩, h.tops, h.wins⟩
  ·rw [if_neg k1] at hE ⊢
   by_cases k2 : o.kind = 2
   ·rw [if_pos k2] at hE ⊢
    have h1 := tick_lock s o.x
    have h2 := tick_tops s o.x
    have h3 := tick_wins s o.x
    have h4 := tick_fit o.x h.good.fit h.good.wins
    have hl : (tickS s o.x).wins.length ≤ 3 := by
     rw [h3]
     by_cases hb : ticB o.x = true
     ·rw [if_pos hb, List.length_append]; exact tic_wins hE hb
     ·rw [if_neg hb]; exact h.wins
    clear hE h3
    generalize tickS s o.x = s' at *
    exact ⟨⟨h4, by rw [h1]; exact h.good.an, by rw [h1]; exact h.good.tok, h.good.mt, by rw [h2]; exact h.good.tops, by omega⟩, by rw [h2]; exact h.tops, hl⟩
   ·rw [if_neg k2] at hE ⊢
    by_cases k3 : o.kind = 3
    ·rw [if_pos k3] at hE ⊢
     unfold moreE at hE
     have hw : s.tops.length + 1 ≤ 3 := by
      refine Nat.le_of_not_lt (fun hlt => ?_)
      split at hE
      ·omega
      ·split at hE
       ·omega
       ·split at hE
        ·omega
        ·rw [if_pos (by omega)] at hE; omega
     have hl : (s.tops ++ [o.e]).length = s.tops.length + 1 := by simp
     refine ⟨⟨⟨h.good.fit.lam, h.good.fit.lunit, h.good.fit.am, h.good.fit.tokens, h.good.fit.faces, h.good.fit.nominal, ?_, by show (s.tops ++ [o.e]).length ≤ 1000; omega, h.good.fit.wins, h.good.fit.tx⟩, h.good.an, h.good.tok, h.good.mt, by show (s.tops ++ [o.e]).length ≤ 900; omega, h.good.wins⟩, by show (s.tops ++ [o.e]).length ≤ 3; omega, h.wins⟩
     intro x hx
     rcases List.mem_append.1 hx with hx | hx
     ·exact h.good.fit.tams x hx
     ·rw [List.mem_singleton.1 hx]; exact ho.eam
    ·rw [if_neg k3]
     exact ⟨⟨⟨h.good.fit.lam, h.good.fit.lunit, h.good.fit.am, h.good.fit.tokens, h.good.fit.faces, h.good.fit.nominal, h.good.fit.tams, h.good.fit.tops, h.good.fit.wins, h.good.fit.tx⟩, h.good.an, h.good.tok, h.good.mt, h.good.tops, h.good.wins⟩, h.tops, h.wins⟩
end
end Go.Proofs.YtjcinncphffgaaaGreat
