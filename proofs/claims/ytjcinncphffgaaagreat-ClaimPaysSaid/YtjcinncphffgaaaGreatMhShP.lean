/- ChannelShows: what any calls keep of what was paid. ChannelShows: what a state shows is worth what it says. -/
import Derived.Test.YtjcinncphffgaaaGreatMhG32
import Derived.Test.YtjcinncphffgaaaGreatMhLaw17b
set_option linter.unusedVariables false
set_option linter.unusedSimpArgs false
namespace Go.Proofs.YtjcinncphffgaaaGreat
open Go.RowKit Go.Maps
def St.tm (s : St) (mt : Nat) : Tm := enT s.lock mt
/-- what a state shows is worth what it says -/
structure ShI (s : St) (mt : Nat) : Prop where
  sig : s.sig.size ≤ 400
  paid : (s.am = 0 ∧ s.sig = ByteArray.empty) ∨ (0 < s.am ∧ verB s.lock.o.key (vouchB s.name s.am) s.sig = true)
  tok : (s.tok = ByteArray.empty ∧ s.tokens = 0) ∨ (s.tok.size = 16 ∧ cntE s.lock.o.anchor s.tok mt = 0 ∧ cntN s.lock.o.anchor s.tok mt = s.tokens)
  wins : OkTo (s.tm mt) s.wins s.wins.length
  salt : ∀ x ∈ s.wins, x.salt.size ≤ 32
  fit : ∀ x ∈ s.wins, x.fit
  faces : totI (fcI s.wins) = s.faces
  sum : (s.am : Int) + s.tokens * s.lock.o.unit + s.faces < 18446744073709551615
theorem ShI.of {s q : St} {mt : Nat} (h : ShI s mt) (h1 : q.lock = s.lock) (h2 : q.am = s.am) (h3 : q.sig = s.sig) (h4 : q.tok = s.tok) (h5 : q.wins = s.wins) (h6 : q.tokens = s.tokens) (h7 : q.faces = s.faces) : ShI q mt := by
  obtain ⟨a1, a2, a3, a4, a5, a6, a7, a8, a9, a10, a11, a12, a13, a14⟩ := s
  obtain ⟨b1, b2, b3, b4, b5, b6, b7, b8, b9, b10, b11, b12, b13, b14⟩ := q
  simp only at h1 h2 h3 h4 h5 h6 h7
  subst h1 h2 h3 h4 h5 h6 h7
  exact ⟨h.sig, h.paid, h.tok, h.wins, h.salt, h.fit, h.faces, h.sum⟩
theorem ShI.lists {s : St} {mt : Nat} (h : ShI s mt) (A : Option Addr) (c : Nat) (B : Option Addr) (d : Nat) : ShI (s.lists A c B d) mt := h.of rfl rfl rfl rfl rfl rfl rfl
theorem new_sh (x : En) (mt : Nat) : ShI (newS x) mt := by
  refine ⟨by show (0 : Nat) ≤ 400; decide, .inl ⟨rfl, rfl⟩, .inl ⟨rfl, rfl⟩, fun i hi _ => absurd hi (Nat.not_lt_zero i), (fun x hx => by cases hx), (fun x hx => by cases hx), rfl, ?_⟩
  show (0 : Int) + (0 : Nat) * (x.o.unit : Int) + (0 : Nat) < _
  simp
theorem capL_lt {a b c : Int} (h : capL [a, b, c] < 18446744073709551615) : a + b + c < 18446744073709551615 ∧ capL [a, b, c] = a + b + c := by
  unfold capL at h ⊢
  have e : totI [a, b, c] = a + b + c := by simp only [totI]; omega
  rw [e] at h ⊢
  by_cases q : a + b + c < 18446744073709551616
  · rw [if_pos q] at h ⊢; exact ⟨h, rfl⟩
  · rw [if_neg q] at h; exact absurd h (by decide)
theorem tokV_lt {n u : Nat} (h : tokV n u < 18446744073709551615) : tokV n u = (n : Int) * u := by
  unfold tokV at h ⊢
  by_cases q : (n : Int) * u < 18446744073709551616
  · rw [if_pos q]
  · rw [if_neg q] at h; exact absurd h (by decide)
theorem room_sum {s : St} {r : Nat} (h : xroomB s r = true) : (s.am : Int) + s.tokens * s.lock.o.unit + s.faces < 18446744073709551615 := by
  unfold xroomB at h
  simp only [Bool.and_eq_true, decide_eq_true_eq] at h
  have h1 := h.1.1
  clear h
  unfold worthV paidV at h1
  have h2 := (capL_lt h1).1
  have h3 := (tokV_bd s.tokens s.lock.o.unit).1
  have h4 : tokV s.tokens s.lock.o.unit < 18446744073709551615 := by omega
  have h5 := tokV_lt h4
  omega
theorem sum_worth {s : St} (h : (s.am : Int) + s.tokens * s.lock.o.unit + s.faces < 18446744073709551615) : worthV s = (s.am : Int) + s.tokens * s.lock.o.unit + s.faces := by
  have hm : (s.tokens : Int) * s.lock.o.unit < 18446744073709551616 := by
    have : (0 : Int) ≤ (s.tokens : Int) * s.lock.o.unit := Int.mul_nonneg (by omega) (by omega)
    omega
  unfold worthV paidV capL
  have e : totI [(s.am : Int), tokV s.tokens s.lock.o.unit, (s.faces : Int)] = (s.am : Int) + s.tokens * s.lock.o.unit + s.faces := by
    simp only [totI]
    unfold tokV
    rw [if_pos hm]
    omega
  rw [e, if_pos (by omega)]
theorem vou_sh {s : St} {mt am r : Nat} {sg : ByteArray} (h : ShI s mt) (hE : vouE s am sg r = 0) : ShI (s.vouch am sg) mt := by
  unfold vouE at hE
  by_cases hc : s.closed = true
  · rw [if_pos hc] at hE; exact absurd hE (by decide)
  rw [if_neg hc] at hE
  by_cases h1 : am ≤ s.am
  · rw [if_pos h1] at hE; exact absurd hE (by decide)
  rw [if_neg h1] at hE
  by_cases h2 : 400 < sg.size
  · rw [if_pos h2] at hE; exact absurd hE (by decide)
  rw [if_neg h2] at hE
  by_cases h3 : verB s.lock.o.key (vouchB s.name am) sg = true
  · rw [if_pos h3] at hE
    by_cases h4 : xroomB (s.vouch am sg) r = true
    · exact ⟨by show sg.size ≤ 400; omega, .inr ⟨by show 0 < am; omega, h3⟩, h.tok, h.wins, h.salt, h.fit, h.faces, room_sum h4⟩
    · rw [if_neg h4] at hE; exact absurd hE (by decide)
  · rw [if_neg h3] at hE; exact absurd hE (by decide)
theorem cntE_size {a t : ByteArray} {m : Nat} (h : cntE a t m = 0) : t.size = 16 := by
  unfold cntE at h
  by_cases q : t.size = 16
  · exact q
  · rw [if_neg q] at h; exact absurd h (by decide)
theorem tok_sh {s : St} {mt r : Nat} {t : ByteArray} (h : ShI s mt) (hE : tokE s t mt r = 0) : ShI (s.token t (cntN s.lock.o.anchor t mt)) mt := by
  unfold tokE at hE
  by_cases hc : s.closed = true
  · rw [if_pos hc] at hE; exact absurd hE (by decide)
  rw [if_neg hc] at hE
  by_cases h1 : cntE s.lock.o.anchor t mt ≠ 0
  · rw [if_pos h1] at hE; exact absurd hE h1
  rw [if_neg h1] at hE
  have h1' : cntE s.lock.o.anchor t mt = 0 := Decidable.not_not.1 h1
  by_cases h2 : cntN s.lock.o.anchor t mt ≤ s.tokens
  · rw [if_pos h2] at hE; exact absurd hE (by decide)
  rw [if_neg h2] at hE
  by_cases h3 : xroomB (s.token t (cntN s.lock.o.anchor t mt)) r = true
  · exact ⟨h.sig, h.paid, .inr ⟨cntE_size h1', h1', rfl⟩, h.wins, h.salt, h.fit, h.faces, room_sum h3⟩
  · rw [if_neg h3] at hE; exact absurd hE (by decide)
theorem more_sh {s : St} {mt : Nat} (e : En) (h : ShI s mt) : ShI (s.addtop e) mt := h.of rfl rfl rfl rfl rfl rfl rfl
end Go.Proofs.YtjcinncphffgaaaGreat
namespace Go.Proofs.YtjcinncphffgaaaGreat
open Go.RowKit Go.Maps
theorem fac_zero {t : Tm} {l : List Nat} {x : Wn} (h : facE t l x = 0) : x.t.ch = t.chan ∧ x.t.ser ∉ l ∧ wonE t.client x = 0 := by
  unfold facE at h
  by_cases h1 : x.t.ch ≠ t.chan
  · rw [if_pos h1] at h; exact absurd h (by decide)
  rw [if_neg h1] at h
  by_cases h2 : x.t.ser ∈ l
  · rw [if_pos h2] at h; exact absurd h (by decide)
  rw [if_neg h2] at h
  exact ⟨Decidable.not_not.1 h1, h2, h⟩
theorem won_may {c : ByteArray} {x : Wn} (h : wonE c x = 0) : tmayB x.t = true := by
  unfold wonE at h
  by_cases q : (tmayB x.t && winsOk x.drawn x.t.wins x.t.many) = true
  · exact (Bool.and_eq_true _ _ ▸ q).1
  · rw [if_neg q] at h; exact absurd h (by decide)
theorem sh_won {s : St} {mt : Nat} (h : ShI s mt) : ∀ x ∈ s.wins, wonE s.lock.o.key x = 0 := by
  intro x hx
  obtain ⟨i, hi, rfl⟩ := List.getElem_of_mem hx
  exact (fac_zero (h.wins i hi hi)).2.2
theorem sh_right {s : St} {mt : Nat} (h : ShI s mt) (h3 : s.wins.length ≤ 3) (B : Option Addr) (d : Nat) : rightB (s.pf B d) = true := by
  have e1 : s.wins.all wmayB = true := by
    rw [List.all_eq_true]
    intro x hx
    unfold wmayB
    rw [won_may (sh_won h x hx), Bool.true_and]
    exact decide_eq_true (h.salt x hx)
  have e2 : (decide (s.tok = ByteArray.empty) || decide (s.tok.size = 16)) = true := by
    rcases h.tok with ⟨h1, _⟩ | ⟨h1, _⟩
    · rw [decide_eq_true h1]; rfl
    · rw [decide_eq_true h1, Bool.or_true]
  show (s.wins.all wmayB && decide (s.sig.size ≤ 400) && (decide (s.tok = ByteArray.empty) || decide (s.tok.size = 16)) && decide (s.wins.length ≤ 3)) = true
  rw [e1, e2, decide_eq_true h.sig, decide_eq_true h3]
  rfl
theorem sh_paid {s : St} {mt : Nat} (h : ShI s mt) (B : Option Addr) (d : Nat) : paidB (s.tm mt) (s.pf B d) = true := by
  show (if 0 < s.am then verB s.lock.o.key (vouchB s.name s.am) s.sig else decide (s.sig = ByteArray.empty)) = true
  rcases h.paid with ⟨h1, h2⟩ | ⟨h1, h2⟩
  · rw [if_neg (by omega)]; exact decide_eq_true h2
  · rw [if_pos h1]; exact h2
end Go.Proofs.YtjcinncphffgaaaGreat
