/- ChannelShows: what any calls keep of what was paid. -/
import Derived.Test.YtpbcfeghfcodcaaGreatMgTrmB
set_option linter.unusedVariables false
set_option linter.unusedSimpArgs false
namespace Go.Proofs.YtpbcfeghfcodcaaGreat
open Go.RowKit Go.Maps
def St.tm (s : St) (mt : Nat) : Tm := enT s.lock mt
/-- what a state shows is worth what it says -/
structure ShI (s : St) (mt : Nat) : Prop where
  sig : s.sig.size ≤ 400
  paid : (s.am = 0 ∧ s.sig = ByteArray.empty) ∨ (0 < s.am ∧ verB s.lock.o.key (vouchB s.name s.am) s.sig = true)
  tok : (s.tok = ByteArray.empty ∧ s.tokens = 0) ∨ (s.tok.size = 16 ∧ cntE s.lock.o.anchor s.tok mt = 0 ∧ cntN s.lock.o.anchor s.tok mt = s.tokens)
  wins : OkTo (s.tm mt) s.wins s.wins.length
  salt : ∀ x ∈ s.wins, x.salt.size ≤ 32
  fit : ∀ x ∈ s.wins, x.fit
  faces : totI (fcI s.wins) = s.faces
  sum : (s.am : Int) + s.tokens * s.lock.o.unit + s.faces < 18446744073709551615
theorem ShI.of {s q : St} {mt : Nat} (h : ShI s mt) (h1 : q.lock = s.lock) (h2 : q.am = s.am) (h3 : q.sig = s.sig) (h4 : q.tok = s.tok) (h5 : q.wins = s.wins) (h6 : q.tokens = s.tokens) (h7 : q.faces = s.faces) : ShI q mt := by
  obtain ⟨a1, a2, a3, a4, a5, a6, a7, a8, a9, a10, a11, a12, a13, a14⟩ := s
  obtain ⟨b1, b2, b3, b4, b5, b6, b7, b8, b9, b10, b11, b12, b13, b14⟩ := q
  simp only at h1 h2 h3 h4 h5 h6 h7
  subst h1 h2 h3 h4 h5 h6 h7
  exact ⟨h.sig, h.paid, h.tok, h.wins, h.salt, h.fit, h.faces, h.sum⟩
theorem ShI.lists {s : St} {mt : Nat} (h : ShI s mt) (A : Option Addr) (c : Nat) (B : Option Addr) (d : Nat) : ShI (s.lists A c B d) mt := h.of rfl rfl rfl rfl rfl rfl rfl
theorem new_sh (x : En) (mt : Nat) : ShI (newS x) mt := by
  refine ⟨by show (0 : Nat) ≤ 400; decide, .inl ⟨rfl, rfl⟩, .inl ⟨rfl, rfl⟩, fun i hi _ => absurd hi (Nat.not_lt_zero i), (fun x hx => by cases hx), (fun x hx => by cases hx), rfl, ?_⟩
  show (0 : Int) + (0 : Nat) * (x.o.unit : Int) + (0 : Nat) < _
  simp
theorem capL_lt {a b c : Int} (h : capL [a, b, c] < 18446744073709551615) : a + b + c < 18446744073709551615 ∧ capL [a, b, c] = a + b + c := by
  unfold capL at h ⊢
  have e : totI [a, b, c] = a + b + c := by simp only [totI]; omega
  rw [e] at h ⊢
  by_cases q : a + b + c < 18446744073709551616
  · rw [if_pos q] at h ⊢; exact ⟨h, rfl⟩
  · rw [if_neg q] at h; exact absurd h (by decide)
theorem tokV_lt {n u : Nat} (h : tokV n u < 18446744073709551615) : tokV n u = (n : Int) * u := by
  unfold tokV at h ⊢
  by_cases q : (n : Int) * u < 18446744073709551616
  · rw [if_pos q]
  · rw [if_neg q] at h; exact absurd h (by decide)
theorem room_sum {s : St} {r : Nat} (h : xroomB s r = true) : (s.am : Int) + s.tokens * s.lock.o.unit + s.faces < 18446744073709551615 := by
  unfold xroomB at h
  simp only [Bool.and_eq_true, decide_eq_true_eq] at h
  have h1 := h.1.1
  clear h
  unfold worthV paidV at h1
  have h2 := (capL_lt h1).1
  have h3 := (tokV_bd s.tokens s.lock.o.unit).1
  have h4 : tokV s.tokens s.lock.o.unit < 18446744073709551615 := by omega
  have h5 := tokV_lt h4
  omega
theorem sum_worth {s : St} (h : (s.am : Int) + s.tokens * s.lock.o.unit + s.faces < 18446744073709551615) : worthV s = (s.am : Int) + s.tokens * s.lock.o.unit + s.faces := by
  have hm : (s.tokens : Int) * s.lock.o.unit < 18446744073709551616 := by
    have : (0 : Int) ≤ (s.tokens : Int) * s.lock.o.unit := Int.mul_nonneg (by omega) (by omega)
    omega
  unfold worthV paidV capL
  have e : totI [(s.am : Int), tokV s.tokens s.lock.o.unit, (s.faces : Int)] = (s.am : Int) + s.tokens * s.lock.o.unit + s.faces := by
    simp only [totI]
    unfold tokV
    rw [if_pos hm]
    omega
  rw [e, if_pos (by omega)]
theorem vou_sh {s : St} {mt am r : Nat} {sg : ByteArray} (h : ShI s mt) (hE : vouE s am sg r = 0) : ShI (s.vouch am sg) mt := by
  unfold vouE at hE
  by_cases hc : s.closed = true
  · rw [if_pos hc] at hE; exact absurd hE (by decide)
  rw [if_neg hc] at hE
  by_cases h1 : am ≤ s.am
  · rw [if_pos h1] at hE; exact absurd hE (by decide)
  rw [if_neg h1] at hE
  by_cases h2 : 400 < sg.size
  · rw [if_pos h2] at hE; exact absurd hE (by decide)
  rw [if_neg h2] at hE
  by_cases h3 : verB s.lock.o.key (vouchB s.name am) sg = true
  · rw [if_pos h3] at hE
    by_cases h4 : xroomB (s.vouch am sg) r = true
    · exact ⟨by show sg.size ≤ 400; omega, .inr ⟨by show 0 < am; omega, h3⟩, h.tok, h.wins, h.salt, h.fit, h.faces, room_sum h4⟩
    · rw [if_neg h4] at hE; exact absurd hE (by decide)
  · rw [if_neg h3] at hE; exact absurd hE (by decide)
theorem cntE_size {a t : ByteArray} {m : Nat} (h : cntE a t m = 0) : t.size = 16 := by
  unfold cntE at h
  by_cases q : t.size = 16
  · exact q
  · rw [if_neg q] at h; exact absurd h (by decide)
theorem tok_sh {s : St} {mt r : Nat} {t : ByteArray} (h : ShI s mt) (hE : tokE s t mt r = 0) : ShI (s.token t (cntN s.lock.o.anchor t mt)) mt := by
  unfold tokE at hE
  by_cases hc : s.closed = true
  · rw [if_pos hc] at hE; exact absurd hE (by decide)
  rw [if_neg hc] at hE
  by_cases h1 : cntE s.lock.o.anchor t mt ≠ 0
  · rw [if_pos h1] at hE; exact absurd hE h1
  rw [if_neg h1] at hE
  have h1' : cntE s.lock.o.anchor t mt = 0 := Decidable.not_not.1 h1
  by_cases h2 : cntN s.lock.o.anchor t mt ≤ s.tokens
  · rw [if_pos h2] at hE; exact absurd hE (by decide)
  rw [if_neg h2] at hE
  by_cases h3 : xroomB (s.token t (cntN s.lock.o.anchor t mt)) r = true
  · exact ⟨h.sig, h.paid, .inr ⟨cntE_size h1', h1', rfl⟩, h.wins, h.salt, h.fit, h.faces, room_sum h3⟩
  · rw [if_neg h3] at hE; exact absurd hE (by decide)
theorem more_sh {s : St} {mt : Nat} (e : En) (h : ShI s mt) : ShI (s.addtop e) mt := h.of rfl rfl rfl rfl rfl rfl rfl
theorem shut_sh {s : St} {mt : Nat} (h : ShI s mt) : ShI s.shut mt := h.of rfl rfl rfl rfl rfl rfl rfl
theorem mk_am (l : En) (A : Option Addr) (t : List En) (c a : Nat) (sg tk : ByteArray) (B : Option Addr) (w : List Wn) (d tk' f n : Nat) (cl : Bool) : (St.mk l A t c a sg tk B w d tk' f n cl).am = a := rfl
theorem mk_sig (l : En) (A : Option Addr) (t : List En) (c a : Nat) (sg tk : ByteArray) (B : Option Addr) (w : List Wn) (d tk' f n : Nat) (cl : Bool) : (St.mk l A t c a sg tk B w d tk' f n cl).sig = sg := rfl
theorem mk_tok (l : En) (A : Option Addr) (t : List En) (c a : Nat) (sg tk : ByteArray) (B : Option Addr) (w : List Wn) (d tk' f n : Nat) (cl : Bool) : (St.mk l A t c a sg tk B w d tk' f n cl).tok = tk := rfl
theorem mk_tokens (l : En) (A : Option Addr) (t : List En) (c a : Nat) (sg tk : ByteArray) (B : Option Addr) (w : List Wn) (d tk' f n : Nat) (cl : Bool) : (St.mk l A t c a sg tk B w d tk' f n cl).tokens = tk' := rfl
theorem mk_faces (l : En) (A : Option Addr) (t : List En) (c a : Nat) (sg tk : ByteArray) (B : Option Addr) (w : List Wn) (d tk' f n : Nat) (cl : Bool) : (St.mk l A t c a sg tk B w d tk' f n cl).faces = f := rfl
theorem nom_sh {s : St} {mt : Nat} (v : Nat) (h : ShI s mt) : ShI (s.nom v) mt :=
  h.of (nom_lock s v) (by rw [nom_eq, mk_am]) (by rw [nom_eq, mk_sig]) (by rw [nom_eq, mk_tok]) (nom_wins s v) (by rw [nom_eq, mk_tokens]) (by rw [nom_eq, mk_faces])
theorem capA_lt {a b : Int} (h : capA a b < 18446744073709551615) : capA a b = a + b := by
  unfold capA capN plusE plusV at h ⊢
  by_cases q : a + b < 18446744073709551616
  · rw [if_pos q, if_pos q, if_pos rfl]
  · rw [if_neg q, if_neg q, if_neg (by decide)] at h; exact absurd h (by decide)
theorem capA_nn {a b : Int} (h : 0 ≤ a) (h2 : 0 ≤ b) : 0 ≤ capA a b := by
  unfold capA capN plusE plusV
  by_cases q : a + b < 18446744073709551616
  · rw [if_pos q, if_pos q, if_pos rfl]; omega
  · rw [if_neg q, if_neg q, if_neg (by decide)]; decide
theorem sers_any {l : List Wn} {x : Wn} (h : ¬ l.any (fun y => decide (y.t.ser = x.t.ser)) = true) : x.t.ser ∉ sers l := by
  intro hm
  refine h ?_
  unfold sers at hm
  obtain ⟨y, hy, he⟩ := List.mem_map.1 hm
  rw [List.any_eq_true]
  exact ⟨y, hy, decide_eq_true he⟩
theorem ok_snoc17 {t : Tm} {l : List Wn} {x : Wn} (h : OkTo t l l.length) (he : facE t (sers l) x = 0) : OkTo t (l ++ [x]) (l ++ [x]).length := by
  intro i hi _
  have hl : (l ++ [x]).length = l.length + 1 := by simp
  by_cases q : i < l.length
  · have := h i q q
    rw [List.take_append_of_le_length (by omega), List.getElem_append_left q]
    exact this
  · obtain rfl : i = l.length := by omega
    rw [List.take_append_of_le_length (Nat.le_refl _), List.take_length, List.getElem_append_right (Nat.le_refl _)]
    simpa using he
theorem addw_sh {s : St} {mt : Nat} {x : Wn} (h : ShI s mt) (hx : x.fit) (hW : winE s x = 0) (hs : ((s.am : Int) + s.tokens * s.lock.o.unit + (capA s.faces x.t.face).toNat) < 18446744073709551615) : ShI (s.addw x) mt := by
  have hn0 := capA_nn (a := s.faces) (b := x.t.face) (by omega) (by omega)
  have hp0 : (0 : Int) ≤ (s.tokens : Int) * s.lock.o.unit := Int.mul_nonneg (by omega) (by omega)
  have hlt : capA s.faces x.t.face < 18446744073709551615 := by omega
  have hca := capA_lt hlt
  unfold winE at hW
  by_cases h1 : wonE s.lock.o.key x ≠ 0
  · rw [if_pos h1] at hW; exact absurd hW h1
  rw [if_neg h1] at hW
  by_cases h2 : x.t.ch ≠ s.name
  · rw [if_pos h2] at hW; exact absurd hW (by decide)
  rw [if_neg h2] at hW
  by_cases h3 : 32 < x.salt.size
  · rw [if_pos h3] at hW; exact absurd hW (by decide)
  rw [if_neg h3] at hW
  by_cases h4 : s.wins.any (fun y => decide (y.t.ser = x.t.ser)) = true
  · rw [if_pos h4] at hW; exact absurd hW (by decide)
  have g1 : wonE s.lock.o.key x = 0 := Decidable.not_not.1 h1
  have g2 : x.t.ch = s.name := Decidable.not_not.1 h2
  have g4 := sers_any h4
  have gf : facE (s.tm mt) (sers s.wins) x = 0 := by
    unfold facE
    have e1 : ¬ x.t.ch ≠ (s.tm mt).chan := fun q => q g2
    rw [if_neg e1, if_neg g4]
    exact g1
  have gk := ok_snoc17 h.wins gf
  have gt : totI (fcI (s.wins ++ [x])) = ((capA s.faces x.t.face).toNat : Nat) := by
    have e : fcI (s.wins ++ [x]) = fcI s.wins ++ [(x.t.face : Int)] := by simp [fcI]
    rw [e, totI_append, h.faces]
    simp only [totI]
    omega
  have gsalt : ∀ y ∈ s.wins ++ [x], y.salt.size ≤ 32 := by
    intro y hy
    rcases List.mem_append.1 hy with hy | hy
    · exact h.salt y hy
    · rw [List.mem_singleton.1 hy]; omega
  have gfit : ∀ y ∈ s.wins ++ [x], y.fit := by
    intro y hy
    rcases List.mem_append.1 hy with hy | hy
    · exact h.fit y hy
    · rw [List.mem_singleton.1 hy]; exact hx
  obtain ⟨k1, k2, k3, _, _, _, _, _⟩ := h
  rw [addw_eq]
  generalize (capA s.faces x.t.face).toNat = ff at gt hs ⊢
  obtain ⟨a1, a2, a3, a4, a5, a6, a7, a8, a9, a10, a11, a12, a13, a14⟩ := s
  exact ⟨k1, k2, k3, gk, gsalt, gfit, gt, hs⟩
theorem tick_sh {s : St} {mt r : Nat} {x : Wn} (h : ShI s mt) (hx : x.fit) (hE : ticE s x r = 0) : ShI (tickS s x) mt := by
  by_cases hb : ticB x = true
  · rw [tickS_pos s hb]
    refine nom_sh _ ?_
    unfold ticE at hE
    rw [if_pos hb] at hE
    have hro : winE s x = 0 ∧ xroomB ((s.addw x).nom (ticV x)) r = true := by
      generalize ((s.addw x).nom (ticV x)).nominal = nn at hE
      generalize xroomB ((s.addw x).nom (ticV x)) r = rb at hE ⊢
      generalize winE s x = we at hE ⊢
      generalize nomE x.t.face x.t.wins x.t.many = ne at hE
      generalize winsOk x.drawn x.t.wins x.t.many = wo at hE
      generalize (18446744073709551615 : Nat) = q at hE
      by_cases c1 : s.closed = true
      · rw [if_pos c1] at hE; exact absurd hE (by decide)
      rw [if_neg c1] at hE
      by_cases c2 : ne ≠ 0
      · rw [if_pos c2] at hE; exact absurd hE c2
      rw [if_neg c2] at hE
      by_cases c3 : wo = false
      · rw [if_pos c3] at hE; exact absurd hE (by decide)
      rw [if_neg c3] at hE
      by_cases c4 : we ≠ 0
      · rw [if_pos c4] at hE; exact absurd hE c4
      rw [if_neg c4] at hE
      by_cases c5 : nn = q
      · rw [if_pos c5] at hE; exact absurd hE (by decide)
      rw [if_neg c5] at hE
      by_cases c6 : 3 < s.wins.length + 1
      · rw [if_pos c6] at hE; exact absurd hE (by decide)
      rw [if_neg c6] at hE
      by_cases c7 : rb = true
      · exact ⟨Decidable.not_not.1 c4, c7⟩
      · rw [if_neg c7] at hE; exact absurd hE (by decide)
    obtain ⟨hw, hr⟩ := hro
    have hs := room_sum hr
    rw [nom_lock, addw_lock] at hs
    have e1 : ((s.addw x).nom (ticV x)).am = s.am := by rw [nom_eq, mk_am, addw_eq, mk_am]
    have e2 : ((s.addw x).nom (ticV x)).tokens = s.tokens := by rw [nom_eq, mk_tokens, addw_eq, mk_tokens]
    have e3 : ((s.addw x).nom (ticV x)).faces = (capA s.faces x.t.face).toNat := by rw [nom_eq, mk_faces, addw_eq, mk_faces]
    rw [e1, e2, e3] at hs
    exact addw_sh h hx hw hs
  · rw [tickS_neg s hb]
    exact nom_sh _ h
theorem play_sh {s : St} {mt : Nat} {o : Op17} (h : ShI s mt) (ho : o.fit) (hE : playE s mt o = 0) : ShI (playS s mt o) mt := by
  unfold playE at hE
  unfold playS
  by_cases k0 : o.kind = 0
  · rw [if_pos k0] at hE ⊢; exact vou_sh h hE
  · rw [if_neg k0] at hE ⊢
    by_cases k1 : o.kind = 1
    · rw [if_pos k1] at hE ⊢; exact tok_sh h hE
    · rw [if_neg k1] at hE ⊢
      by_cases k2 : o.kind = 2
      · rw [if_pos k2] at hE ⊢; exact tick_sh h ho.x hE
      · rw [if_neg k2] at hE ⊢
        by_cases k3 : o.kind = 3
        · rw [if_pos k3]; exact more_sh _ h
        · rw [if_neg k3]; exact shut_sh h
end Go.Proofs.YtpbcfeghfcodcaaGreat
