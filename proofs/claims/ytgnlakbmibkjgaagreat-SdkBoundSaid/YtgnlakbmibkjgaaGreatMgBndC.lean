/- SdkBound: the state of its loop: the client, the book of offers, what was released. -/
import Derived.Lib.OwnKind
import Derived.Test.YtgnlakbmibkjgaaGreatMgBndB
import Derived.Test.YtgnlakbmibkjgaaGreatMgCallsA
import Derived.Test.YtgnlakbmibkjgaaGreatMgLotG
set_option linter.unusedVariables false
set_option linter.unusedSimpArgs false
namespace Go.Proofs.YtgnlakbmibkjgaaGreat
open Go.RowKit Go.Maps
theorem own_ne2 {w : World} {b b' s s' n n' : Nat} {e e' : TypeId} {v v' : Value} {xs xs' : List Value} (h : w.ownsRow b e s v n xs) (h' : w.ownsRow b' e' s' v' n' xs') (hne : e ≠ e') : ∀ g, v.ownBlock = some g → v'.ownBlock ≠ some g := by
  intro g hg hg'
  obtain ⟨c, fz, h1⟩ := Lib.ownsRow_kind h g hg
  obtain ⟨c', fz', h2⟩ := Lib.ownsRow_kind h' g hg'
  rw [h1] at h2
  injection h2 with h2
  injection h2 with _ h2
  exact hne h2
/-- a block of cells of a type -/
def Kd (w : World) (g : Nat) (t : TypeId) : Prop := ∃ c fz, w.heap[g]? = some (.cells c t fz)
theorem Blk.kd {w : World} {g : Nat} {t : TypeId} {cs : Array Value} (h : Blk w g t cs) : Kd w g t := ⟨cs, _, h⟩
theorem Kd.ne_ {w : World} {g g' : Nat} {t t' : TypeId} (h : Kd w g t) (h' : Kd w g' t') (hne : t ≠ t') : g ≠ g' := by
  rintro rfl
  obtain ⟨c, fz, h⟩ := h
  obtain ⟨c', fz', h'⟩ := h'
  rw [h] at h'
  injection h' with h'
  injection h' with _ h'
  exact hne h'
theorem MpU.ne_kd {w : World} {b g : Nat} {D : DU} {t : TypeId} (h : MpU w b D) (hg : Kd w g t) : b ≠ g := by
  rintro rfl
  obtain ⟨es, clock, hb, _⟩ := h
  obtain ⟨c, fz, hg⟩ := hg
  rw [hb] at hg
  cases hg
/-- what a growing row changes -/
theorem grown_ch {w w' : World} {v : Value} (h : w.grownBy w' v.ownBlock) : Ch v.ownBlock.toList w w' :=
  ⟨h.os, h.tape, h.output, h.size, fun i hi hn => h.block i hi (fun e => hn (by rw [← e]; simp))⟩
theorem own_list {v : Value} {g : Nat} : g ∈ v.ownBlock.toList ↔ v.ownBlock = some g := by
  cases v.ownBlock <;> simp [eq_comm]
/-- the client's rows of texts lie below a place -/
def Pin (w : World) (kb pb N : Nat) : Prop :=
  (∃ ctr seed vl root, Blk w kb 149 (keyC ctr seed vl root) ∧ ∀ g, vl.ownBlock = some g → g < N) ∧ (∃ g n, Blk w pb 278 #[.slice (some ⟨g, 0, none⟩) n n] ∧ g < N)
theorem Pin.ch {S : List Nat} {w w' : World} {kb pb N : Nat} (h : Pin w kb pb N) (hc : Ch S w w') (hS : ∀ g ∈ S, (∃ t, Kd w g t ∧ t ≠ 149 ∧ t ≠ 278) ∨ (∃ D, MpU w g D)) : Pin w' kb pb N := by
  obtain ⟨⟨ctr, seed, vl, root, h1, h2⟩, g, n, h3, h4⟩ := h
  refine ⟨⟨ctr, seed, vl, root, h1.ch hc (fun hm => ?_), h2⟩, g, n, h3.ch hc (fun hm => ?_), h4⟩
  · rcases hS _ hm with ⟨t, k, t1, _⟩ | ⟨D, k⟩
    · exact h1.kd.ne_ k (Ne.symm t1) rfl
    · exact k.ne_kd h1.kd rfl
  · rcases hS _ hm with ⟨t, k, _, t2⟩ | ⟨D, k⟩
    · exact h3.kd.ne_ k (Ne.symm t2) rfl
    · exact k.ne_kd h3.kd rfl
theorem Pin.of {w : World} {cb kb ctr pb mb h n i out am tk : Nat} {seed tx : ByteArray} {l : Lk} {D : DU} (k : CIn w cb kb ctr pb mb seed h n i tx out l am tk D) : Pin w kb pb w.heap.size := by
  obtain ⟨_, ⟨vl, q1, q2, q3⟩, ⟨g, r1, r2⟩, _⟩ := k
  exact ⟨⟨ctr, seed, vl, _, q1, fun g hg => (q3.lt g hg).2⟩, g, n + 1, r1, r2.lt⟩
/-- the client, where other blocks were changed -/
theorem CIn.chK {S : List Nat} {w w' : World} {cb kb ctr pb mb h n i out am tk N : Nat} {seed tx : ByteArray} {l : Lk} {D : DU} (k : CIn w cb kb ctr pb mb seed h n i tx out l am tk D) (hp : Pin w kb pb N) (hc : Ch S w w')
    (hS : ∀ g ∈ S, N ≤ g ∧ ∃ t, Kd w g t ∧ t ≠ 143 ∧ t ≠ 149 ∧ t ≠ 271 ∧ t ≠ 278) : CIn w' cb kb ctr pb mb seed h n i tx out l am tk D := by
  obtain ⟨h1, ⟨vl, q1, q2, q3⟩, ⟨g, r1, r2⟩, h4⟩ := k
  obtain ⟨⟨ctr', seed', vl', root', p1, p2⟩, g', n', p3, p4⟩ := hp
  have hn : ∀ {b t cs}, Blk w b t cs → (t = 143 ∨ t = 149 ∨ t = 271 ∨ t = 278) → b ∉ S := by
    intro b t cs hb ht hm
    obtain ⟨_, t', k', t1, t2, t3, t4⟩ := hS _ hm
    refine hb.kd.ne_ k' ?_ rfl
    rcases ht with rfl | rfl | rfl | rfl
    · exact Ne.symm t1
    · exact Ne.symm t2
    · exact Ne.symm t3
    · exact Ne.symm t4
  have ev : vl = vl' := by
    have := q1.symm.trans p1
    injection this with this
    injection this with this
    unfold keyC at this
    simp at this
    exact this.2.2.1
  have eg : g = g' := by
    have := r1.symm.trans p3
    injection this with this
    injection this with this
    simp at this
    exact this.1
  subst ev eg
  exact ⟨h1.ch hc (hn h1 (.inl rfl)), ⟨vl, q1.ch hc (hn q1 (.inr (.inl rfl))), q2.ch hc (hn q2 (.inr (.inr (.inl rfl)))), Ch.owns hc q3 (fun b hb hm => by have := p2 b hb; have := (hS b hm).1; omega)⟩,
    ⟨g, r1.ch hc (hn r1 (.inr (.inr (.inr rfl)))), r2.ch hc (fun hm => by have := (hS g hm).1; omega)⟩, h4.ch hc (fun hm => by obtain ⟨_, t', k', _⟩ := hS _ hm; exact h4.ne_kd k' rfl)⟩
def encVo (sd nm : ByteArray) (p : Nat × Nat) : List Value := (opP 2 nm p.1 (signB sd 4 p.2 (vouchB nm p.1))).toList
def encTo (s : ByteArray) : List Value := [.string s]
theorem encVo_len (sd nm : ByteArray) (p : Nat × Nat) : (encVo sd nm p).length = 27 := rfl
theorem encTo_len (s : ByteArray) : (encTo s).length = 1 := rfl
theorem Wn.cl_len (x : Wn) : x.cl.length = 10 := rfl
/-- what was released: vouchers of at most so much, tokens of at most so many, tickets that won, of the faces that stand -/
structure Rlsd (sd nm : ByteArray) (am tk : Nat) (D : DU) (V : List (Nat × Nat)) (T : List ByteArray) (Wi : List Wn) : Prop where
  v : ∀ p ∈ V, p.1 ≤ am ∧ 0 < p.1 ∧ p.2 < 2 ^ 4
  t : ∀ s ∈ T, s = ByteArray.empty ∨ ∃ j, j ≤ tk ∧ s = tokB sd 20 j
  w : ∀ x ∈ Wi, x.t.ch = nm ∧ wonE (rootB sd 4) x = 0 ∧ x.fit ∧ wmayB x = true ∧ ∀ zd, D.atKey (ku x.t.ser) zd = .lit (ku x.t.face)
theorem Rlsd.mono {sd nm : ByteArray} {am tk am' tk' : Nat} {D D' : DU} {V : List (Nat × Nat)} {T : List ByteArray} {Wi : List Wn} (h : Rlsd sd nm am tk D V T Wi) (ha : am ≤ am') (ht : tk ≤ tk')
    (hD : ∀ k v : Nat, (∀ zd, D.atKey (ku k) zd = .lit (ku v)) → ∀ zd, D'.atKey (ku k) zd = .lit (ku v)) : Rlsd sd nm am' tk' D' V T Wi :=
  ⟨fun p hp => by have := h.v p hp; exact ⟨by omega, this.2⟩, fun s hs => by
    rcases h.t s hs with h | ⟨j, h1, h2⟩
    · exact .inl h
    · exact .inr ⟨j, by omega, h2⟩, fun x hx => by
    obtain ⟨a, b, c, d, e⟩ := h.w x hx
    exact ⟨a, b, c, d, hD _ _ e⟩⟩
structure BSt (wr : World) (cb kb ctr pb mb bb N : Nat) (sd nm tx : ByteArray) (l : Lk) (k i am tk b next : Nat) (D : DU) (V : List (Nat × Nat)) (T : List ByteArray) (Wi : List Wn) (O : List Of) (v1 v2 v3 : Value) : Prop where
  cl : Cbd wr cb kb ctr pb mb sd 4 20 tx 1 l i am tk D b k
  pin : Pin wr kb pb N
  bk : BookOwn wr N bb nm (rootB sd 4) next O
  r1 : wr.ownsRow N 45 27 v1 V.length (V.flatMap (encVo sd nm))
  r2 : wr.ownsRow N 9 1 v2 T.length (T.flatMap encTo)
  r3 : wr.ownsRow N 97 10 v3 Wi.length (Wi.flatMap Wn.cl)
  ok : Rlsd sd nm am tk D V T Wi
section
variable {wr : World} {cb kb ctr pb mb bb N : Nat} {sd nm tx : ByteArray} {l : Lk} {k i am tk b next : Nat} {D : DU} {V : List (Nat × Nat)} {T : List ByteArray} {Wi : List Wn} {O : List Of} {v1 v2 v3 : Value}
theorem BookOwn.ch {S : List Nat} {w w' : World} {base : Nat} {ch client : ByteArray} (h : BookOwn w base bb ch client next O) (hc : Ch S w w') (hS : ∀ g ∈ S, (∃ t, Kd w g t ∧ t ≠ 202 ∧ t ≠ 51) ∨ (∃ D, MpU w g D)) : BookOwn w' base bb ch client next O := by
  obtain ⟨A, c, h1, h2⟩ := h
  refine ⟨A, c, h1.ch hc (fun hm => ?_), Ch.owns hc h2 (fun g hg hm => ?_)⟩
  · rcases hS _ hm with ⟨t, k, t1, _⟩ | ⟨D, k⟩
    · exact h1.kd.ne_ k (Ne.symm t1) rfl
    · exact k.ne_kd h1.kd rfl
  · obtain ⟨cc, fz, hk⟩ := Lib.ownsRow_kind h2 g hg
    rcases hS _ hm with ⟨t, k, _, t2⟩ | ⟨D, k⟩
    · exact Kd.ne_ ⟨cc, fz, hk⟩ k (Ne.symm t2) rfl
    · exact k.ne_kd ⟨cc, fz, hk⟩ rfl
theorem own_chK {S : List Nat} {w w' : World} {base n size : Nat} {e : TypeId} {v : Value} {xs : List Value} (h : w.ownsRow base e size v n xs) (hc : Ch S w w') (hS : ∀ g ∈ S, (∃ t, Kd w g t ∧ t ≠ e) ∨ (∃ D, MpU w g D)) : w'.ownsRow base e size v n xs :=
  Ch.owns hc h (fun g hg hm => by
    obtain ⟨cc, fz, hk⟩ := Lib.ownsRow_kind h g hg
    rcases hS _ hm with ⟨t, k, t2⟩ | ⟨D, k⟩
    · exact Kd.ne_ ⟨cc, fz, hk⟩ k (Ne.symm t2) rfl
    · exact k.ne_kd ⟨cc, fz, hk⟩ rfl)
theorem BSt.bel {w' : World} (h : BSt wr cb kb ctr pb mb bb N sd nm tx l k i am tk b next D V T Wi O v1 v2 v3) (hb : Below wr.heap.size wr w') : BSt w' cb kb ctr pb mb bb N sd nm tx l k i am tk b next D V T Wi O v1 v2 v3 := by
  have hc : Ch [] wr w' := Ch.of_below hb []
  exact ⟨h.cl.bel hb, h.pin.ch hc (by simp), h.bk.ch hc (by simp), own_chK h.r1 hc (by simp), own_chK h.r2 hc (by simp), own_chK h.r3 hc (by simp), h.ok⟩
/-- behind a call of the client's -/
theorem BSt.client {w' : World} {k' i' am' tk' b' : Nat} {D' : DU} (h : BSt wr cb kb ctr pb mb bb N sd nm tx l k i am tk b next D V T Wi O v1 v2 v3) (hc : Ch [cb, ctr, mb] wr w') (hcl : Cbd w' cb kb ctr pb mb sd 4 20 tx 1 l i' am' tk' D' b' k') (hr : Rlsd sd nm am' tk' D' V T Wi) :
    BSt w' cb kb ctr pb mb bb N sd nm tx l k' i' am' tk' b' next D' V T Wi O v1 v2 v3 := by
  obtain ⟨q1, ⟨vl, q2, q3, _⟩, _, q4⟩ := id h.cl.cin
  have hS : ∀ P : TypeId → Prop, P 143 → P 271 → ∀ g ∈ [cb, ctr, mb], (∃ t, Kd wr g t ∧ P t) ∨ (∃ D, MpU wr g D) := by
    intro P p1 p2 g hg
    simp at hg
    rcases hg with rfl | rfl | rfl
    · exact .inl ⟨_, q1.kd, p1⟩
    · exact .inl ⟨_, q3.kd, p2⟩
    · exact .inr ⟨D, q4⟩
  exact ⟨hcl, h.pin.ch hc (hS (fun t => t ≠ 149 ∧ t ≠ 278) (by decide) (by decide)), h.bk.ch hc (hS (fun t => t ≠ 202 ∧ t ≠ 51) (by decide) (by decide)),
    own_chK h.r1 hc (hS (fun t => t ≠ 45) (by decide) (by decide)), own_chK h.r2 hc (hS (fun t => t ≠ 9) (by decide) (by decide)), own_chK h.r3 hc (hS (fun t => t ≠ 97) (by decide) (by decide)), hr⟩
/-- behind an offer that was made -/
theorem BSt.book {w' : World} {next' : Nat} {O' : List Of} (h : BSt wr cb kb ctr pb mb bb N sd nm tx l k i am tk b next D V T Wi O v1 v2 v3) (hN : N ≤ bb) (hc : Ch [bb] wr w') (hbk : BookOwn w' N bb nm (rootB sd 4) next' O') :
    BSt w' cb kb ctr pb mb bb N sd nm tx l k i am tk b next' D V T Wi O' v1 v2 v3 := by
  obtain ⟨A, c, q1, q2⟩ := id h.bk
  have hS : ∀ P : TypeId → Prop, P 202 → ∀ g ∈ [bb], (∃ t, Kd wr g t ∧ P t) ∨ (∃ D, MpU wr g D) := by
    intro P p1 g hg
    simp at hg
    subst hg
    exact .inl ⟨_, q1.kd, p1⟩
  have hcl := h.cl
  exact ⟨⟨hcl.cin.chK h.pin hc (fun g hg => by simp at hg; subst hg; exact ⟨hN, _, q1.kd, by decide⟩), hcl.all, hcl.num, hcl.tkn, hcl.sz, hcl.bd, hcl.le⟩, h.pin.ch hc (hS (fun t => t ≠ 149 ∧ t ≠ 278) (by decide)), hbk,
    own_chK h.r1 hc (hS (fun t => t ≠ 45) (by decide)), own_chK h.r2 hc (hS (fun t => t ≠ 9) (by decide)), own_chK h.r3 hc (hS (fun t => t ≠ 97) (by decide)), h.ok⟩
/-- behind an append -/
theorem BSt.app {w' : World} {e : TypeId} {v : Value} {size n : Nat} {xs : List Value} (h : BSt wr cb kb ctr pb mb bb N sd nm tx l k i am tk b next D V T Wi O v1 v2 v3) (hv : wr.ownsRow N e size v n xs) (hg : wr.grownBy w' v.ownBlock) (t1 : e ≠ 143 ∧ e ≠ 149 ∧ e ≠ 271 ∧ e ≠ 278) (t2 : e ≠ 202 ∧ e ≠ 51) :
    Cbd w' cb kb ctr pb mb sd 4 20 tx 1 l i am tk D b k ∧ Pin w' kb pb N ∧ BookOwn w' N bb nm (rootB sd 4) next O ∧ (e ≠ 45 → w'.ownsRow N 45 27 v1 V.length (V.flatMap (encVo sd nm))) ∧ (e ≠ 9 → w'.ownsRow N 9 1 v2 T.length (T.flatMap encTo)) ∧ (e ≠ 97 → w'.ownsRow N 97 10 v3 Wi.length (Wi.flatMap Wn.cl)) := by
  have hc := grown_ch hg
  have hk : ∀ g ∈ v.ownBlock.toList, N ≤ g ∧ Kd wr g e := fun g hm => by
    rw [own_list] at hm
    exact ⟨(hv.lt g hm).1, Lib.ownsRow_kind hv g hm⟩
  have hcl := h.cl
  exact ⟨⟨hcl.cin.chK h.pin hc (fun g hm => ⟨(hk g hm).1, e, (hk g hm).2, t1⟩), hcl.all, hcl.num, hcl.tkn, hcl.sz, hcl.bd, hcl.le⟩, h.pin.ch hc (fun g hm => .inl ⟨e, (hk g hm).2, t1.2.1, t1.2.2.2⟩), h.bk.ch hc (fun g hm => .inl ⟨e, (hk g hm).2, t2⟩),
    fun t => own_chK h.r1 hc (fun g hm => .inl ⟨e, (hk g hm).2, t⟩), fun t => own_chK h.r2 hc (fun g hm => .inl ⟨e, (hk g hm).2, t⟩), fun t => own_chK h.r3 hc (fun g hm => .inl ⟨e, (hk g hm).2, t⟩)⟩
theorem BSt.addV {w' : World} {p : Nat × Nat} {v' : Value} (h : BSt wr cb kb ctr pb mb bb N sd nm tx l k i am tk b next D V T Wi O v1 v2 v3) (hg : wr.grownBy w' v1.ownBlock) (ho : w'.ownsRow N 45 27 v' (V.length + 1) (V.flatMap (encVo sd nm) ++ encVo sd nm p)) (hp : p.1 ≤ am ∧ 0 < p.1 ∧ p.2 < 2 ^ 4) :
    BSt w' cb kb ctr pb mb bb N sd nm tx l k i am tk b next D (V ++ [p]) T Wi O v' v2 v3 := by
  obtain ⟨q1, q2, q3, _, q5, q6⟩ := h.app h.r1 hg (by decide) (by decide)
  have hl : (V ++ [p]).length = V.length + 1 := by simp
  have hf : (V ++ [p]).flatMap (encVo sd nm) = V.flatMap (encVo sd nm) ++ encVo sd nm p := by simp
  exact ⟨q1, q2, q3, by rw [hl, hf]; exact ho, q5 (by decide), q6 (by decide), ⟨fun y hy => by
    rcases List.mem_append.1 hy with hy | hy
    · exact h.ok.v y hy
    · simp at hy; subst hy; exact hp, h.ok.t, h.ok.w⟩⟩
theorem BSt.addT {w' : World} {s : ByteArray} {v' : Value} (h : BSt wr cb kb ctr pb mb bb N sd nm tx l k i am tk b next D V T Wi O v1 v2 v3) (hg : wr.grownBy w' v2.ownBlock) (ho : w'.ownsRow N 9 1 v' (T.length + 1) (T.flatMap encTo ++ encTo s)) (hp : ∃ j, j ≤ tk ∧ s = tokB sd 20 j) :
    BSt w' cb kb ctr pb mb bb N sd nm tx l k i am tk b next D V (T ++ [s]) Wi O v1 v' v3 := by
  obtain ⟨q1, q2, q3, q4, _, q6⟩ := h.app h.r2 hg (by decide) (by decide)
  have hl : (T ++ [s]).length = T.length + 1 := by simp
  have hf : (T ++ [s]).flatMap encTo = T.flatMap encTo ++ encTo s := by simp
  exact ⟨q1, q2, q3, q4 (by decide), by rw [hl, hf]; exact ho, q6 (by decide), ⟨h.ok.v, fun y hy => by
    rcases List.mem_append.1 hy with hy | hy
    · exact h.ok.t y hy
    · simp at hy; subst hy; exact .inr hp, h.ok.w⟩⟩
theorem BSt.addW {w' : World} {x : Wn} {v' : Value} (h : BSt wr cb kb ctr pb mb bb N sd nm tx l k i am tk b next D V T Wi O v1 v2 v3) (hg : wr.grownBy w' v3.ownBlock) (ho : w'.ownsRow N 97 10 v' (Wi.length + 1) (Wi.flatMap Wn.cl ++ x.cl))
    (hp : x.t.ch = nm ∧ wonE (rootB sd 4) x = 0 ∧ x.fit ∧ wmayB x = true ∧ ∀ zd, D.atKey (ku x.t.ser) zd = .lit (ku x.t.face)) :
    BSt w' cb kb ctr pb mb bb N sd nm tx l k i am tk b next D V T (Wi ++ [x]) O v1 v2 v' := by
  obtain ⟨q1, q2, q3, q4, q5, _⟩ := h.app h.r3 hg (by decide) (by decide)
  have hl : (Wi ++ [x]).length = Wi.length + 1 := by simp
  have hf : (Wi ++ [x]).flatMap Wn.cl = Wi.flatMap Wn.cl ++ x.cl := by simp
  exact ⟨q1, q2, q3, q4 (by decide), q5 (by decide), by rw [hl, hf]; exact ho, ⟨h.ok.v, h.ok.t, fun y hy => by
    rcases List.mem_append.1 hy with hy | hy
    · exact h.ok.w y hy
    · simp at hy; subst hy; exact hp⟩⟩
theorem BSt.more {k' : Nat} (h : BSt wr cb kb ctr pb mb bb N sd nm tx l k i am tk b next D V T Wi O v1 v2 v3) (hk : k ≤ k') : BSt wr cb kb ctr pb mb bb N sd nm tx l k' i am tk b next D V T Wi O v1 v2 v3 := ⟨h.cl.more hk, h.pin, h.bk, h.r1, h.r2, h.r3, h.ok⟩
end
theorem BookOwn.mono {w : World} {base base' b next : Nat} {ch client : ByteArray} {l : List Of} (h : BookOwn w base b ch client next l) (hb : base' ≤ base) : BookOwn w base' b ch client next l := by
  obtain ⟨A, c, h1, h2⟩ := h
  exact ⟨A, c, h1, h2.mono hb⟩
/-- blocks of other types, behind a call of the client's -/
theorem Cbd.keeps {w w' : World} {cb kb ctr pb mb h n i out am tk b z g : Nat} {seed tx : ByteArray} {l : Lk} {D : DU} {t : TypeId} {cs : Array Value} (k : Cbd w cb kb ctr pb mb seed h n tx out l i am tk D b z) (hc : Ch [cb, ctr, mb] w w') (hg : Blk w g t cs) (t1 : t ≠ 143) (t2 : t ≠ 271) : Blk w' g t cs := by
  obtain ⟨q1, ⟨vl, q2, q3, _⟩, _, q4⟩ := k.cin
  refine hg.ch hc (fun hm => ?_)
  simp at hm
  rcases hm with rfl | rfl | rfl
  · exact hg.kd.ne_ q1.kd t1 rfl
  · exact hg.kd.ne_ q3.kd t2 rfl
  · exact q4.ne_kd hg.kd rfl
theorem BSt.keepsB {w w' : World} {cb kb ctr pb mb bb N g : Nat} {sd nm tx : ByteArray} {l : Lk} {k i am tk b next : Nat} {D : DU} {V : List (Nat × Nat)} {T : List ByteArray} {Wi : List Wn} {O : List Of} {v1 v2 v3 : Value} {t : TypeId} {cs : Array Value}
    (h : BSt w cb kb ctr pb mb bb N sd nm tx l k i am tk b next D V T Wi O v1 v2 v3) (hc : Ch [bb] w w') (hg : Blk w g t cs) (t1 : t ≠ 202) : Blk w' g t cs := by
  obtain ⟨A, c, q1, _⟩ := h.bk
  exact hg.ch hc (by have := hg.ne_ q1 t1; simpa using this)
theorem BSt.nle {w : World} {cb kb ctr pb mb bb N : Nat} {sd nm tx : ByteArray} {l : Lk} {k i am tk b next : Nat} {D : DU} {V : List (Nat × Nat)} {T : List ByteArray} {Wi : List Wn} {O : List Of} {v1 v2 v3 : Value}
    (h : BSt w cb kb ctr pb mb bb N sd nm tx l k i am tk b next D V T Wi O v1 v2 v3) (hN : N ≤ bb) : N ≤ w.heap.size := by
  obtain ⟨A, c, q1, _⟩ := h.bk
  have := q1.lt
  omega
/-- ahead of the loop: no rows but the one empty token -/
structure R3 (w : World) (kb pb N : Nat) (v1 v2 v3 : Value) : Prop where
  pin : Pin w kb pb N
  r1 : w.ownsRow N 45 27 v1 0 []
  r2 : w.ownsRow N 9 1 v2 1 [.string ByteArray.empty]
  r3 : w.ownsRow N 97 10 v3 0 []
theorem R3.bel {w w' : World} {kb pb N : Nat} {v1 v2 v3 : Value} (h : R3 w kb pb N v1 v2 v3) (hb : Below w.heap.size w w') : R3 w' kb pb N v1 v2 v3 := by
  have hc : Ch [] w w' := Ch.of_below hb []
  exact ⟨h.pin.ch hc (by simp), own_chK h.r1 hc (by simp), own_chK h.r2 hc (by simp), own_chK h.r3 hc (by simp)⟩
theorem R3.make {V : World} {kb pb : Nat} (hp : Pin V kb pb V.heap.size) : R3 (((V.alloc (.cells #[] 45)).alloc (.cells #[.string ByteArray.empty] 9)).alloc (.cells #[] 97)) kb pb V.heap.size (.slice (some ⟨V.heap.size, 0, none⟩) 0 0) (.slice (some ⟨V.heap.size + 1, 0, none⟩) 1 1) (.slice (some ⟨V.heap.size + 1 + 1, 0, none⟩) 0 0) := by
  have h1 : Blk (V.alloc (.cells #[] 45)) V.heap.size 45 #[] := Blk.new _ _ _
  have h2 : Blk ((V.alloc (.cells #[] 45)).alloc (.cells #[.string ByteArray.empty] 9)) (V.heap.size + 1) 9 #[.string ByteArray.empty] := Blk.newAt (by simp)
  have h3 : Blk (((V.alloc (.cells #[] 45)).alloc (.cells #[.string ByteArray.empty] 9)).alloc (.cells #[] 97)) (V.heap.size + 1 + 1) 97 #[] := Blk.newAt (by simp)
  have hc : Ch [] V (((V.alloc (.cells #[] 45)).alloc (.cells #[.string ByteArray.empty] 9)).alloc (.cells #[] 97)) := ((Ch.alloc [] _ _).trans (Ch.alloc [] _ _)).trans (Ch.alloc [] _ _)
  exact ⟨hp.ch hc (by simp), own_empty ((h1.alloc _).alloc _) (Nat.le_refl _), own_lit (h2.alloc _) (by omega) rfl (by decide), own_empty h3 (by omega)⟩
set_option maxRecDepth 100000 in
theorem lnew_own (ch client : ByteArray) (w : World) (h1 : ch.size = 16) (h2 : client.size = 16) :
    Calls Tryz.prog 31 #[.string ch, .string client] w fun e w' => ∃ b, e = .returned (.tuple #[.pointer (some ⟨b, 0, none⟩), .int .i64 0]) ∧ w.heap.size ≤ b ∧ (∀ base, BookOwn w' base b ch client 1 []) ∧ Below w.heap.size w w' := by
  have d1 : ((ch.size : Int) != 16) = false := by rw [h1]; rfl
  have d2 : ((client.size : Int) != 16) = false := by rw [h2]; rfl
  clear h1 h2
  go_enter Tryz.func31, Tryz.ntmps31
  go_wp2_with fail
  go_ret2
  exact ⟨_, rfl, Nat.le_refl _, fun base => ⟨none, 0, Blk.new _ _ _, own_nil0 _ _ _ _⟩, (Below.refl _ _).alloc (Nat.le_refl _) _⟩
theorem Tryz.infoOp' : (Tryz.prog.info? 45).map (fun i => (i.zero, i.size, i.bytes)) = some (some (.agg (opP 0 ByteArray.empty 0 ByteArray.empty)), 27, 296) := by kernel_rfl
theorem Tryz.infoWn' : (Tryz.prog.info? 97).map (fun i => (i.zero, i.size, i.bytes)) = some (some (.agg zWn.cs), 10, 112) := by kernel_rfl
end Go.Proofs.YtgnlakbmibkjgaaGreat
