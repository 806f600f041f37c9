/- sdk: the client laid open behind any calls: just what it released. -/
import Derived.Test.YtgnlakbmibkjgaaGreatMgBndA
import Derived.Test.YtgnlakbmibkjgaaGreatMgSdkC
set_option linter.unusedVariables false
set_option linter.unusedSimpArgs false
namespace Go.Proofs.YtgnlakbmibkjgaaGreat
open Go.RowKit Go.Maps
/-- the client behind any calls: the voucher's amount, the tokens, the tickets' faces -/
structure Cbd (w : World) (cb kb ctr pb mb : Nat) (seed : ByteArray) (h n : Nat) (tx : ByteArray) (out : Nat) (l : Lk) (i am tk : Nat) (D : DU) (b z : Nat) : Prop where
  cin : CIn w cb kb ctr pb mb seed h n i tx out l am tk D
  all : ∃ A : Nat, allD D = (A : Nat) ∧ am + tk * l.unit + A = b
  num : NumsD D
  tkn : tk ≤ n
  sz : Maps.size D ≤ z
  bd : b ≤ l.am
  le : i ≤ 2 ^ h
theorem nums_put {D : DU} (hD : Tidy D) (h : NumsD D) (n c : Nat) : NumsD (D.put (ku n) (.lit (ku c))) := by
  obtain ⟨es, rfl, _⟩ := hD
  intro es' he p hp
  have he' : DataW.map (DataW.insert (ku n, .lit (ku c)) (es.filter fun p => !p.1.sameKey (ku n))) = DataW.map es' := he
  injection he' with he'
  subst he'
  rcases mem_insert' _ _ _ hp with rfl | hp
  · show (0 : Int) ≤ (c : Int); omega
  · exact h es rfl p (List.mem_filter.1 hp).1
theorem at_put_new {D : DU} (hD : Tidy D) (n c : Nat) : ∀ zd, (D.put (ku n) (.lit (ku c))).atKey (ku n) zd = .lit (ku c) := fun zd => by
  obtain ⟨es, rfl, _⟩ := hD
  exact Maps.atKey_put_same ⟨es, rfl⟩ (ku_is n) _ zd
theorem at_put_old {D : DU} (n c k v : Nat) (hn : Maps.has D (ku n) = false) (h : ∀ zd, D.atKey (ku k) zd = .lit (ku v)) : ∀ zd, (D.put (ku n) (.lit (ku c))).atKey (ku k) zd = .lit (ku v) := fun zd => by
  have hne : ku k ≠ ku n := fun e => by
    have := has_true_of_atKey (h)
    rw [e, hn] at this; cases this
  rw [Maps.atKey_put_other hne]
  exact h zd
variable {w : World} {cb kb ctr pb mb h n i out am tk b z : Nat} {seed tx : ByteArray} {l : Lk} {D : DU}
theorem Cbd.bel {w' : World} (k : Cbd w cb kb ctr pb mb seed h n tx out l i am tk D b z) (hb : Below w.heap.size w w') : Cbd w' cb kb ctr pb mb seed h n tx out l i am tk D b z := ⟨k.cin.bel hb, k.all, k.num, k.tkn, k.sz, k.bd, k.le⟩
theorem Cbd.more (k : Cbd w cb kb ctr pb mb seed h n tx out l i am tk D b z) {z' : Nat} (hz : z ≤ z') : Cbd w cb kb ctr pb mb seed h n tx out l i am tk D b z' := ⟨k.cin, k.all, k.num, k.tkn, Nat.le_trans k.sz hz, k.bd, k.le⟩
theorem Cbd.st (k : Cbd w cb kb ctr pb mb seed h n tx out l i am tk D b z) : Cst w cb kb ctr pb mb seed h n tx out l i b z := by
  obtain ⟨A, a1, a2⟩ := k.all
  exact ⟨⟨am, tk, A, D, k.cin, a1, a2, k.tkn, k.sz⟩, k.bd, k.le⟩
theorem Cbd.chO {w' : World} {g : Nat} {t : TypeId} {cs : Array Value} (k : Cbd w cb kb ctr pb mb seed h n tx out l i am tk D b z) (hc : Ch [g] w w') (hg : Blk w g t cs) (t1 : t ≠ 143) (t2 : t ≠ 149) (t3 : t ≠ 271) (t4 : t ≠ 9) (t5 : t ≠ 278) : Cbd w' cb kb ctr pb mb seed h n tx out l i am tk D b z :=
  ⟨k.cin.chO hc rfl hg t1 t2 t3 t4 t5, k.all, k.num, k.tkn, k.sz, k.bd, k.le⟩
theorem pay_bd (x : Nat) (k : Cbd w cb kb ctr pb mb seed h n tx out l i am tk D b z) (hx : x ≤ 1000000) (hl : l.ok) (hl6 : l.am ≤ 1000000) (hn : n ≤ 4096) (hz : z ≤ 1000) (hh : h ≤ 4) (hs : seed.size ≤ 1000000) (ho : out < 256) (hxx : tx.size ≤ 1000000) :
    Calls Tryz.prog 16 #[.pointer (some ⟨cb, 0, none⟩), .int .u64 x] w fun e w' => ∃ op f i' am' b', e = .returned (.tuple #[.agg op, .int .i64 f]) ∧ Cbd w' cb kb ctr pb mb seed h n tx out l i' am' tk D b' z ∧ Ch [cb, ctr, mb] w w' ∧ am ≤ am' ∧
      ((f ≠ 0 ∧ op = opP 0 ByteArray.empty 0 ByteArray.empty) ∨ (f = 0 ∧ 0 < am' ∧ ∃ j, j < 2 ^ h ∧ op = opP 2 (nameB tx out) am' (signB seed h j (vouchB (nameB tx out) am')))) := by
  have KK : ∀ w', Below w.heap.size w w' → Cbd w' cb kb ctr pb mb seed h n tx out l i am tk D b z := fun w' hb => k.bel hb
  obtain ⟨k1, ⟨A, k2, k3⟩, kn, k4, k5, k6, k7⟩ := k
  have h16 : 2 ^ h ≤ 16 := Nat.pow_le_pow_right (by omega) hh
  rcases Nat.eq_zero_or_pos x with rfl | hx0
  · refine (spay_zero k1.at_ (by omega)).mono ?_
    rintro e w' ⟨rfl, hb⟩
    exact ⟨_, 11, i, am, b, rfl, KK _ hb, Ch.of_below hb _, Nat.le_refl _, .inl ⟨by decide, rfl⟩⟩
  by_cases hr : b + x ≤ l.am
  · have hR := room_yes (am := am + x) (tk := tk) (u := l.unit) k2 (b := b + x) (by omega) hr hl.am.2
    by_cases hi : i < 2 ^ h
    · refine (spay_ok x (am + x) k1 hl (by omega) (by omega) (by omega) hx0 rfl (by omega) hR hh hi hs ho hxx).mono ?_
      rintro e w' ⟨rfl, hk, hc⟩
      exact ⟨_, 0, i + 1, am + x, b + x, rfl, ⟨hk, ⟨A, k2, by omega⟩, kn, k4, k5, hr, by omega⟩, hc.mono (by simp <;> omega), by omega, .inr ⟨rfl, by omega, i, hi, rfl⟩⟩
    · refine (spay_used x (am + x) k1 hl (by omega) (by omega) (by omega) hx0 rfl (by omega) hR hh (by omega) (by omega) ho hxx).mono ?_
      rintro e w' ⟨rfl, hb⟩
      exact ⟨_, 14, i, am, b, rfl, KK _ hb, Ch.of_below hb _, Nat.le_refl _, .inl ⟨by decide, rfl⟩⟩
  · have hR := room_no (am := am + x) (tk := tk) (u := l.unit) (lam := l.am) k2 (b := b + x) (by omega) (by omega)
    refine (spay_full x k1.at_ hl (by omega) (by omega) (by omega) hx0 (by omega) hR).mono ?_
    rintro e w' ⟨rfl, hb⟩
    exact ⟨_, 9, i, am, b, rfl, KK _ hb, Ch.of_below hb _, Nat.le_refl _, .inl ⟨by decide, rfl⟩⟩
theorem give_bd (x : Nat) (k : Cbd w cb kb ctr pb mb seed h n tx out l i am tk D b z) (hx : x ≤ 1000000) (hl : l.ok) (hl6 : l.am ≤ 1000000) (hn : n ≤ 4096) (hz : z ≤ 1000) (ho : out < 256) (hxx : tx.size ≤ 1000000) :
    Calls Tryz.prog 17 #[.pointer (some ⟨cb, 0, none⟩), .int .i64 x] w fun e w' => ∃ op f tk' b', e = .returned (.tuple #[.agg op, .int .i64 f]) ∧ Cbd w' cb kb ctr pb mb seed h n tx out l i am tk' D b' z ∧ Ch [cb, ctr, mb] w w' ∧ tk ≤ tk' ∧
      ((f ≠ 0 ∧ op = opP 0 ByteArray.empty 0 ByteArray.empty) ∨ (f = 0 ∧ op = opP 3 (nameB tx out) 0 (tokB seed n tk'))) := by
  have KK : ∀ w', Below w.heap.size w w' → Cbd w' cb kb ctr pb mb seed h n tx out l i am tk D b z := fun w' hb => k.bel hb
  obtain ⟨k1, ⟨A, k2, k3⟩, kn, k4, k5, k6, k7⟩ := k
  by_cases hx1 : (x : Int) < 1
  · refine (sgive_low x k1 hx1).mono ?_
    rintro e w' ⟨rfl, hb⟩
    exact ⟨_, 1, tk, b, rfl, KK _ hb, Ch.of_below hb _, Nat.le_refl _, .inl ⟨by decide, rfl⟩⟩
  by_cases hx2 : (n : Int) - tk < x
  · refine (sgive_high x k1 hn k4 hx1 hx2).mono ?_
    rintro e w' ⟨rfl, hb⟩
    exact ⟨_, 1, tk, b, rfl, KK _ hb, Ch.of_below hb _, Nat.le_refl _, .inl ⟨by decide, rfl⟩⟩
  have hm : (tk + x) * l.unit = tk * l.unit + x * l.unit := Nat.add_mul ..
  by_cases hr : b + x * l.unit ≤ l.am
  · have hR := room_yes (am := am) (tk := tk + x) (u := l.unit) k2 (b := b + x * l.unit) (by omega) hr hl.am.2
    refine (sgive_ok x (tk + x) k1 hl (by omega) (by omega) hn (by omega) (by omega) (by omega) ho hxx hR).mono ?_
    rintro e w' ⟨rfl, hk, hc⟩
    exact ⟨_, 0, tk + x, b + x * l.unit, rfl, ⟨hk, ⟨A, k2, by omega⟩, kn, by omega, k5, hr, k7⟩, hc.mono (by simp <;> omega), by omega, .inr ⟨rfl, rfl⟩⟩
  · have hR := room_no (am := am) (tk := tk + x) (u := l.unit) (lam := l.am) k2 (b := b + x * l.unit) (by omega) (by omega)
    refine (sgive_full x (tk + x) k1 hl (by omega) (by omega) hn (by omega) (by omega) (by omega) hR).mono ?_
    rintro e w' ⟨rfl, hb⟩
    exact ⟨_, 9, tk, b, rfl, KK _ hb, Ch.of_below hb _, Nat.le_refl _, .inl ⟨by decide, rfl⟩⟩
/-- what stands in the map behind a ticket: what stood there, and the ticket's face -/
def DGrow (D D' : DU) (f : Int) (o : Of) : Prop := (f ≠ 0 ∧ D' = D) ∨ (f = 0 ∧ Maps.has D (ku o.ser) = false ∧ D' = D.put (ku o.ser) (.lit (ku o.face)))
theorem DGrow.old {D D' : DU} {f : Int} {o : Of} (g : DGrow D D' f o) {k v : Nat} (h : ∀ zd, D.atKey (ku k) zd = .lit (ku v)) : ∀ zd, D'.atKey (ku k) zd = .lit (ku v) := by
  rcases g with ⟨_, rfl⟩ | ⟨_, hn, rfl⟩
  · exact h
  · exact at_put_old _ _ _ _ hn h
theorem take_bd (o : Of) (cl : Nat) (k : Cbd w cb kb ctr pb mb seed h n tx out l i am tk D b z) (hk : o.ok) (hch : o.ch = nameB tx out) (hcom : o.com.size = 16) (hcl : cl < 18446744073709551616) (hl : l.ok) (hl6 : l.am ≤ 1000000) (hn : n ≤ 4096) (hz : z ≤ 900) (hh : h ≤ 4) (hs : seed.size ≤ 1000000) (ho : out < 256) (hxx : tx.size ≤ 1000000) :
    Calls Tryz.prog 18 #[.pointer (some ⟨cb, 0, none⟩), .agg o.cs, .int .u64 cl] w fun e w' => ∃ op f i' D' b', e = .returned (.tuple #[.agg op, .int .i64 f]) ∧ Cbd w' cb kb ctr pb mb seed h n tx out l i' am tk D' b' (z + 1) ∧ Ch [cb, ctr, mb] w w' ∧ DGrow D D' f o ∧
      ((f ≠ 0 ∧ op = opP 0 ByteArray.empty 0 ByteArray.empty) ∨ (f = 0 ∧ (∀ zd, D'.atKey (ku o.ser) zd = .lit (ku o.face)) ∧ ∃ j, j < 2 ^ h ∧ op = opT (nameB tx out) ((o.tk cl).signed (signB seed h j (textB (o.tk cl)))))) := by
  have KK : ∀ w', Below w.heap.size w w' → Cbd w' cb kb ctr pb mb seed h n tx out l i am tk D b (z + 1) := fun w' hb => (k.bel hb).more (by omega)
  obtain ⟨k1, ⟨A, k2, k3⟩, kn, k4, k5, k6, k7⟩ := k
  have h16 : 2 ^ h ≤ 16 := Nat.pow_le_pow_right (by omega) hh
  have hface := hk.face
  cases had : Maps.has D (ku o.ser) with
  | true =>
    refine (stake_had o cl k1 hk hch ho hxx had).mono ?_
    rintro e w' ⟨rfl, hb⟩
    exact ⟨_, 7, i, D, b, rfl, KK _ hb, Ch.of_below hb _, .inl ⟨by decide, rfl⟩, .inl ⟨by decide, rfl⟩⟩
  | false =>
    by_cases hr : b + o.face ≤ l.am
    · have hR : ∀ D' : DU, allD D' = allD D + o.face → roomE am tk l.unit l.am D' = 0 := fun D' hd => room_yes (am := am) (tk := tk) (u := l.unit) (A := A + o.face) (b := b + o.face) (by rw [hd, k2]; simp) (by omega) hr hl.am.2
      by_cases hi : i < 2 ^ h
      · refine (stake_ok o cl k1 hk hch hcom hcl ho hxx had hl (by omega) (by omega) (by omega) hR hh hi hs).mono ?_
        rintro e w' ⟨rfl, hk', hc⟩
        have e1 := k1.2.2.2.sum_put o.ser o.face had
        have e2 := k1.2.2.2.size_put o.ser o.face had
        have ht := k1.2.2.2.tidy
        exact ⟨_, 0, i + 1, _, b + o.face, rfl, ⟨hk', ⟨A + o.face, by rw [e1, k2]; simp, by omega⟩, nums_put ht kn _ _, k4, by omega, hr, by omega⟩, hc.mono (by simp <;> omega), .inr ⟨rfl, had, rfl⟩, .inr ⟨rfl, at_put_new ht _ _, i, hi, rfl⟩⟩
      · refine (stake_used o cl k1 hk hch hcom hcl ho hxx had hl (by omega) (by omega) (by omega) hR hh (by omega) (by omega)).mono ?_
        rintro e w' ⟨rfl, hb⟩
        exact ⟨_, 14, i, D, b, rfl, KK _ hb, Ch.of_below hb _, .inl ⟨by decide, rfl⟩, .inl ⟨by decide, rfl⟩⟩
    · have hR : ∀ D' : DU, allD D' = allD D + o.face → roomE am tk l.unit l.am D' = 9 := fun D' hd => room_no (am := am) (tk := tk) (u := l.unit) (lam := l.am) (A := A + o.face) (b := b + o.face) (by rw [hd, k2]; simp) (by omega) (by omega)
      refine (stake_full o cl k1 hk hch ho hxx had hl (by omega) (by omega) (by omega) hR).mono ?_
      rintro e w' ⟨rfl, hb⟩
      exact ⟨_, 9, i, D, b, rfl, KK _ hb, Ch.of_below hb _, .inl ⟨by decide, rfl⟩, .inl ⟨by decide, rfl⟩⟩
/-- a ticket that was taken, to an offer that all win, wins -/
theorem win_ok {seed salt : ByteArray} {h j : Nat} (o : Of) (cl dr : Nat) (hh : h ≤ 4) (hj : j < 2 ^ h) (hw : o.wins = 1) (hm : o.many = 1) (hd : dr = 0) (hch : o.ch.size = 16) (hcom : o.com = comB salt dr) :
    wonE (rootB seed h) ⟨(o.tk cl).signed (signB seed h j (textB (o.tk cl))), salt, dr⟩ = 0 := by
  subst hd
  have hz := signB_size seed hj (textB (o.tk cl))
  have h1 : tmayB ((o.tk cl).signed (signB seed h j (textB (o.tk cl)))) = true := by
    have e1 : ((o.tk cl).signed (signB seed h j (textB (o.tk cl)))).ch.size = 16 := hch
    have e2 : ((o.tk cl).signed (signB seed h j (textB (o.tk cl)))).com.size = 16 := by show o.com.size = 16; rw [hcom]; exact comB_size _ _
    have e3 : ((o.tk cl).signed (signB seed h j (textB (o.tk cl)))).sig.size ≤ 400 := by show (signB seed h j (textB (o.tk cl))).size ≤ 400; omega
    unfold tmayB
    rw [e1, e2, decide_eq_true e3]; rfl
  have h2 : winsOk 0 o.wins o.many = true := by rw [hw, hm]; rfl
  have h3 : verB (rootB seed h) (textB ((o.tk cl).signed (signB seed h j (textB (o.tk cl))))) ((o.tk cl).signed (signB seed h j (textB (o.tk cl)))).sig = true := ver_sign seed hh hj (textB (o.tk cl))
  have h4 : winsB 0 cl o.wins o.many = true := by rw [hw, hm]; exact decide_eq_true (by rw [Nat.mod_one]; omega)
  unfold wonE
  show (if tmayB ((o.tk cl).signed (signB seed h j (textB (o.tk cl)))) && winsOk 0 o.wins o.many then if verB (rootB seed h) (textB ((o.tk cl).signed (signB seed h j (textB (o.tk cl))))) ((o.tk cl).signed (signB seed h j (textB (o.tk cl)))).sig then if o.com = comB salt 0 then if winsB 0 cl o.wins o.many then 0 else 13 else 4 else 10 else _) = (0 : Int)
  rw [h1, h2, h3, h4, if_pos hcom]
  rfl
end Go.Proofs.YtgnlakbmibkjgaaGreat
