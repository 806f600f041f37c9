/- The plain law of SdkBound: what is shown is worth at most what is bound. -/
import Derived.Test.YtgnlakbmibkjgaaGreatMgSdkB
import Derived.Test.YtgnlakbmibkjgaaGreatMgWorE
set_option linter.unusedVariables false
set_option linter.unusedSimpArgs false
namespace Go.Proofs.YtgnlakbmibkjgaaGreat
open Go.RowKit Go.Maps
theorem totI_nn : ∀ (l : List Int), (∀ x ∈ l, 0 ≤ x) → 0 ≤ totI l
  | [], _ => by simp [totI]
  | x :: r, h => by
    have h1 := h x (by simp)
    have h2 := totI_nn r (fun y hy => h y (by simp [hy]))
    simp only [totI]; omega
/-- entries are numbers -/
def NumsD (D : DU) : Prop := ∀ es, D = .map es → ∀ p ∈ es, 0 ≤ numD p.2
theorem sD_nn (left : Lit → Bool) (D : DU) (h : NumsD D) (hD : Tidy D) : 0 ≤ sD left D := by
  obtain ⟨es, rfl, _⟩ := hD
  show 0 ≤ totI _
  refine totI_nn _ (fun x hx => ?_)
  obtain ⟨p, hp, rfl⟩ := List.mem_map.1 hx
  exact h es rfl p (List.mem_filter.1 hp).1
/-- distinct entries add up to at most all of them -/
theorem some_le (D : DU) (hD : Tidy D) (h : NumsD D) : ∀ (l : List (Nat × Nat)) (left : Lit → Bool), (∀ x ∈ l, left (ku x.1) = true) → (l.map (·.1)).Nodup → (∀ x ∈ l, ∀ zd, D.atKey (ku x.1) zd = .lit (ku x.2)) → totI (l.map fun x => (x.2 : Int)) ≤ sD left D
  | [], left, _, _, _ => by simpa [totI] using sD_nn left D h hD
  | x :: r, left, h1, h2, h3 => by
    have hs := sD_step left D (ku x.1) (x.2 : Int) hD (ku_is _) (h1 x (by simp)) (h3 x (by simp))
    rw [List.map_cons, List.nodup_cons] at h2
    have ih := some_le D hD h r (fun z => left z && !z.sameKey (ku x.1)) (fun y hy => by
      have e1 := h1 y (by simp [hy])
      have e2 : (ku y.1).sameKey (ku x.1) = false := sameKey_ne (fun e => h2.1 (by rw [← ku_inj e]; exact List.mem_map.2 ⟨y, hy, rfl⟩))
      simp [e1, e2]) h2.2 (fun y hy => h3 y (by simp [hy]))
    rw [hs]
    simp only [List.map_cons, totI]
    omega
theorem OkTo.nodup {t : Tm} {l : List Wn} (h : OkTo t l l.length) : (sers l).Nodup := by
  rw [List.nodup_iff_pairwise_ne, List.pairwise_iff_getElem]
  intro i j hi hj hij e
  have hj' : j < l.length := by simpa [sers] using hj
  have hi' : i < l.length := by omega
  have hok := h j hj' hj'
  unfold facE at hok
  have hin : l[j].t.ser ∈ sers (l.take j) := by
    have e' : l[i].t.ser = l[j].t.ser := by simpa [sers] using e
    rw [← e']
    refine List.mem_map.2 ⟨l[i], ?_, rfl⟩
    exact List.mem_take_iff_getElem.2 ⟨i, by omega, rfl⟩
  split at hok
  · cases hok
  · first
      | cases hok
      | (rw [if_pos hin] at hok; cases hok)
/-- wins of different serials, all of them released, are worth at most all faces -/
theorem wins_le {t : Tm} {l : List Wn} {D : DU} (hD : Tidy D) (h : NumsD D) (hok : OkTo t l l.length) (hin : ∀ x ∈ l, ∀ zd, D.atKey (ku x.t.ser) zd = .lit (ku x.t.face)) : totI (fcI l) ≤ allD D := by
  have := some_le D hD h (l.map fun x => (x.t.ser, x.t.face)) (Maps.has D) (by
    intro x hx
    obtain ⟨y, hy, rfl⟩ := List.mem_map.1 hx
    exact has_true_of_atKey (hin y hy)) (by rw [List.map_map]; exact hok.nodup) (by
    intro x hx
    obtain ⟨y, hy, rfl⟩ := List.mem_map.1 hx
    exact hin y hy)
  rw [List.map_map] at this
  exact this
theorem itB_add (s : ByteArray) (a : Nat) : ∀ b, itB (itB s a) b = itB s (a + b)
  | 0 => rfl
  | b + 1 => by
    show nxtB (itB (itB s a) b) = nxtB (itB s (a + b))
    rw [itB_add s a b]
theorem tok_leads (seed : ByteArray) (n j : Nat) (h : j ≤ n) : itB (tokB seed n j) j = tokB seed n 0 := by
  unfold tokB
  rw [itB_add, show n - j + j = n - 0 by omega]
theorem cnt_tok {seed : ByteArray} {n j m : Nat} {b : Bool} (hj : j ≤ n) (h : CntP (tokB seed n 0) (tokB seed n j) n m b) : b = true ∧ m ≤ j := by
  obtain ⟨h1, h2, h3, h4⟩ := h
  have hl := tok_leads seed n j hj
  have hm : m ≤ j := by
    rcases Nat.lt_or_ge j m with h | h
    · exact absurd hl (h2 j h)
    · exact h
  refine ⟨?_, hm⟩
  rcases h4 with h | h
  · exact h
  · have : m = j := by omega
    subst this
    rw [h3]; exact decide_eq_true hl
/-- the token that is shown is worth at most the tokens that were released -/
theorem tok_le {seed : ByteArray} {t : Tm} {p : Pf} {z n tk : Nat} {f : Int} (ha : t.anchor = tokB seed n 0) (htn : t.tokens = n) (htk : tk ≤ n) (hu : tk * t.unit < 18446744073709551616) (hp : p.tok = ByteArray.empty ∨ ∃ j, j ≤ tk ∧ p.tok = tokB seed n j)
    (h : TokX t p z f) : f = 0 ∧ z ≤ tk * t.unit := by
  rcases h with ⟨_, rfl, rfl⟩ | ⟨h1, h2, _, _⟩ | ⟨h1, m, b, hc, hz, hf⟩
  · exact ⟨rfl, Nat.zero_le _⟩
  · rcases hp with hp | ⟨j, _, hp⟩
    · exact absurd hp h2
    · exact absurd (by rw [hp]; exact tokB_size _ _ _) h1
  · rcases hp with hp | ⟨j, hj, hp⟩
    · rw [hp] at h1; simp at h1
    · rw [ha, hp, htn] at hc
      obtain ⟨rfl, hm⟩ := cnt_tok (by omega) hc
      have hmu : m * t.unit ≤ tk * t.unit := Nat.mul_le_mul_right _ (by omega)
      have hlt : (m : Int) * (t.unit : Int) < 18446744073709551616 := by rw [← Int.natCast_mul]; omega
      rw [if_pos rfl] at hz hf
      unfold mulV at hz
      unfold mulE at hf
      rw [if_pos hlt] at hz hf
      refine ⟨hf, ?_⟩
      rw [← Int.natCast_mul] at hz
      omega
theorem totI_app (a : List Int) : ∀ b : List Int, totI (a ++ b) = totI a + totI b := by
  intro b
  induction a with
  | nil => simp [totI]
  | cons x r ih => simp only [List.cons_append, totI, ih]; omega
/-- WHAT IS SHOWN IS WORTH AT MOST WHAT IS BOUND, or it is shown twice -/
theorem shown_le {seed : ByteArray} {t : Tm} {p : Pf} {D : DU} {n am tk A b : Nat} {w w' : World} {e : Ending} (hD : Tidy D) (hn : NumsD D) (ha : t.anchor = tokB seed n 0) (htn : t.tokens = n) (htk : tk ≤ n)
    (hA : allD D = (A : Nat)) (hb : am + tk * t.unit + A = b) (hl : b < 18446744073709551616) (hr : rightB p = true) (hpd : paidB t p = true) (hpam : p.am ≤ am) (hpt : p.tok = ByteArray.empty ∨ ∃ j, j ≤ tk ∧ p.tok = tokB seed n j)
    (hw : ∀ x ∈ p.l, x.t.ch = t.chan ∧ wonE t.client x = 0 ∧ ∀ zd, D.atKey (ku x.t.ser) zd = .lit (ku x.t.face)) (h : WorR t p w e w') :
    Below w.heap.size w w' ∧ ∃ (v f : Int), e = .returned (.tuple #[.int .u64 v, .int .i64 f]) ∧ ((f = 0 ∧ 0 ≤ v ∧ v ≤ b) ∨ f = 7) := by
  obtain ⟨hbl, v, f, rfl, hc⟩ := h
  refine ⟨hbl, v, f, rfl, ?_⟩
  rcases hc with ⟨h1, _⟩ | ⟨_, hc⟩
  · rw [hr] at h1; cases h1
  rcases hc with ⟨h1, _⟩ | ⟨_, hc⟩
  · rw [hpd] at h1; cases h1
  rcases hc with ⟨z, hz, hf, _⟩ | ⟨z, hz, hc⟩
  · exact absurd (tok_le ha htn htk (by omega) hpt hz).1 hf
  have hzl := (tok_le ha htn htk (by omega) hpt hz).2
  rcases hc with ⟨⟨k, hk, _, hfe, hne⟩, _⟩ | ⟨hok, hv, hf⟩
  · right
    obtain ⟨q1, q2, _⟩ := hw _ (List.getElem_mem hk)
    rw [hfe] at hne ⊢
    unfold facE at hne ⊢
    rw [if_neg (by simpa using q1)] at hne ⊢
    split at hne
    · rename_i hin; rw [if_pos hin]
    · exact absurd q2 hne
  · left
    have hwl := wins_le hD hn hok (fun x hx => (hw x hx).2.2)
    have hnn : 0 ≤ totI (fcI p.l) := totI_nn _ (fun x hx => by obtain ⟨y, _, rfl⟩ := List.mem_map.1 hx; omega)
    have ht : totI (fcI p.l ++ [(p.am : Int), (z : Int)]) = totI (fcI p.l) + p.am + z := by rw [totI_app]; simp only [totI]; omega
    have hlt : totI (fcI p.l ++ [(p.am : Int), (z : Int)]) < 18446744073709551616 := by rw [ht]; omega
    unfold totV at hv
    unfold totE at hf
    rw [if_pos hlt] at hv hf
    exact ⟨hf, by omega, by omega⟩
end Go.Proofs.YtgnlakbmibkjgaaGreat
