/- A set of numbers in memory; note.Proof.faces. -/
import Derived.Outline
import Derived.Maps.Views
import Derived.Test.YtgnlakbmibkjgaaGreatMgSdkA
import Derived.Test.YtgnlakbmibkjgaaGreatMgWorB
set_option linter.unusedVariables false
set_option linter.unusedSimpArgs false
namespace Go.Proofs.YtgnlakbmibkjgaaGreat
open Go.RowKit Go.Maps
noncomputable abbrev elB : Value → Option (DU × List MemPlace) := plainElem Tryz.prog 4
theorem elB_mk (b : Bool) : elB (.bool b) = some (.lit (.bool b), []) := plainElem_bool Tryz.underlying4 b
theorem isMap_put {H : Type} {D : DataW H} (h : IsMap D) (k : Lit) (d : DataW H) : IsMap (D.put k d) := by
  obtain ⟨es, rfl⟩ := h
  exact ⟨_, rfl⟩
theorem plainElem_bool_inv {H : Type} {P : Program} {e : TypeId} (he : P.underlying e = some .bool) {v : Value} {z : DataW H × List MemPlace} (h : plainElem P e v = some z) : ∃ b, v = .bool b ∧ z = (.lit (.bool b), []) := by
  unfold plainElem at h
  rw [he] at h
  cases v <;> simp at h
  exact ⟨_, rfl, h.symm⟩
set_option maxRecDepth 100000 in
theorem elB_inv {v : Value} {b : Bool} {ps : List MemPlace} (h : elB v = some (.lit (.bool b), ps)) : v = .bool b := by
  obtain ⟨c, rfl, hz⟩ := plainElem_bool_inv (P := Tryz.prog) (e := 4) Tryz.underlying4 h
  have hz := congrArg Prod.fst hz
  injection hz with hz
  injection hz with hz
  rw [hz]
theorem zeroBo (w : World) : (zeroValue 4).run Tryz.prog w = .ok (.bool false) w := by kernel_rfl
def setD (l : List Nat) : DU := setOf (.lit (.bool true)) (l.map ku)
theorem ku_inj {a b : Nat} (h : ku a = ku b) : a = b := by
  unfold ku at h
  injection h with _ h
  omega
theorem setD_key (l : List Nat) : ∀ x ∈ l.map ku, WideAt.IsKeyLit x := by
  intro x hx
  obtain ⟨n, _, rfl⟩ := List.mem_map.1 hx
  exact ku_is n
theorem setD_has (l : List Nat) (n : Nat) : Maps.has (setD l) (ku n) = decide (n ∈ l) := by
  unfold setD
  rw [has_setOf _ _ _ (setD_key l), Bool.eq_iff_iff, List.any_eq_true, decide_eq_true_iff]
  constructor
  · rintro ⟨x, hx, hs⟩
    obtain ⟨m, hm, rfl⟩ := List.mem_map.1 hx
    rw [← ku_inj (WideAt.sameKey_eq hs)]; exact hm
  · intro h
    exact ⟨ku n, List.mem_map.2 ⟨n, h, rfl⟩, WideAt.sameKey_self (ku_is n)⟩
theorem setD_snoc (l : List Nat) (n : Nat) : setD (l ++ [n]) = (setD l).put (ku n) (.lit (.bool true)) := by
  unfold setD
  rw [List.map_append, List.map_cons, List.map_nil, setOf_snoc]
theorem fold_at (n : Nat) (z : DU) : ∀ (l : List Nat) (D : DU), IsMap D → (n ∈ l ∨ D.atKey (ku n) z = .lit (.bool true)) → (l.foldl (fun m x => m.put (ku x) (.lit (.bool true))) D).atKey (ku n) z = .lit (.bool true)
  | [], D, _, h => by
    rcases h with h | h
    · cases h
    · exact h
  | x :: r, D, hD, h => by
    show (r.foldl _ (D.put (ku x) (.lit (.bool true)))).atKey (ku n) z = _
    refine fold_at n z r _ (isMap_put hD _ _) ?_
    by_cases e : x = n
    · subst e
      exact .inr (atKey_put_same hD (ku_is _) _ _)
    · rcases h with h | h
      · rcases List.mem_cons.1 h with h | h
        · exact absurd h.symm e
        · exact .inl h
      · exact .inr (by rw [atKey_put_other (fun e' => e (ku_inj e').symm)]; exact h)
theorem setD_at (n : Nat) (l : List Nat) (h : n ∈ l) (z : DU) : (setD l).atKey (ku n) z = .lit (.bool true) := by
  unfold setD setOf
  rw [List.foldl_map]
  exact fold_at n z l _ isMap_empty (.inl h)
/-- block b is a set of numbers -/
def StU (w : World) (b : Nat) (l : List Nat) : Prop := w.ownsMap Tryz.prog 27 elB b l.length (setD l)
theorem StU.new (w : World) : StU (w.alloc (.map #[] 0)) w.heap.size [] := World.ownsMap_made _ _ _ _
theorem StU.ch {S : List Nat} {w w' : World} {b : Nat} {l : List Nat} (h : StU w b l) (hc : Ch S w w') (hn : b ∉ S) : StU w' b l := hc.map h hn
theorem StU.look {w : World} {b : Nat} {l : List Nat} (h : StU w b l) (n : Nat) (hn : n < 18446744073709551616) : (Instr.lookup 312 (.map (some b)) (.int .u64 (n : Int)) false).run Tryz.prog w = .ok (.bool (decide (n ∈ l))) w := by
  obtain ⟨v, ps, hrun, hv⟩ := World.ownsMap.lookup h lawU Tryz.underlying312 (zeroBo w) (elB_mk false) (ku_key n hn)
  by_cases hm : n ∈ l
  · rw [setD_at n l hm] at hv
    rw [hrun, elB_inv hv, decide_eq_true hm]
  · rw [atKey_of_not_has (by rw [setD_has, decide_eq_false hm])] at hv
    rw [hrun, elB_inv hv, decide_eq_false hm]
theorem StU.put {w : World} {b : Nat} {l : List Nat} (h : StU w b l) (n : Nat) (hn : n < 18446744073709551616) (hl : l.length < maxLen) : ∃ w', (Instr.mapUpdate 312 (.map (some b)) (.int .u64 (n : Int)) (.bool true)).run Tryz.prog w = .ok () w' ∧ StU w' b (l ++ [n]) ∧ Ch [b] w w' := by
  obtain ⟨w', hrun, h1, h2⟩ := World.ownsMap.update h lawU Tryz.underlying312 hl (ku_key n hn) (elB_mk true)
  refine ⟨w', hrun, ?_, Ch.of_grown h2⟩
  unfold StU
  rw [setD_snoc, List.length_append]
  exact h1
end Go.Proofs.YtgnlakbmibkjgaaGreat
