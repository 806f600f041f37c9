/- utxo: Copy: another set with the same outputs. utxo.New of outputs that may not be. law11's fixed calls: contracts. A region that draws its order: its head, which only reads and calls what leaves the old as it was, ends ahead of all the rest. -/
import Derived.Test.YtjcinncphffgaaaGreatShelfUC
import Derived.Outline
import Derived.StillTail
import Derived.Test.YtjcinncphffgaaaGreatMhG28
import Derived.Test.YtjcinncphffgaaaGreatMhG29
import Derived.Test.YtjcinncphffgaaaGreatMhG32
import Derived.Test.YtjcinncphffgaaaGreatMhG34
import Derived.Test.YtjcinncphffgaaaGreatMhG38
import Derived.Test.YtjcinncphffgaaaGreatMhG39
import Derived.Test.YtjcinncphffgaaaGreatMhNum
import Derived.Test.YtjcinncphffgaaaGreatMhSgA
set_option linter.unusedVariables false
set_option linter.unusedSimpArgs false
namespace Go.Proofs.YtjcinncphffgaaaGreat
open Go.RowKit Go.Maps Go.WideMaps Go.Shelf
end Go.Proofs.YtjcinncphffgaaaGreat
namespace Go.Proofs.YtjcinncphffgaaaGreat
open Go.RowKit Go.Maps
end Go.Proofs.YtjcinncphffgaaaGreat
namespace Go.Proofs.YtjcinncphffgaaaGreat
open Go.RowKit Go.Maps
def L11 : List En := [l0C, l1C]
def O11 : List Ou := [payO 50 rG, payO 60 rC]
theorem lk11' : lkT1 rC rG 100 20 9 = L11 := lk11
theorem lkx11 : lkX1 rC rG 100 20 9 = tx11 := by unfold lkX1; rw [if_neg (by decide)]; rfl
theorem lkok11 : LkOk1 rC rG 100 20 9 := ⟨rC_size, rG_size, by decide, by decide, by decide, by decide, by decide⟩
theorem tx11_size : tx11.size = 16 := lkx_size _ _ _ _ _
theorem locked11 (w : World) : Calls Tryz.prog 37 #[.string rC, .string rG, .int .u64 100, .int .u64 20, .int .i64 9] w fun e w' => ∃ sb b A c, e = .returned (.tuple #[.pointer (some ⟨sb, 0, none⟩), .slice A 2 c]) ∧ w.heap.size ≤ sb ∧ w.heap.size ≤ b ∧ SetAt w' sb b L11 ∧ Sl w' w'.heap.size 11 En.cl A L11 ∧ Below w.heap.size w w' := by
  have h := locked1_any rC rG 100 20 9 w lkok11
  rw [lk11'] at h
  exact h
/-- the claim that is signed, of any voucher's proof -/
def claim11 (A : Option Addr) (c : Nat) (B : Option Addr) (d : Nat) (p : Pf) (sig : ByteArray) : Txn := spendT A c L11 2 B O11 d p sig
def back11 (A : Option Addr) (c : Nat) (B : Option Addr) (d : Nat) (sig : ByteArray) : Txn := spendT A c L11 3 B [payO 110 rC] d noPf sig
def sv60 : ByteArray := signB sdC 1 0 (vouchB ch11 60)
theorem sv60_size : sv60.size ≤ 400 := by unfold sv60; rw [signB_size sdC (by decide)]; decide
section
variable {A B : Option Addr} {c d : Nat} {sig : ByteArray}
theorem claim11_right (hs : SrtE L11) (hok : ∀ e ∈ L11, e.okp) (v : Nat) (hsg : sig.size ≤ 400) : rightT (claim11 A c B d (vouP v sv60) sig) = true := by
  have hi : InsOn (claim11 A c B d (vouP v sv60) sig) L11 2 := insOn_spend _ _ _ _ _ _ _ _ _ hsg
  refine hi.right hs hok ⟨by decide, by decide⟩ (by decide) ⟨show 1 ≤ O11.length by decide, show O11.length ≤ 4 by decide⟩ ?_ (right_vou v sv60 sv60_size)
  intro o ho
  have ho' : o ∈ O11 := ho
  rcases List.mem_cons.1 ho' with rfl | ho'
  · exact fits_payO (by decide) rG_size
  · rw [List.mem_singleton.1 ho']; exact fits_payO (by decide) rC_size
theorem claim11_core (hs : SrtE L11) (hok : ∀ e ∈ L11, e.okp) (v : Nat) (hsg : sig.size ≤ 400) : coreX (claim11 A c B d (vouP v sv60) sig) = coreOn L11 2 O11 :=
  (insOn_spend A c L11 2 B O11 d (vouP v sv60) sig hsg).core (claim11_right hs hok v hsg)
theorem claim11_ok (hs : SrtE L11) (hok : ∀ e ∈ L11, e.okp) (hsg : sig.size ≤ 400) (hv : verB rG (coreOn L11 2 O11) sig = true) (h : Int) : checkE L11 (claim11 A c B d (vouP 60 sv60) sig) h = 0 := by
  have hk := lk11'
  have := (claim_ok lkok11 (by rw [hk]; exact hs) (by rw [hk]; exact hok) (t := claim11 A c B d (vouP 60 sv60) sig) (v := 60) (sgv := sv60) (by rw [hk]; exact insOn_spend A c L11 2 B O11 d (vouP 60 sv60) sig hsg) rfl (by rw [lkx11]; exact po11.symm) (by decide) (by decide) (by decide) sv60_size (by rw [lkx11]; exact ver_60)
    (fun i hi => by rw [hk]; obtain ⟨e, _, rfl⟩ := List.mem_map.1 hi; exact hv) h).2
  rwa [hk] at this
theorem back11_late (hs : SrtE L11) (hok : ∀ e ∈ L11, e.okp) (hsg : sig.size ≤ 400) : checkE L11 (back11 A c B d sig) 8 = 12 := by
  have hk := lk11'
  have := back_late lkok11 (by rw [hk]; exact hs) (by rw [hk]; exact hok) (t := back11 A c B d sig) (by rw [hk]; exact insOn_spend A c L11 3 B [payO 110 rC] d noPf sig hsg) rfl rfl (by decide) (hh := 8) (by decide)
  rwa [hk] at this
theorem back11_ok (hs : SrtE L11) (hok : ∀ e ∈ L11, e.okp) (hsg : sig.size ≤ 400) (hv : verB rC (coreOn L11 3 [payO 110 rC]) sig = true) : checkE L11 (back11 A c B d sig) 9 = 0 := by
  have hk := lk11'
  have := back_ok lkok11 (by rw [hk]; exact hs) (by rw [hk]; exact hok) (t := back11 A c B d sig) (by rw [hk]; exact insOn_spend A c L11 3 B [payO 110 rC] d noPf sig hsg) rfl rfl (by decide) (by decide) (hh := 9) (by decide)
    (fun i hi => by rw [hk]; obtain ⟨e, _, rfl⟩ := List.mem_map.1 hi; exact hv)
  rwa [hk] at this
end
end Go.Proofs.YtjcinncphffgaaaGreat
namespace Go.Proofs.YtjcinncphffgaaaGreat
open Go.RowKit
/-- all the rest waits for all of the head -/
def tailB (md : Region.Mode) (ops : Array Oper) (n : Nat) : Bool :=
  Region.sinkB md ops n && ((List.range ops.size).all fun t => decide (t ≤ n) || (List.range t).any fun j => decide (n ≤ j) && Region.waitsFor md ops t j)
/-- the head looks back alone -/
def headB (ops : Array Oper) (n : Nat) : Bool := (List.range n).all fun i => match ops[i]? with
  | some o => (o.after.all fun e => decide (e.on < i)) && (match o.guard with | some (g, _) => decide (g < n) | none => true)
  | none => false
section
variable {P : Program} {ops ops1 : Array Oper} {md : Region.Mode} {C : World → Prop} {n : Nat}
theorem getD_tf {l : Array Bool} {i : Nat} (h : i < l.size) : l.getD i true = l.getD i false := by simp [h]
theorem blocked {listed : Array Bool} (ht : tailB md ops n = true) (hn : n < ops.size) (inv : HeadInv md ops n listed) :
    ∀ (d i : Nat), n - i = d → i < n → listed.getD i true = false → ∀ t, n ≤ t → t ∉ Region.ready md ops listed := by
  simp only [tailB, Bool.and_eq_true] at ht
  obtain ⟨hs, hc⟩ := ht
  intro d
  induction d using Nat.strongRecOn with
  | _ d ih =>
    intro i hd hi hun t htn hr
    obtain ⟨_, ot, hot, hall⟩ := mem_ready.1 hr
    have htlt : t < ops.size := (Array.getElem?_eq_some_iff.1 hot).1
    by_cases he : t = n
    · subst he
      have h1 := List.all_eq_true.1 hs i (List.mem_range.2 hi)
      obtain ⟨j, hj, hw⟩ := List.any_eq_true.1 h1
      simp only [Bool.and_eq_true, decide_eq_true_eq] at hw
      obtain ⟨oj, hoj, e, hem, hb, heo⟩ := Region.waitsFor_spec hw.2
      have hjn : j ≤ t := by have := List.mem_range.1 hj; omega
      by_cases hjt : j = t
      · subst hjt
        obtain rfl : oj = ot := Option.some.inj (hoj.symm.trans hot)
        have := hall e hem hb
        rw [heo] at this
        have h2 := getD_both hun
        rw [h2] at this; cases this
      · have hjl : listed.getD j true = false := by
          cases hq : listed.getD j true with
          | false => rfl
          | true =>
            have hjs : j < listed.size := by rw [inv.size]; omega
            rw [getD_tf hjs] at hq
            have := inv.closed j oj hoj hq e hem hb
            rw [heo] at this
            have h2 := getD_both hun
            rw [h2] at this; cases this
        exact ih (t - j) (by omega) j rfl (by omega) hjl t (Nat.le_refl _) hr
    · have h1 := List.all_eq_true.1 hc t (List.mem_range.2 htlt)
      simp only [Bool.or_eq_true, decide_eq_true_eq] at h1
      rcases h1 with h1 | h1
      · omega
      · obtain ⟨j, hj, hw⟩ := List.any_eq_true.1 h1
        simp only [Bool.and_eq_true, decide_eq_true_eq] at hw
        obtain ⟨oj, hoj, e, hem, hb, heo⟩ := Region.waitsFor_spec hw.2
        obtain rfl : oj = ot := Option.some.inj (hoj.symm.trans hot)
        have := hall e hem hb
        rw [heo] at this
        have hjt := List.mem_range.1 hj
        have h2 := getD_both (inv.tail j hw.1 (by omega))
        rw [h2] at this; cases this
theorem head_i {i : Nat} {o : Oper} (hh : headB ops n = true) (hi : i < n) (ho : ops[i]? = some o) : (∀ e ∈ o.after, e.on < i) ∧ (∀ g b, o.guard = some (g, b) → g < n) := by
  have h1 := List.all_eq_true.1 hh i (List.mem_range.2 hi)
  rw [ho] at h1
  simp only [Bool.and_eq_true] at h1
  obtain ⟨h2, h3⟩ := h1
  refine ⟨fun e he => of_decide_eq_true (Array.all_eq_true_iff_forall_mem.1 h2 e he), fun g b hg => ?_⟩
  rw [hg] at h3
  exact of_decide_eq_true h3
theorem wanted_same {o : Oper} {tmps : Array Value} (hp : ∀ i, i < n → ops[i]? = ops1[i]?) (hg : ∀ g b, o.guard = some (g, b) → g < n) : Region.wanted o (yielded ops tmps) = Region.wanted o (yielded ops1 tmps) := by
  unfold Region.wanted
  cases h : o.guard with
  | none => rfl
  | some p =>
    obtain ⟨g, b⟩ := p
    have := hp g (hg g b h)
    simp only [yielded, this]
/-- the first n are listed -/
def firstN (m n : Nat) : Array Bool := Array.ofFn (n := m) fun i => decide (i.val < n)
theorem wpAny_head {g : Nat} {Qm : Act → Prop} {Q' : Exit → Act → World → Prop} (ht : tailB md ops n = true) (hn : n < ops.size) (hh : headB ops n = true) (h1 : ops1.size = n) (hp : ∀ i, i < n → ops[i]? = ops1[i]?)
    (hL : ∀ a w, C w → Qm a → wpAny P md ops Q' g (firstN ops.size n) a w) :
    ∀ (fuel : Nat) (listed listed1 : Array Bool) (a : Act) (w : World), C w → HeadInv md ops n listed → listed1.size = n → (∀ i, i < n → listed.getD i true = listed1.getD i true) → listed1.toList.count false = fuel →
      wpAnyQ P md ops1 C Qm fuel listed1 a → wpAny P md ops Q' (fuel + g) listed a w
  | 0, listed, listed1, a, w, hC, inv, hs1, hag, hcnt, h => by
    have hall : ∀ i, i < n → listed1.getD i true = true := fun i hi => by
      cases hq : listed1.getD i true with
      | true => rfl
      | false =>
        have hi1 : i < listed1.size := by omega
        have : listed1[i] = false := by simpa [hi1] using hq
        have hm : false ∈ listed1.toList := by rw [← this]; exact Array.getElem_mem_toList hi1
        have := List.count_pos_iff.2 hm
        omega
    have hfull : listed = firstN ops.size n := by
      apply Array.ext
      · rw [inv.size]; simp [firstN]
      · intro i hi hi2
        have e1 : listed[i] = listed.getD i true := by simp [hi]
        rw [e1]
        simp only [firstN, Array.getElem_ofFn]
        by_cases hin : i < n
        · rw [hag i hin, hall i hin, decide_eq_true hin]
        · rw [inv.tail i (by omega) (by rw [← inv.size]; exact hi), decide_eq_false hin]
    rw [hfull, Nat.zero_add]
    exact hL a w hC h.2
  | fuel + 1, listed, listed1, a, w, hC, inv, hs1, hag, hcnt, h => by
    have hex : ∃ i, i < n ∧ listed.getD i true = false := by
      have hm : false ∈ listed1.toList := List.count_pos_iff.1 (by omega)
      obtain ⟨i, hi, he⟩ := List.getElem_of_mem hm
      have hi' : i < listed1.size := by simpa using hi
      refine ⟨i, by omega, ?_⟩
      rw [hag i (by omega)]
      have : listed1[i] = false := by simpa using he
      simp [hi', this]
    obtain ⟨i, hi, hu⟩ := hex
    rw [show fuel + 1 + g = (fuel + g) + 1 by omega]
    refine ⟨fun hr0 => ?_, fun j hj => ?_⟩
    · exfalso
      have hmin : ∀ (d i : Nat), i = d → i < n → listed.getD i true = false → False := by
        intro d
        induction d using Nat.strongRecOn with
        | _ d ih =>
          intro i hid hi hu
          have hio : i < ops.size := by omega
          have hnr : i ∉ Region.ready md ops listed := by rw [hr0]; simp
          apply hnr
          rw [mem_ready]
          refine ⟨hu, ops[i], Array.getElem?_eq_getElem hio, fun e he _ => ?_⟩
          have hlt := (head_i hh hi (Array.getElem?_eq_getElem hio)).1 e he
          cases hq : listed.getD e.on false with
          | true => rfl
          | false =>
            exfalso
            exact ih e.on (by omega) e.on rfl (by omega) (by rw [getD_tf (by rw [inv.size]; omega)]; exact hq)
      exact hmin i i rfl hi hu
    · have hjn : j < n := by
        by_cases q : j < n
        · exact q
        · exact absurd hj (blocked ht hn inv (n - i) i rfl hi hu j (by omega))
      obtain ⟨hju, o, ho, hall⟩ := mem_ready.1 hj
      have ho1 : ops1[j]? = some o := by rw [← hp j hjn]; exact ho
      obtain ⟨hb1, hb2⟩ := head_i hh hjn ho
      have hj1 : j ∈ Region.ready md ops1 listed1 := by
        rw [mem_ready]
        refine ⟨by rw [← hag j hjn]; exact hju, o, ho1, fun e he hb => ?_⟩
        have he2 := hb1 e he
        have := hall e he hb
        rw [← getD_tf (by rw [inv.size]; omega), hag e.on (by omega), getD_tf (by omega)] at this
        exact this
      have hq := h.2 j hj1
      have hset : (listed1.setIfInBounds j true).toList.count false = fuel := by
        have hjs : j < listed1.size := by omega
        have hv : listed1[j] = false := by
          have := hju
          rw [hag j hjn] at this
          simpa [hjs] using this
        rw [Array.toList_setIfInBounds, List.count_set (by simpa using hjs)]
        simp only [Array.getElem_toList, hv]
        simp at hcnt ⊢
        omega
      have hwp := wpOp_of_qOp (P := P) (ops := ops1) (Q' := Q') (K' := wpAny P md ops Q' (fuel + g) (listed.setIfInBounds j true)) hC (fun a' w' hC' hk => wpAny_head ht hn hh h1 hp hL fuel _ (listed1.setIfInBounds j true) a' w' hC' (inv.set hj hjn) (by simpa using hs1) (fun k hk2 => by
          by_cases hkj : j = k
          · subst hkj
            have e1 : j < listed.size := by rw [inv.size]; omega
            have e2 : j < listed1.size := by omega
            simp [e1, e2]
          · rw [getD_set_ne true hkj, getD_set_ne true hkj]; exact hag k hk2) hset hk) hq
      unfold wpOp at hwp ⊢
      rw [ho1] at hwp
      rw [ho]
      simp only [wanted_same (ops := ops) (ops1 := ops1) hp hb2] at hwp ⊢
      exact hwp
/-- the region: its head by one walk, then the rest -/
theorem wp_region_head {id : Nat} {Q : Exit → Act → World → Prop} {a : Act} {w : World} (n : Nat) {l l1 : List Oper} (e : l.take n = l1) (hm : P.follows .mixedOrders = true) (hB : Region.lexB .any l1.toArray = true)
    (ht : tailB .any l.toArray n = true) (hn : n < l.toArray.size) (hh : headB l.toArray n = true)
    (h : wpQuiet P l1.toArray (fun w' => ∃ p : Regrown, w' = Go.Sort.grow (redrawn w p.d) p.os) (fun a' => ∀ w', (∃ p : Regrown, w' = Go.Sort.grow (redrawn w p.d) p.os) → wpAny P .any l.toArray Q (l.toArray.size - n) (firstN l.toArray.size n) a' w') l1 a) :
    (Code.region id l.toArray true).wp P Q a w := by
  simp only [Region.lexB, Bool.and_eq_true] at hB
  refine wp_region_any hm ?_
  have hl1 : l1.length = n := by rw [← e, List.length_take]; simp at hn; omega
  have hq := wpAnyQ_lex (P := P) (C := fun w' => ∃ p : Regrown, w' = Go.Sort.grow (redrawn w p.d) p.os) (md := .any) hB.1 l1 0 (Array.replicate l1.toArray.size false) a (by simp) (by simpa using hB.2) h
  have hp : ∀ i, i < n → l.toArray[i]? = l1.toArray[i]? := fun i hi => by
    have h2 : (l.take n)[i]? = l1[i]? := by rw [e]
    rw [List.getElem?_take, if_pos hi] at h2
    simpa using h2
  have := wpAny_head (g := l.toArray.size - n) (Q' := Q) ht hn hh (by simpa using hl1) hp (fun a' w' hC hk => hk w' hC) l1.length (Array.replicate l.toArray.size false) (Array.replicate l1.toArray.size false) a { w with drawn := w.drawn + 1 } ⟨⟨w.drawn + 1, #[]⟩, by rw [Go.Sort.grow_empty]; rfl⟩
    ⟨by simp, (fun j oj _ hl => by rw [getD_replicate_false] at hl; cases hl), fun t _ ht => getD_in (by simpa using ht) (getD_replicate_false _ _)⟩ (by simpa using hl1) (fun i hi => by
      have e1 : i < l.length := by simp at hn; omega
      have e2 : i < l1.length := by omega
      simp [e1, e2]) (by simp) hq
  rwa [hl1, show n + (l.toArray.size - n) = l.toArray.size by omega] at this
/-- what is left of a region, by one walk -/
theorem wpAny_lexrest {Q : Exit → Act → World → Prop} {a : Act} {w : World} (k : Nat) {f : Nat} {l l2 : List Oper} {listed : Array Bool} (e : l.drop k = l2) (hf : l2.length = f) (hs : Region.noSelect l.toArray = true) (hB : Region.lexFrom .any l.toArray l2.length k listed = true)
    (h : wpQuiet P l.toArray (fun w' => ∃ p : Regrown, w' = Go.Sort.grow (redrawn w p.d) p.os) (fun a' => ∀ w', (∃ p : Regrown, w' = Go.Sort.grow (redrawn w p.d) p.os) → Q .normal a' w') l2 a) : wpAny P .any l.toArray Q f listed a w := by
  subst hf
  refine wpAny_of_quiet (C := fun w' => ∃ p : Regrown, w' = Go.Sort.grow (redrawn w p.d) p.os) (Q := fun a' => ∀ w', (∃ p : Regrown, w' = Go.Sort.grow (redrawn w p.d) p.os) → Q .normal a' w') (fun _ w' hw' h => h w' hw') _ _ _ _ ⟨⟨w.drawn, #[]⟩, by rw [Go.Sort.grow_empty]; rfl⟩ ?_
  exact wpAnyQ_lex hs l2 k listed a (fun j => by rw [← e, List.getElem?_drop]; simp) hB h
end
end Go.Proofs.YtjcinncphffgaaaGreat
