/- payword.walk, as New uses it. payword: New, Anchor, Token, Len, Value. payword.New. Maps of numbers to numbers: what they add up to, ranged over in any order. -/
import Derived.Outline
import Derived.Deep.RegionLaw
import Derived.Maps.RangeWalk
import Derived.Maps.OwnSet
import Derived.Test.YtdoebmikjgmnaaaGreatMgG10
set_option linter.unusedVariables false
set_option linter.unusedSimpArgs false
namespace Go.Proofs.YtdoebmikjgmnaaaGreat
open Go.RowKit
set_option maxRecDepth 100000 in
set_option maxHeartbeats 1000000 in
theorem pwalk_new (s : ByteArray) (n g p q : Nat) (w : World) (hn : n ≤ 4096) (hs : s.size = 16) (h1 : Blk w p 87 #[.slice (some ⟨g, 0, none⟩) (n + 1) (n + 1)]) (h2 : Blk w q 3 #[.int .i64 n]) (h3 : Blk w g 9 (tK s n 0)) :
    Calls Tryz.prog 71 #[.string s, .int .i64 n, .func (Fn.func 72) #[] #[.pointer (some ⟨p, 0, none⟩), .pointer (some ⟨q, 0, none⟩)]] w fun e w' => e = .returned (.tuple #[]) ∧ Blk w' g 9 (tK s n (n + 1)) ∧ Ch [g] w w' := by
  have hp : p ≠ g := h1.ne_ h3 (by decide)
  have hq : q ≠ g := h2.ne_ h3 (by decide)
  have H1 := Lib.hid h1
  have H2 := Lib.hid h2
  have H3 := Lib.hid h3
  clear h1 h2 h3
  go_enter Tryz.func71, Tryz.ntmps71
  go_wp2
  go_loopw [0, 6] (fun t i wr => ∃ k : Nat, k ≤ n ∧ i = .int .i64 k ∧ t = .string (itB s k) ∧ Hid (Blk wr g 9 (tK s n k)) ∧ Hid (Ch [g] w wr)) (fun _ i _ => n + 1 - (intOf i).toNat)
  case atStart => exact ⟨0, Nat.zero_le _, rfl, rfl, H3, Ch.refl _ _⟩
  case round =>
    obtain ⟨k, hk, rfl, rfl, HG, HC⟩ := hrel
    have hz : (itB s k).size ≤ 1000000 := by rw [itB_size s hs]; omega
    have HI : Hid (nxtB (itB s k) = itB s (k + 1)) := rfl
    have HL := Lib.hid (plam_any s n k g p q wr hn hk (Blk.ch H1.out HC.out (by simpa using hp)) (Blk.ch H2.out HC.out (by simpa using hq)) HG.out)
    have HX := fun W => Lib.hid (pnext_any (itB s k) W hz)
    generalize itB s k = t at *
    go_wp2_with fail
    refine HL.out.mono ?_
    rintro e w1 ⟨rfl, hg1, hc1⟩
    have HG1 := Lib.hid hg1
    have HC1 : Hid (Ch [g] w w1) := HC.out.trans hc1
    clear hg1 hc1
    by_cases hlt : k < n
    · have d1 : decide ((k : Int) < n) = true := decide_eq_true (by omega)
      go_wp2_with fail
      refine (HX _).out.mono ?_
      rintro e w2 ⟨rfl, hb2⟩
      have HG2 := Lib.hid (HG1.out.bel hb2)
      have HC2 : Hid (Ch [g] w w2) := HC1.out.trans (Ch.of_below hb2 _)
      clear hb2
      go_wp2_with fail
      go_roundw
      case rel => exact ⟨k + 1, by omega, by go_num, by rw [HI.out], HG2, HC2⟩
      case measure => simp [intOf]; omega
    · have d1 : decide ((k : Int) < n) = false := decide_eq_false (by omega)
      obtain rfl : k = n := by omega
      go_wp2
      go_end0
      exact ⟨rfl, HG1.out, HC1.out⟩
end Go.Proofs.YtdoebmikjgmnaaaGreat
namespace Go.Proofs.YtdoebmikjgmnaaaGreat
open Go.RowKit
def startB (seed : ByteArray) : ByteArray := tagB wSeed [seed]
theorem startB_size (seed : ByteArray) : (startB seed).size = 16 := tagB_size _ _
/-- the token behind so many -/
def tokB (seed : ByteArray) (n j : Nat) : ByteArray := itB (startB seed) (n - j)
theorem tokB_size (seed : ByteArray) (n j : Nat) : (tokB seed n j).size = 16 := itB_size _ (startB_size _) _
def ChainAt (w : World) (cb : Nat) (seed : ByteArray) (n : Nat) : Prop :=
  ∃ g, Blk w cb 150 #[.slice (some ⟨g, 0, none⟩) (n + 1) (n + 1)] ∧ Blk w g 9 (tK (startB seed) n (n + 1))
theorem ChainAt.bel {w w' : World} {cb n : Nat} {seed : ByteArray} (h : ChainAt w cb seed n) (hb : Below w.heap.size w w') : ChainAt w' cb seed n := by
  obtain ⟨g, h1, h2⟩ := h
  exact ⟨g, h1.bel hb, h2.bel hb⟩
theorem ChainAt.ch {w w' : World} {cb n b : Nat} {seed : ByteArray} {t : TypeId} {cs : Array Value} (h : ChainAt w cb seed n) (hc : Ch [b] w w') (hb : Blk w b t cs) (ht : t ≠ 150) (ht' : t ≠ 9) : ChainAt w' cb seed n := by
  obtain ⟨g, h1, h2⟩ := h
  exact ⟨g, Blk.ch h1 hc (by simpa using h1.ne_ hb ht.symm), Blk.ch h2 hc (by simpa using h2.ne_ hb ht'.symm)⟩
theorem ptok_get (seed : ByteArray) (n j : Nat) (h : j ≤ n) : (tK (startB seed) n (n + 1))[j]? = some (.string (tokB seed n j)) := by
  rw [tK_get _ _ _ _ (by omega), if_pos (by omega)]; rfl
theorem panchor_any (cb n : Nat) (seed : ByteArray) (w : World) (h : ChainAt w cb seed n) :
    Calls Tryz.prog 33 #[.pointer (some ⟨cb, 0, none⟩)] w fun e w' => e = .returned (.string (tokB seed n 0)) ∧ w = w' := by
  obtain ⟨g, h1, h2⟩ := h
  have c1 := h1.cell 0
  have c2 := h2.cell 0
  rw [ptok_get _ _ _ (Nat.zero_le _)] at c2
  simp at c1
  clear h1 h2
  go_enter Tryz.func33, Tryz.ntmps33
  go_wp2
  go_ret
  exact ⟨rfl, rfl⟩
theorem pvalue_any (n u : Nat) (w : World) (hn : n ≤ 9223372036854775807) (hu : u < 18446744073709551616) :
    Calls Tryz.prog 100 #[.int .i64 n, .int .u64 u] w fun e w' => e = .returned (.tuple #[.int .u64 (mulV n u), .int .i64 (mulE n u)]) ∧ w' = w := by
  have h1 := mul_any n u w (by omega) (by omega) (by omega) (by omega)
  generalize mulV n u = v at *
  generalize mulE n u = f at *
  have H1 := Lib.hid h1
  clear h1
  go_enter Tryz.func100, Tryz.ntmps100
  go_wp2_with fail
  refine (of_any n w hn).mono ?_
  rintro e w1 ⟨rfl, rfl⟩
  go_wp2_with fail
  refine H1.out.mono ?_
  rintro e w1 ⟨rfl, rfl⟩
  go_wp2
  go_ret2
  exact ⟨rfl, rfl⟩
end Go.Proofs.YtdoebmikjgmnaaaGreat
namespace Go.Proofs.YtdoebmikjgmnaaaGreat
open Go.RowKit
set_option maxRecDepth 100000 in
set_option maxHeartbeats 2000000 in
theorem pnew_any (seed : ByteArray) (n : Nat) (w : World) (h1 : 1 ≤ n) (hn : n ≤ 4096) (hs : seed.size ≤ 1000000) :
    Calls Tryz.prog 32 #[.string seed, .int .i64 n] w fun e w' => ∃ cb, e = .returned (.tuple #[.pointer (some ⟨cb, 0, none⟩), .int .i64 0]) ∧ w.heap.size ≤ cb ∧ ChainAt w' cb seed n ∧ Below w.heap.size w w' := by
  obtain ⟨i0, hi, hz0, hz1, hz2⟩ := info_parts Tryz.infoStr
  have hmk : (Instr.makeSlice 87 (.int .i64 ((n : Int) + 1)) (.int .i64 ((n : Int) + 1))).run Tryz.prog (w.alloc (.cells #[.int .i64 n] 3)) = .ok (.slice (some ⟨w.heap.size + 1, 0, none⟩) (n + 1) (n + 1)) ((w.alloc (.cells #[.int .i64 n] 3)).alloc (.cells (tK (startB seed) n 0) 9)) := by
    rw [run_make (w.alloc (.cells #[.int .i64 n] 3)) 87 9 i0 _ Tryz.underlying87 hi hz0 .i64 .i64 _ _ (by omega) (Int.le_refl _) (by rw [hz2]; omega) (by omega), hz1, ← tK_made (startB seed) n]
    simp
  have hmf : ∀ (fn : Fn) (first cap : Array Value) (w : World), (Instr.makeFunc fn first cap).run Tryz.prog w = .ok (.func fn first cap) w := fun _ _ _ _ => rfl
  clear hi hz0 hz1 hz2
  have hsz := startB_size seed
  have HT := fun W g hg => Lib.hid (tag1 wSeed seed W g hg (by decide) hs)
  have d1 : decide ((n : Int) < 1) = false := decide_eq_false (by omega)
  have d2 : decide ((4096 : Int) < n) = false := decide_eq_false (by omega)
  have htk := tK_size (startB seed) n 0
  unfold ChainAt
  change ∀ (W : World) (g : Nat), g = W.heap.size → Hid (Calls Tryz.prog 43 #[.string ⟨#[115, 101, 101, 100]⟩, .slice (some ⟨g, 0, none⟩) 1 1] (W.alloc (.cells #[.string seed] 9)) fun e w' => e = .returned (.string (startB seed)) ∧ Below W.heap.size W w') at HT
  generalize startB seed = st at *
  have HW := fun g p q W => Lib.hid (pwalk_new st n g p q W hn hsz)
  generalize tK st n 0 = t0 at *
  generalize tK st n (n + 1) = t1 at *
  go_enter Tryz.func32, Tryz.ntmps32
  go_wp2_with fail
  have HN0 : Hid (Blk (((w.alloc (.cells #[.int .i64 n] 3)).alloc (.cells t0 9)).alloc (.cells #[.slice (some ⟨w.heap.size + 1, 0, none⟩) (n + 1) (n + 1)] 87)) w.heap.size 3 #[.int .i64 n]) := ((Blk.new _ _ _).alloc _).alloc _
  have HG0 : Hid (Blk (((w.alloc (.cells #[.int .i64 n] 3)).alloc (.cells t0 9)).alloc (.cells #[.slice (some ⟨w.heap.size + 1, 0, none⟩) (n + 1) (n + 1)] 87)) (w.heap.size + 1) 9 t0) := (Blk.newAt (by simp)).alloc _
  have HP0 : Hid (Blk (((w.alloc (.cells #[.int .i64 n] 3)).alloc (.cells t0 9)).alloc (.cells #[.slice (some ⟨w.heap.size + 1, 0, none⟩) (n + 1) (n + 1)] 87)) (w.heap.size + 2) 87 #[.slice (some ⟨w.heap.size + 1, 0, none⟩) (n + 1) (n + 1)]) := Blk.newAt (by simp)
  have HB0 : Hid (Below w.heap.size w (((w.alloc (.cells #[.int .i64 n] 3)).alloc (.cells t0 9)).alloc (.cells #[.slice (some ⟨w.heap.size + 1, 0, none⟩) (n + 1) (n + 1)] 87))) := (((Below.refl _ _).alloc (Nat.le_refl _) _).alloc (by simp) _).alloc (by simp; omega) _
  obtain ⟨WX, hWX⟩ : ∃ WX, (((w.alloc (.cells #[.int .i64 n] 3)).alloc (.cells t0 9)).alloc (.cells #[.slice (some ⟨w.heap.size + 1, 0, none⟩) (n + 1) (n + 1)] 87)) = WX := ⟨_, rfl⟩
  rw [hWX] at HN0 HG0 HP0 HB0
  change Code.wp _ _ _ _ (((w.alloc (.cells #[.int .i64 n] 3)).alloc (.cells t0 9)).alloc (.cells #[.slice (some ⟨w.heap.size + 1, 0, none⟩) (n + 1) (n + 1)] 87))
  rw [hWX]
  clear hWX hmk
  have cx : WX.cell? ⟨w.heap.size, 0, none⟩ = some (.int .i64 n) := HN0.out.cell 0
  have hlt := HN0.out.lt
  have cxa : (WX.alloc (.cells #[.string seed] 9)).cell? ⟨w.heap.size, 0, none⟩ = some (.int .i64 n) := (World.cell?_alloc_lt WX _ ⟨w.heap.size, 0, none⟩ hlt).trans cx
  go_region_law (first
    | (go_simp; go_at_call 43; refine (HT (World.drew WX) _ rfl).out.mono ?_; rintro e wa ⟨rfl, hba⟩; have HBA : Hid (Below WX.heap.size WX wa) := ((Below.refl WX.heap.size WX).drew).trans hba; have ca : wa.cell? ⟨w.heap.size, 0, none⟩ = some (.int .i64 n) := (HN0.out.bel HBA.out).cell 0; clear hba)
    | (go_simp; go_at_call 71; refine ((HW (w.heap.size + 1) (w.heap.size + 2) w.heap.size _).out (HP0.out.bel HBA.out) (HN0.out.bel HBA.out) (HG0.out.bel HBA.out)).mono ?_; rintro e wb ⟨rfl, hg1, hc1⟩; have HGB := Lib.hid hg1; have HCB := Lib.hid hc1; have HPB : Hid (Blk wb (w.heap.size + 2) 87 #[.slice (some ⟨w.heap.size + 1, 0, none⟩) (n + 1) (n + 1)]) := Blk.ch (HP0.out.bel HBA.out) hc1 (by simp); clear hg1 hc1))
  all_goals
    have cp := HPB.out.cell 0
    simp at cp
    go_wp2_with fail
    go_ret2
    exact ⟨_, rfl, by have := HCB.out.size; have := HBA.out.size; have := HB0.out.size; simp; omega, ⟨_, Blk.new _ _ _, HGB.out.alloc _⟩, ((HB0.out.trans (HBA.out.mono HB0.out.size)).trans (HCB.out.below (by have := HBA.out.size; have := HB0.out.size; omega) (by simp))).alloc (by have := HCB.out.size; have := HBA.out.size; have := HB0.out.size; omega) _⟩
end Go.Proofs.YtdoebmikjgmnaaaGreat
namespace Go.Proofs.YtdoebmikjgmnaaaGreat
open Go.RowKit Go.Maps
theorem lawU : Keyed Tryz.prog 28 := int_keyed Tryz.underlying28
theorem zeroU (w : World) : (zeroValue 28).run Tryz.prog w = .ok (.int .u64 0) w := by kernel_rfl
abbrev DU := DataW Unit
def ku (n : Nat) : Lit := .int .u64 (n : Int)
theorem ku_wf (n : Nat) (h : n < 18446744073709551616) : (Lit.int .u64 (n : Int)).wf = true := by
  simp [Lit.wf, IntKind.min, IntKind.max, IntKind.signed, IntKind.bits]; omega
theorem ku_key (n : Nat) (h : n < 18446744073709551616) : keyOf Tryz.prog 28 (.int .u64 (n : Int)) = some (ku n) := keyOf_int_mk Tryz.underlying28 (ku_wf n h)
theorem ku_is (n : Nat) : WideAt.IsKeyLit (ku n) := trivial
noncomputable abbrev elU : Value → Option (DU × List MemPlace) := plainElem Tryz.prog 28
theorem elU_mk (n : Nat) (h : n < 18446744073709551616) : elU (.int .u64 (n : Int)) = some (.lit (ku n), []) := plainElem_int Tryz.underlying28 (ku_wf n h)
def numD : DU → Int
  | .lit (.int _ c) => c
  | _ => 0
/-- what the entries still to come add up to -/
def sD (left : Lit → Bool) : DU → Int
  | .map es => totI ((es.filter fun p => left p.1).map fun p => numD p.2)
  | _ => 0
/-- what all add up to -/
def allD (D : DU) : Int := sD (Maps.has D) D
theorem sL_step (left : Lit → Bool) (k : Lit) (hk : WideAt.IsKeyLit k) (hl : left k = true) : ∀ (es : List (Lit × DU)), es.Pairwise (fun p q => p.1 ≠ q.1) → ∀ p ∈ es, p.1 = k →
    totI ((es.filter fun p => left p.1).map fun p => numD p.2) = numD p.2 + totI ((es.filter fun p => left p.1 && !p.1.sameKey k).map fun p => numD p.2)
  | [], _, p, hp, _ => by simp at hp
  | q :: r, hap, p, hp, e => by
    obtain ⟨h1, h2⟩ := List.pairwise_cons.1 hap
    rcases List.mem_cons.1 hp with rfl | hpr
    · have hs : p.1.sameKey k = true := by rw [e]; exact WideAt.sameKey_self hk
      have e1 : (r.filter fun z => left z.1 && !z.1.sameKey k) = r.filter fun z => left z.1 := List.filter_congr (fun z hz => by
        have : z.1.sameKey k = false := sameKey_ne (fun e' => h1 z hz (by rw [e, e']))
        simp [this])
      have hlp : left p.1 = true := by rw [e]; exact hl
      simp only [List.filter_cons, hlp, hs, Bool.not_true, Bool.and_false, if_true, Bool.false_eq_true, if_false, e1, List.map_cons, totI]
    · have hq : q.1.sameKey k = false := sameKey_ne (fun e' => h1 p hpr (by rw [e, e']))
      have ih := sL_step left k hk hl r h2 p hpr e
      cases hlq : left q.1 with
      | true =>
        simp only [List.filter_cons, hlq, hq, Bool.not_false, Bool.and_true, if_true, List.map_cons, totI]
        rw [ih]; omega
      | false =>
        simp only [List.filter_cons, hlq, Bool.false_and, Bool.false_eq_true, if_false]
        exact ih
theorem sD_step (left : Lit → Bool) (D : DU) (k : Lit) (c : Int) (hD : Tidy D) (hk : WideAt.IsKeyLit k) (hl : left k = true) (hat : ∀ zd, D.atKey k zd = .lit (.int .u64 c)) : sD left D = c + sD (fun z => left z && !z.sameKey k) D := by
  obtain ⟨es, rfl, hap⟩ := hD
  have hh := has_true_of_atKey hat
  rw [has_eq, List.any_eq_true] at hh
  obtain ⟨p, hp, hs⟩ := hh
  have e := WideAt.sameKey_eq hs
  have e2 := (WideAt.atKey_mem .nil hk hap (show (k, p.2) ∈ es from e ▸ hp)).symm.trans (hat .nil)
  show totI _ = _ + totI _
  rw [sL_step left k hk hl es hap p hp e, e2]; rfl
theorem sD_end (left : Lit → Bool) (D : DU) (hl : ∀ kl, left kl = false) : sD left D = 0 := by
  cases D with
  | map es =>
    show totI ((es.filter fun p => left p.1).map fun p => numD p.2) = 0
    rw [List.filter_eq_nil_iff.2 (by simp [hl])]; rfl
  | _ => rfl
theorem allD_eq (es : List (Lit × DU)) (hk : ∀ p ∈ es, WideAt.IsKeyLit p.1) : allD (.map es) = totI (es.map fun p => numD p.2) := by
  show totI ((es.filter fun p => Maps.has (.map es) p.1).map fun p => numD p.2) = _
  have e : (es.filter fun p => Maps.has (.map es) p.1) = es := List.filter_eq_self.2 (fun (p : Lit × DU) hp => (List.any_eq_true.2 ⟨p, hp, WideAt.sameKey_self (hk p hp)⟩ : Maps.has (DataW.map es) p.1 = true))
  rw [e]
theorem tot_insert (x : Lit × DU) : ∀ (l : List (Lit × DU)), totI ((DataW.insert x l).map fun p => numD p.2) = numD x.2 + totI (l.map fun p => numD p.2)
  | [] => rfl
  | y :: r => by
    unfold DataW.insert
    split
    · rfl
    · simp only [List.map_cons, totI]
      rw [tot_insert x r]; omega
theorem mem_insert' (x : Lit × DU) : ∀ (l : List (Lit × DU)) (p : Lit × DU), p ∈ DataW.insert x l → p = x ∨ p ∈ l
  | [], p, h => by simpa [DataW.insert] using h
  | y :: r, p, h => by
    unfold DataW.insert at h
    split at h
    · simpa using h
    · rcases List.mem_cons.1 h with rfl | h
      · exact .inr (by simp)
      · rcases mem_insert' x r p h with h | h
        · exact .inl h
        · exact .inr (by simp [h])
/-- a key that is not there, put -/
theorem allD_put (D : DU) (n c : Nat) (hD : Tidy D) (hk : ∀ es, D = .map es → ∀ p ∈ es, WideAt.IsKeyLit p.1) (hn : Maps.has D (ku n) = false) : allD (D.put (ku n) (.lit (ku c))) = allD D + c := by
  obtain ⟨es, rfl, hap⟩ := hD
  have hke := hk es rfl
  have hf : (es.filter fun p => !p.1.sameKey (ku n)) = es := List.filter_eq_self.2 (fun p hp => by
    rw [has_eq, List.any_eq_false] at hn
    have := hn p hp
    simpa using this)
  show allD (.map (DataW.insert (ku n, .lit (ku c)) (es.filter fun p => !p.1.sameKey (ku n)))) = _
  rw [hf, allD_eq _ hke, allD_eq _ (fun p hp => by
    rcases mem_insert' _ _ _ hp with rfl | h
    · exact ku_is n
    · exact hke p h), tot_insert]
  show (c : Int) + _ = _
  omega
/-- block b is a map of numbers that reads as D -/
def MpU (w : World) (b : Nat) (D : DU) : Prop := w.ownsMap Tryz.prog 28 elU b (Maps.size D) D
section
variable {w w' : World} {b n : Nat} {D : DU}
theorem MpU.tight (h : w.ownsMap Tryz.prog 28 elU b n D) : MpU w b D := by
  obtain ⟨es, clock, hb, F, hs, hD⟩ := h
  refine ⟨es, clock, hb, F, ?_, hD⟩
  rw [hD]
  simp [Maps.size, length_sorted]
theorem MpU.new (w : World) : MpU (w.alloc (.map #[] 0)) w.heap.size (.map []) := World.ownsMap_made _ _ _ _
theorem MpU.lt (h : MpU w b D) : b < w.heap.size := World.ownsMap.lt h
theorem MpU.tidy (h : MpU w b D) : Tidy D := World.ownsMap.tidy h lawU
theorem MpU.keys (h : MpU w b D) : ∀ es, D = .map es → ∀ p ∈ es, WideAt.IsKeyLit p.1 := fun es he => by
  obtain ⟨es', he', _, hk⟩ := World.ownsMap.entries h lawU
  rw [he] at he'
  injection he' with he'
  subst he'
  exact hk
theorem MpU.ch {S : List Nat} (h : MpU w b D) (hc : Ch S w w') (hn : b ∉ S) : MpU w' b D := Ch.map hc h hn
theorem MpU.ne_blk {g : Nat} {t : TypeId} {cs : Array Value} (h : MpU w b D) (hg : Blk w g t cs) : b ≠ g := by
  rintro rfl
  obtain ⟨es, clock, hb, _⟩ := h
  unfold Blk at hg
  rw [hb] at hg; cases hg
theorem MpU.sum_put (h : MpU w b D) (n c : Nat) (hn : Maps.has D (ku n) = false) : allD (D.put (ku n) (.lit (ku c))) = allD D + c := allD_put D n c h.tidy h.keys hn
theorem MpU.size_put (h : MpU w b D) (n c : Nat) (hn : Maps.has D (ku n) = false) : Maps.size (D.put (ku n) (.lit (ku c))) = Maps.size D + 1 := by
  rw [Maps.size_put h.tidy, hn]; rfl
end
end Go.Proofs.YtdoebmikjgmnaaaGreat
