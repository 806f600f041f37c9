/- utxo: Lock: where the channel of a name is. utxo: makes: what is wrong with a new output. utxo: Check: what is wrong with a transaction at a height: words. utxo.New. -/
import Derived.Outline
import Derived.Deep.RegionHeld3
import Derived.Test.YtjcinncphffgaaaGreatMjG21
import Derived.Test.YtjcinncphffgaaaGreatMjG26
import Derived.Test.YtjcinncphffgaaaGreatMjG28
import Derived.Test.YtjcinncphffgaaaGreatMjG30
import Derived.Test.YtjcinncphffgaaaGreatMjG31
import Derived.Test.YtjcinncphffgaaaGreatMjG32
set_option linter.unusedVariables false
set_option linter.unusedSimpArgs false
namespace Go.Proofs.YtjcinncphffgaaaGreat
open Go.RowKit Go.Maps
/-- the first channel of a name -/
def lockF (nm : ByteArray) (T : List En) : Option En := T.find? fun e => decide (e.o.kind = 2) && decide (nameO e.tx e.out = nm)
theorem lockF_at (nm : ByteArray) : ∀ (T : List En) (k : Nat) (h : k < T.length), (∀ i (hi : i < T.length), i < k → (decide (T[i].o.kind = 2) && decide (nameO T[i].tx T[i].out = nm)) = false) → (decide (T[k].o.kind = 2) && decide (nameO T[k].tx T[k].out = nm)) = true → lockF nm T = some T[k]
  | x :: r, 0, _, _, h => by
    unfold lockF
    have h' : (decide (x.o.kind = 2) && decide (nameO x.tx x.out = nm)) = true := h
    rw [List.find?_cons, h']; rfl
  | x :: r, k + 1, hk, hb, h => by
    unfold lockF
    have h' : (decide (x.o.kind = 2) && decide (nameO x.tx x.out = nm)) = false := hb 0 (by simp) (by omega)
    rw [List.find?_cons, h']
    exact lockF_at nm r k (by simpa using hk) (fun i hi hik => hb (i + 1) (by simpa using hi) (by omega)) h
theorem lockF_none (nm : ByteArray) (T : List En) (h : ∀ i (hi : i < T.length), (decide (T[i].o.kind = 2) && decide (nameO T[i].tx T[i].out = nm)) = false) : lockF nm T = none := by
  unfold lockF
  rw [List.find?_eq_none]
  intro x hx
  obtain ⟨i, hi, rfl⟩ := List.getElem_of_mem hx
  rw [h i hi]; decide
theorem en_pt (x : En) : x.cs.extract 0 (0 + 2) = #[.string x.tx, .int .i64 x.out] := by rfl
/-- what Lock answers -/
def lockA (nm : ByteArray) (T : List En) : Value := .tuple #[.agg ((lockF nm T).getD zEn).cs, .bool (lockF nm T).isSome]
set_option maxRecDepth 100000 in
set_option maxHeartbeats 2000000 in
theorem lock_any (sb b : Nat) (T : List En) (nm : ByteArray) (w : World) (hS : SetAt w sb b T) (hT : T.length ≤ 1000) (h0 : 0 < T.length) :
    Calls Tryz.prog 33 #[.pointer (some ⟨sb, 0, none⟩), .string nm] w fun e w' => e = .returned (lockA nm T) ∧ Below w.heap.size w w' := by
  have HALL := fun W (h : Below w.heap.size w W) => Lib.hid (all_any sb b T W (hS.bel h) hT h0)
  have HTX := Lib.hid (fun x (hx : x ∈ T) => (hS.ut.ok x hx).1)
  have HR : Hid (Blk (w.alloc (.cells zEn.cs 89)) w.heap.size 89 zEn.cs) := Lib.hid (Blk.new _ _ _)
  have HB : Hid (Below w.heap.size w (w.alloc (.cells zEn.cs 89))) := Lib.hid ((Below.refl _ _).alloc (Nat.le_refl _) _)
  clear hS
  go_enter Tryz.func33, Tryz.ntmps33
  go_wp2_with fail
  refine (HALL _ HB.out).out.mono ?_
  rintro e w1 ⟨TA, tc, rfl, ho, hb⟩
  have HS : Hid (Sl w1 w1.heap.size 11 En.cl TA T) := Lib.hid (Sl.of_own (fun _ => rfl) ho)
  replace HR := Lib.hid (HR.out.bel hb)
  replace HB := Lib.hid (HB.out.trans (Below.mono hb HB.out.size))
  clear HALL ho hb
  go_wp2_with fail
  go_loopw [11] (fun i wr => ∃ k : Nat, k ≤ T.length ∧ i = .int .i64 k ∧ Hid (∀ i (hi : i < T.length), i < k → (decide (T[i].o.kind = 2) && decide (nameO T[i].tx T[i].out = nm)) = false) ∧ Hid (Blk wr w.heap.size 89 zEn.cs) ∧ Hid (Below w1.heap.size w1 wr) ∧ Hid (Below w.heap.size w wr)) (fun i _ => T.length - (intOf i).toNat)
  case atStart => exact ⟨0, Nat.zero_le _, rfl, Lib.hid (fun i hi h => absurd h (Nat.not_lt_zero i)), HR, Lib.hid (Below.refl _ _), HB⟩
  case round =>
    clear HR HB
    obtain ⟨k, hk, rfl, HN, HR, HB1, HB⟩ := hrel
    have hz := HB.out.size
    by_cases hlt : k < T.length
    · have d0 : decide (k < T.length) = true := decide_eq_true hlt
      obtain ⟨ab, off, rfl, hbB, hc⟩ := (HS.out.below HB1.out).at_ hlt
      have HAT := Lib.hid (fun h => lockF_at nm T k hlt HN.out h)
      have HSN : Hid ((decide (T[k].o.kind = 2) && decide (nameO T[k].tx T[k].out = nm)) = false → ∀ i (hi : i < T.length), i < k + 1 → (decide (T[i].o.kind = 2) && decide (nameO T[i].tx T[i].out = nm)) = false) := Lib.hid (fun h i hi hik => by
        by_cases q : i < k
        · exact HN.out i hi q
        · obtain rfl : i = k := by omega
          exact h)
      have hx16 := HTX.out _ (List.getElem_mem hlt)
      generalize T[k] = x at hc HAT HSN hx16
      have HCC := Lib.hid hc
      have HNM := fun W => Lib.hid (cname_gen x.tx x.out W (by omega))
      clear hc hx16
      have gn := toList_beq (nameO x.tx x.out) nm
      by_cases k2 : x.o.kind = 2
      rotate_left
      · have d2 : (x.o.kind == 2) = false := beq_eq_false_iff_ne.2 k2
        have HNX := Lib.hid (HSN.out (by rw [decide_eq_false k2, Bool.false_and]))
        clear k2 gn HAT HSN HNM
        go_wp2_with (first
          | (refine wpList_load_en rfl (.tmp 13) rfl ab (off + k * 11) (by rfl) x HCC.out ?_)
          | (refine wpList_store_part rfl 89 (.tmp 7) (.tmp 14) rfl wr.heap.size 0 (cs := zEn.cs) (Blk.new _ _ _) x.cs x.cs (by rfl) (by rfl) (Nat.le_refl 11) infoEnt (encs_one x) (en_over x rfl) ?_; intro W1 hb1 hc1; have hb := bel_st' hc1; have H7 := Lib.hid hb1; have c2 : W1.cell? ⟨wr.heap.size, 2, none⟩ = some (.int .i64 x.o.kind) := hb1.cell 2; replace HR := Lib.hid (HR.out.bel hb); replace HB1 := Lib.hid (HB1.out.trans (Below.mono hb HB1.out.size)); replace HB := Lib.hid (HB.out.trans (Below.mono hb HB.out.size)); clear hb1 hc1 hb)
          | (refine wpList_load_blkG (by rfl) 57 (.tmp 20) rfl wr.heap.size 0 2 H7.out #[.string x.tx, .int .i64 x.out] (by rfl) (en_pt x) Tryz.underlying57 infoPnt (by show 2 ≤ 11; omega) ?_))
        go_roundw
        case rel => exact ⟨k + 1, by omega, by go_num, HNX, HR, HB1, HB⟩
        case measure => simp [intOf]; omega
      have d2 : (x.o.kind == 2) = true := beq_iff_eq.2 k2
      have HK2 := Lib.hid k2
      clear k2
      go_wp2_with (first
        | (refine wpList_load_en rfl (.tmp 13) rfl ab (off + k * 11) (by rfl) x HCC.out ?_)
        | (refine wpList_store_part rfl 89 (.tmp 7) (.tmp 14) rfl wr.heap.size 0 (cs := zEn.cs) (Blk.new _ _ _) x.cs x.cs (by rfl) (by rfl) (Nat.le_refl 11) infoEnt (encs_one x) (en_over x rfl) ?_; intro W1 hb1 hc1; have hb := bel_st' hc1; have H7 := Lib.hid hb1; have c2 : W1.cell? ⟨wr.heap.size, 2, none⟩ = some (.int .i64 x.o.kind) := hb1.cell 2; replace HR := Lib.hid (HR.out.bel hb); replace HB1 := Lib.hid (HB1.out.trans (Below.mono hb HB1.out.size)); replace HB := Lib.hid (HB.out.trans (Below.mono hb HB.out.size)); clear hb1 hc1 hb)
        | (refine wpList_load_blkG (by rfl) 57 (.tmp 20) rfl wr.heap.size 0 2 H7.out #[.string x.tx, .int .i64 x.out] (by rfl) (en_pt x) Tryz.underlying57 infoPnt (by show 2 ≤ 11; omega) ?_))
      generalize wr.heap.size = a7 at H7 ⊢
      refine (HNM _).out.mono ?_
      rintro e w2 ⟨rfl, hb⟩
      replace H7 := Lib.hid (H7.out.bel hb)
      replace HR := Lib.hid (HR.out.bel hb)
      replace HB1 := Lib.hid (HB1.out.trans (Below.mono hb HB1.out.size))
      replace HB := Lib.hid (HB.out.trans (Below.mono hb HB.out.size))
      clear hb c2 HNM
      by_cases hnm : nameO x.tx x.out = nm
      · rw [decide_eq_true hnm] at gn
        have HE : Hid (lockA nm T = .tuple #[.agg x.cs, .bool true]) := Lib.hid (by unfold lockA; rw [HAT.out (by rw [decide_eq_true HK2.out, decide_eq_true hnm]; rfl)]; rfl)
        clear hnm HAT HSN HK2
        go_wp2_with (first
          | (refine wpList_load_blk rfl 89 (.tmp 7) rfl a7 0 11 H7.out x.cs (by rfl) (en_ext x) Tryz.underlying89 infoEnt (Nat.le_refl 11) ?_)
          | (refine wpList_store_part rfl 89 (.tmp 4) (.tmp 26) rfl w.heap.size 0 HR.out x.cs x.cs (by rfl) (by rfl) (Nat.le_refl 11) infoEnt (encs_one x) (en_over x rfl) ?_; intro W6 hb6 hc6; have HT := Lib.hid hb6; have HC6 := Lib.hid hc6; clear hb6 hc6))
        exact bodyPost_ret (results_cell_row2 rfl _ HT.out rfl Tryz.underlying89 infoEnt) rfl ⟨by rw [HE.out]; rfl, HB.out.trans (HC6.out.below HB.out.size (by simp))⟩
      · rw [decide_eq_false hnm] at gn
        have HNX := Lib.hid (HSN.out (by rw [decide_eq_false hnm, Bool.and_false]))
        clear hnm HAT HSN HK2
        go_wp2_with fail
        go_roundw
        case rel => exact ⟨k + 1, by omega, by go_num, HNX, HR, HB1, HB⟩
        case measure => simp [intOf]; omega
    · have d0 : decide (k < T.length) = false := decide_eq_false hlt
      obtain rfl : k = T.length := by omega
      have HE : Hid (lockA nm T = .tuple #[.agg zEn.cs, .bool false]) := Lib.hid (by unfold lockA; rw [lockF_none nm T (fun i hi => HN.out i hi hi)]; rfl)
      go_wp2_with (refine wpList_store_part rfl 89 (.tmp 4) (.tmp 28) rfl w.heap.size 0 HR.out zEn.cs zEn.cs (by rfl) (by rfl) (Nat.le_refl 11) infoEnt (encs_one zEn) (en_over zEn rfl) ?_; intro W6 hb6 hc6; have HT := Lib.hid hb6; have HC6 := Lib.hid hc6; clear hb6 hc6)
      exact bodyPost_ret (results_cell_row2 rfl _ HT.out rfl Tryz.underlying89 infoEnt) rfl ⟨by rw [HE.out]; rfl, HB.out.trans (HC6.out.below HB.out.size (by simp))⟩
end Go.Proofs.YtjcinncphffgaaaGreat
namespace Go.Proofs.YtjcinncphffgaaaGreat
open Go.RowKit Go.Maps
/-- what is wrong with a new output -/
def makesE (T : List En) (o : Ou) (h : Int) : Int :=
  if o.kind = 2 then (if o.ex ≤ h then 12 else 0) else if o.kind = 3 then (match lockF o.of_ T with
    | some e => if e.o.key = o.key ∧ e.o.gate = o.gate ∧ e.o.ex = o.ex then 0 else 13
    | none => 13) else 0
set_option maxRecDepth 100000 in
set_option maxHeartbeats 2000000 in
theorem makes_any (sb b : Nat) (T : List En) (o : Ou) (h : Int) (w : World) (hS : SetAt w sb b T) (hT : T.length ≤ 1000) (h0 : 0 < T.length) :
    Calls Tryz.prog 109 #[.pointer (some ⟨sb, 0, none⟩), .agg o.cs, .int .i64 h] w fun e w' => e = .returned (.int .i64 (makesE T o h)) ∧ Below w.heap.size w w' := by
  have HX : Hid (Blk (w.alloc (.cells o.cs 81)) w.heap.size 81 o.cs) := Lib.hid (Blk.new _ _ _)
  have HB : Hid (Below w.heap.size w (w.alloc (.cells o.cs 81))) := Lib.hid ((Below.refl _ _).alloc (Nat.le_refl _) _)
  have HL := fun W (hb : Below w.heap.size w W) => Lib.hid (lock_any sb b T o.of_ W (hS.bel hb) hT h0)
  have c0 : (w.alloc (.cells o.cs 81)).cell? ⟨w.heap.size, 0, none⟩ = some (.int .i64 o.kind) := HX.out.cell 0
  have c4 : (w.alloc (.cells o.cs 81)).cell? ⟨w.heap.size, 4, none⟩ = some (.int .i64 o.ex) := HX.out.cell 4
  have c8 : (w.alloc (.cells o.cs 81)).cell? ⟨w.heap.size, 8, none⟩ = some (.string o.of_) := HX.out.cell 8
  have HM : Hid (makesE T o h = (if o.kind = 2 then (if o.ex ≤ h then 12 else 0) else if o.kind = 3 then (match lockF o.of_ T with
    | some e => if e.o.key = o.key ∧ e.o.gate = o.gate ∧ e.o.ex = o.ex then 0 else 13
    | none => 13) else 0 : Int)) := rfl
  generalize makesE T o h = me at HM ⊢
  clear hS
  by_cases k2 : o.kind = 2
  · have d2 : (o.kind == 2) = true := beq_iff_eq.2 k2
    by_cases hx : o.ex ≤ h
    · have d3 : decide (o.ex ≤ h) = true := decide_eq_true hx
      obtain rfl : me = 12 := by rw [HM.out, if_pos k2, if_pos hx]
      clear k2 hx HM
      go_enter Tryz.func109, Tryz.ntmps109
      go_wp2_with fail
      go_ret
      exact ⟨rfl, HB.out⟩
    · have d3 : decide (o.ex ≤ h) = false := decide_eq_false hx
      obtain rfl : me = 0 := by rw [HM.out, if_pos k2, if_neg hx]
      clear k2 hx HM
      go_enter Tryz.func109, Tryz.ntmps109
      go_wp2_with fail
      go_ret
      exact ⟨rfl, HB.out⟩
  have d2 : (o.kind == 2) = false := beq_eq_false_iff_ne.2 k2
  by_cases k3 : o.kind = 3
  rotate_left
  · have d3 : (o.kind == 3) = false := beq_eq_false_iff_ne.2 k3
    obtain rfl : me = 0 := by rw [HM.out, if_neg k2, if_neg k3]
    clear k2 k3 HM
    go_enter Tryz.func109, Tryz.ntmps109
    go_wp2_with fail
    go_ret
    exact ⟨rfl, HB.out⟩
  have d3 : (o.kind == 3) = true := beq_iff_eq.2 k3
  replace HM : Hid (me = (match lockF o.of_ T with
    | some e => if e.o.key = o.key ∧ e.o.gate = o.gate ∧ e.o.ex = o.ex then 0 else 13
    | none => 13 : Int)) := Lib.hid (by rw [HM.out, if_neg k2, if_pos k3])
  clear k2 k3
  unfold lockA at HL
  generalize lockF o.of_ T = lf at HM HL
  cases lf with
  | none =>
    obtain rfl : me = 13 := HM.out
    clear HM
    go_enter Tryz.func109, Tryz.ntmps109
    go_wp2_with fail
    refine (HL _ HB.out).out.mono ?_
    rintro e w1 ⟨rfl, hb⟩
    replace HB := Lib.hid (HB.out.trans (Below.mono hb HB.out.size))
    clear hb HL c0 c4 c8
    go_wp2_with (first
      | (refine wpList_store_part rfl 89 (.tmp 7) (.tmp 24) rfl w1.heap.size 0 (cs := zEn.cs) (Blk.new _ _ _) zEn.cs zEn.cs (by rfl) (by rfl) (Nat.le_refl 11) infoEnt (encs_one zEn) (en_over zEn rfl) ?_; intro W1 hb1 hc1; have hb := bel_st' hc1; replace HB := Lib.hid (HB.out.trans (Below.mono hb HB.out.size)); clear hb1 hc1 hb))
    go_ret
    exact ⟨rfl, HB.out⟩
  | some x =>
    have HM1 : Hid (me = (if x.o.key = o.key ∧ x.o.gate = o.gate ∧ x.o.ex = o.ex then 0 else 13 : Int)) := HM
    have HL1 := fun W (hb : Below w.heap.size w W) => Lib.hid (show Calls _ _ _ W fun e w' => e = .returned (.tuple #[.agg x.cs, .bool true]) ∧ Below W.heap.size W w' from (HL W hb).out)
    clear HM HL
    have q1 := toList_beq x.o.key o.key
    have q2 := toList_beq x.o.gate o.gate
    by_cases e1 : x.o.key = o.key
    rotate_left
    · obtain rfl : me = 13 := by rw [HM1.out, if_neg (fun k => e1 k.1)]
      rw [decide_eq_false e1] at q1
      clear HM1 e1 q2
      go_enter Tryz.func109, Tryz.ntmps109
      go_wp2_with fail
      refine (HL1 _ HB.out).out.mono ?_
      rintro e w1 ⟨rfl, hb⟩
      replace HX := Lib.hid (HX.out.bel hb)
      replace HB := Lib.hid (HB.out.trans (Below.mono hb HB.out.size))
      clear hb HL1 c0 c4 c8
      go_wp2_with (first
        | (refine wpList_store_part rfl 89 (.tmp 7) (.tmp 24) rfl w1.heap.size 0 (cs := zEn.cs) (Blk.new _ _ _) x.cs x.cs (by rfl) (by rfl) (Nat.le_refl 11) infoEnt (encs_one x) (en_over x rfl) ?_; intro W1 hb1 hc1; have hb := bel_st' hc1; replace HX := Lib.hid (HX.out.bel hb); replace HB := Lib.hid (HB.out.trans (Below.mono hb HB.out.size)); have x4 : W1.cell? ⟨w1.heap.size, 4, none⟩ = some (.string x.o.key) := hb1.cell 4; have x5 : W1.cell? ⟨w1.heap.size, 5, none⟩ = some (.string x.o.gate) := hb1.cell 5; have x6 : W1.cell? ⟨w1.heap.size, 6, none⟩ = some (.int .i64 x.o.ex) := hb1.cell 6; have c2 : W1.cell? ⟨w.heap.size, 2, none⟩ = some (.string o.key) := HX.out.cell 2; have c3 : W1.cell? ⟨w.heap.size, 3, none⟩ = some (.string o.gate) := HX.out.cell 3; have c4 : W1.cell? ⟨w.heap.size, 4, none⟩ = some (.int .i64 o.ex) := HX.out.cell 4; clear hb1 hc1 hb))
      go_ret
      exact ⟨rfl, HB.out⟩
    rw [decide_eq_true e1] at q1
    by_cases e2 : x.o.gate = o.gate
    rotate_left
    · obtain rfl : me = 13 := by rw [HM1.out, if_neg (fun k => e2 k.2.1)]
      rw [decide_eq_false e2] at q2
      clear HM1 e1 e2
      go_enter Tryz.func109, Tryz.ntmps109
      go_wp2_with fail
      refine (HL1 _ HB.out).out.mono ?_
      rintro e w1 ⟨rfl, hb⟩
      replace HX := Lib.hid (HX.out.bel hb)
      replace HB := Lib.hid (HB.out.trans (Below.mono hb HB.out.size))
      clear hb HL1 c0 c4 c8
      go_wp2_with (first
        | (refine wpList_store_part rfl 89 (.tmp 7) (.tmp 24) rfl w1.heap.size 0 (cs := zEn.cs) (Blk.new _ _ _) x.cs x.cs (by rfl) (by rfl) (Nat.le_refl 11) infoEnt (encs_one x) (en_over x rfl) ?_; intro W1 hb1 hc1; have hb := bel_st' hc1; replace HX := Lib.hid (HX.out.bel hb); replace HB := Lib.hid (HB.out.trans (Below.mono hb HB.out.size)); have x4 : W1.cell? ⟨w1.heap.size, 4, none⟩ = some (.string x.o.key) := hb1.cell 4; have x5 : W1.cell? ⟨w1.heap.size, 5, none⟩ = some (.string x.o.gate) := hb1.cell 5; have x6 : W1.cell? ⟨w1.heap.size, 6, none⟩ = some (.int .i64 x.o.ex) := hb1.cell 6; have c2 : W1.cell? ⟨w.heap.size, 2, none⟩ = some (.string o.key) := HX.out.cell 2; have c3 : W1.cell? ⟨w.heap.size, 3, none⟩ = some (.string o.gate) := HX.out.cell 3; have c4 : W1.cell? ⟨w.heap.size, 4, none⟩ = some (.int .i64 o.ex) := HX.out.cell 4; clear hb1 hc1 hb))
      go_ret
      exact ⟨rfl, HB.out⟩
    rw [decide_eq_true e2] at q2
    by_cases e3 : x.o.ex = o.ex
    · obtain rfl : me = 0 := by rw [HM1.out, if_pos ⟨e1, e2, e3⟩]
      have q3 : (x.o.ex != o.ex) = false := by simp [bne, beq_iff_eq.2 e3]
      clear HM1 e1 e2 e3
      go_enter Tryz.func109, Tryz.ntmps109
      go_wp2_with fail
      refine (HL1 _ HB.out).out.mono ?_
      rintro e w1 ⟨rfl, hb⟩
      replace HX := Lib.hid (HX.out.bel hb)
      replace HB := Lib.hid (HB.out.trans (Below.mono hb HB.out.size))
      clear hb HL1 c0 c4 c8
      go_wp2_with (first
        | (refine wpList_store_part rfl 89 (.tmp 7) (.tmp 24) rfl w1.heap.size 0 (cs := zEn.cs) (Blk.new _ _ _) x.cs x.cs (by rfl) (by rfl) (Nat.le_refl 11) infoEnt (encs_one x) (en_over x rfl) ?_; intro W1 hb1 hc1; have hb := bel_st' hc1; replace HX := Lib.hid (HX.out.bel hb); replace HB := Lib.hid (HB.out.trans (Below.mono hb HB.out.size)); have x4 : W1.cell? ⟨w1.heap.size, 4, none⟩ = some (.string x.o.key) := hb1.cell 4; have x5 : W1.cell? ⟨w1.heap.size, 5, none⟩ = some (.string x.o.gate) := hb1.cell 5; have x6 : W1.cell? ⟨w1.heap.size, 6, none⟩ = some (.int .i64 x.o.ex) := hb1.cell 6; have c2 : W1.cell? ⟨w.heap.size, 2, none⟩ = some (.string o.key) := HX.out.cell 2; have c3 : W1.cell? ⟨w.heap.size, 3, none⟩ = some (.string o.gate) := HX.out.cell 3; have c4 : W1.cell? ⟨w.heap.size, 4, none⟩ = some (.int .i64 o.ex) := HX.out.cell 4; clear hb1 hc1 hb))
      go_ret
      exact ⟨rfl, HB.out⟩
    · obtain rfl : me = 13 := by rw [HM1.out, if_neg (fun k => e3 k.2.2)]
      have q3 : (x.o.ex != o.ex) = true := by simp [bne, beq_eq_false_iff_ne.2 e3]
      clear HM1 e1 e2 e3
      go_enter Tryz.func109, Tryz.ntmps109
      go_wp2_with fail
      refine (HL1 _ HB.out).out.mono ?_
      rintro e w1 ⟨rfl, hb⟩
      replace HX := Lib.hid (HX.out.bel hb)
      replace HB := Lib.hid (HB.out.trans (Below.mono hb HB.out.size))
      clear hb HL1 c0 c4 c8
      go_wp2_with (first
        | (refine wpList_store_part rfl 89 (.tmp 7) (.tmp 24) rfl w1.heap.size 0 (cs := zEn.cs) (Blk.new _ _ _) x.cs x.cs (by rfl) (by rfl) (Nat.le_refl 11) infoEnt (encs_one x) (en_over x rfl) ?_; intro W1 hb1 hc1; have hb := bel_st' hc1; replace HX := Lib.hid (HX.out.bel hb); replace HB := Lib.hid (HB.out.trans (Below.mono hb HB.out.size)); have x4 : W1.cell? ⟨w1.heap.size, 4, none⟩ = some (.string x.o.key) := hb1.cell 4; have x5 : W1.cell? ⟨w1.heap.size, 5, none⟩ = some (.string x.o.gate) := hb1.cell 5; have x6 : W1.cell? ⟨w1.heap.size, 6, none⟩ = some (.int .i64 x.o.ex) := hb1.cell 6; have c2 : W1.cell? ⟨w.heap.size, 2, none⟩ = some (.string o.key) := HX.out.cell 2; have c3 : W1.cell? ⟨w.heap.size, 3, none⟩ = some (.string o.gate) := HX.out.cell 3; have c4 : W1.cell? ⟨w.heap.size, 4, none⟩ = some (.int .i64 o.ex) := HX.out.cell 4; clear hb1 hc1 hb))
      go_ret
      exact ⟨rfl, HB.out⟩
end Go.Proofs.YtjcinncphffgaaaGreat
namespace Go.Proofs.YtjcinncphffgaaaGreat
open Go.RowKit Go.Maps
/-- the first one that is not zero -/
def firstE : List Int → Int
  | [] => 0
  | x :: r => if x = 0 then firstE r else x
theorem firstE_at : ∀ (l : List Int) (k : Nat) (h : k < l.length), (∀ j (hj : j < l.length), j < k → l[j] = 0) → l[k] ≠ 0 → firstE l = l[k]
  | x :: r, 0, _, _, hn => by
    have hn' : x ≠ 0 := hn
    rw [firstE, if_neg hn']; rfl
  | x :: r, k + 1, hk, hz, hn => by
    have h0 : x = 0 := hz 0 (by simp) (by omega)
    rw [firstE, if_pos h0]
    exact firstE_at r k (by simpa using hk) (fun j hj hjk => hz (j + 1) (by simpa using hj) (by omega)) hn
theorem firstE_zero : ∀ (l : List Int), (∀ j (hj : j < l.length), l[j] = 0) → firstE l = 0
  | [], _ => rfl
  | x :: r, h => by
    have h0 : x = 0 := h 0 (by simp)
    rw [firstE, if_pos h0]
    exact firstE_zero r (fun j hj => h (j + 1) (by simpa using hj))
/-- what is wrong with spending each input -/
def mayL (L : List En) (t : Txn) (core : ByteArray) (h : Int) : List Int := (List.range t.ins.length).map fun i => mayE (L.headD zEn) i (L.getD i zEn) (t.ins.getD i zInp) core h
theorem mayL_len (L : List En) (t : Txn) (core : ByteArray) (h : Int) : (mayL L t core h).length = t.ins.length := by simp [mayL]
theorem mayL_at (L : List En) (t : Txn) (core : ByteArray) (h : Int) (i : Nat) (hi : i < t.ins.length) (hL : L.length = t.ins.length) : (mayL L t core h)[i]'(by rw [mayL_len]; exact hi) = mayE (L[0]'(by omega)) i (L[i]'(by omega)) t.ins[i] core h := by
  unfold mayL
  rw [List.getElem_map, List.getElem_range, List.headD_eq_head?_getD, List.head?_eq_getElem?, List.getD_eq_getElem?_getD, List.getD_eq_getElem?_getD, List.getElem?_eq_getElem (show 0 < L.length by omega), List.getElem?_eq_getElem (show i < L.length by omega), List.getElem?_eq_getElem hi]
  rfl
/-- what is wrong with a transaction at a height -/
noncomputable def checkE (T : List En) (t : Txn) (h : Int) : Int :=
  if foundE T t ≠ 0 then foundE T t else if firstE (mayL (spentT T t) t (coreX t) h) ≠ 0 then firstE (mayL (spentT T t) t (coreX t) h) else if sumsE (spentT T t) t.outs ≠ 0 then sumsE (spentT T t) t.outs
  else if claimsE ((spentT T t).headD zEn) t (totV (topsI (spentT T t))).toNat ≠ 0 then claimsE ((spentT T t).headD zEn) t (totV (topsI (spentT T t))).toNat else firstE (t.outs.map fun o => makesE T o h)
/-- outputs that may be -/
structure TOk (T : List En) : Prop where
  len : T.length ≤ 1000
  pos : 0 < T.length
  fits : ∀ e ∈ T, fitsB e.o = true
  am : ∀ e ∈ T, e.o.am < 18446744073709551616
  unit : ∀ e ∈ T, e.o.unit < 18446744073709551616
  tx : ∀ e ∈ T, e.okp
/-- a transaction whose numbers fit -/
structure TxOk (t : Txn) : Prop where
  ins : t.ins.length ≤ 1000
  outs : t.outs.length ≤ 1000
  pf : PfOk t.p
  out : ∀ o ∈ t.outs, o.am < 18446744073709551616 ∧ o.unit < 18446744073709551616
theorem corex_size (t : Txn) : (coreX t).size ≤ 5000 := by
  unfold coreX
  cases hr : rightT t with
  | false => rw [if_neg (by decide)]; show (0 : Nat) ≤ 5000; omega
  | true =>
    rw [if_pos rfl]
    have hg := right_t hr
    unfold coreT
    have h1 := outsT_size t.outs (insT t.ins (headT t) ++ strOfNums [(t.outs.length : Int)]) (fun o ho => fit_o (hg.outs o ho))
    have h2 := insT_size t.ins (headT t) hg.ins
    have h3 : (headT t).size = 2 := by unfold headT; simp only [ByteArray.size_append, num1_size]; rfl
    have h4 := hg.n1.2
    have h5 := hg.n2.2
    simp only [ByteArray.size_append, num1_size] at h1
    omega
/-- what a transaction that is found has -/
structure FoundT (T : List En) (t : Txn) : Prop where
  right : RightT t
  rt : rightT t = true
  has : ∀ i ∈ t.ins, hasI T i = true
  one : oneP t = true
  pf : path0 t = 2 ∨ noneP t.p = true
theorem found_t {T : List En} {t : Txn} (h : foundE T t = 0) : FoundT T t := by
  unfold foundE at h
  by_cases h1 : rightT t = false
  · rw [if_pos h1] at h; exact absurd h (by decide)
  rw [if_neg h1] at h
  by_cases h2 : (t.ins.all (hasI T)) = false
  · rw [if_pos h2] at h; exact absurd h (by decide)
  rw [if_neg h2] at h
  by_cases h3 : (oneP t && (decide (path0 t = 2) || noneP t.p)) = true
  · have hr : rightT t = true := by simpa using h1
    have ha : t.ins.all (hasI T) = true := by simpa using h2
    simp only [Bool.and_eq_true, Bool.or_eq_true, decide_eq_true_eq] at h3
    exact ⟨right_t hr, hr, List.all_eq_true.1 ha, h3.1, h3.2⟩
  · rw [if_neg h3] at h; exact absurd h (by decide)
theorem entD_mem {T : List En} {i : Inp} (h : hasI T i = true) : entD T i ∈ T ∧ getU T i.pt = some (entD T i).o := by
  unfold hasI at h
  obtain ⟨o, ho⟩ := Option.isSome_iff_exists.1 h
  obtain ⟨e, he, h1, h2⟩ := getU_mem ho
  have hE : entD T i = e := by
    unfold entD
    rw [ho]
    obtain ⟨a, b, c⟩ := e
    injection h1 with h1a h1b
    subst h1a h1b h2
    rfl
  rw [hE]
  exact ⟨he, by rw [ho, h2]⟩
theorem spent_mem {T : List En} {t : Txn} (h : ∀ i ∈ t.ins, hasI T i = true) : ∀ x ∈ spentT T t, x ∈ T := by
  intro x hx
  obtain ⟨i, hi, rfl⟩ := List.mem_map.1 hx
  exact (entD_mem (h i hi)).1
theorem spent_len (T : List En) (t : Txn) : (spentT T t).length = t.ins.length := by simp [spentT]
theorem lock_e {x : En} (hf : fitsB x.o = true) (hu : x.o.unit < 18446744073709551616) (hk : x.o.kind = 2) : LockE x := by
  obtain ⟨h1, h2, h3⟩ := (fit_o hf).anchor hk
  exact ⟨h2, h3, h1, hu⟩
theorem may_lock {x : En} {y : Inp} {core : ByteArray} {h : Int} (hp : y.path = 2) (hm : mayE x 0 x y core h = 0) : x.o.kind = 2 := by
  unfold mayE at hm
  rw [if_neg (by omega), if_neg (by omega), if_pos rfl] at hm
  by_cases hk : x.o.kind = 2
  · exact hk
  · rw [if_neg hk] at hm; exact absurd hm (by decide)
end Go.Proofs.YtjcinncphffgaaaGreat
namespace Go.Proofs.YtjcinncphffgaaaGreat
open Go.RowKit Go.Maps Go.Sort
/-! the outputs that are there at first -/
def utN (tx : ByteArray) (l : List Ou) : List En := l.mapIdx fun i o => ⟨tx, (i : Int), o⟩
theorem utN_len (tx : ByteArray) (l : List Ou) : (utN tx l).length = l.length := List.length_mapIdx
theorem ltP_out (tx : ByteArray) (i k : Int) : ltP (tx, i) (tx, k) = decide (i < k) := by simp [ltP, ltB_irrefl]
theorem insE_last {e : En} : ∀ {T : List En}, (∀ x ∈ T, ltP x.pt e.pt = true) → insE e T = T ++ [e]
  | [], _ => rfl
  | x :: r, h => by
    rw [insE, if_pos (h x (by simp)), insE_last (fun y hy => h y (by simp [hy]))]; rfl
theorem putU_last {e : En} {T : List En} (h : ∀ x ∈ T, ltP x.pt e.pt = true) : putU e T = T ++ [e] := by
  have hd : delU e.pt T = T := List.filter_eq_self.2 (fun x hx => by simpa using ltP_ne (h x hx))
  rw [putU, hd, insE_last h]
theorem utN_mem {tx : ByteArray} {l : List Ou} {x : En} (h : x ∈ utN tx l) : ∃ i, i < l.length ∧ x.tx = tx ∧ x.out = (i : Int) := by
  obtain ⟨i, hi, rfl⟩ := List.mem_mapIdx.1 h
  exact ⟨i, hi, rfl, rfl⟩
theorem utN_put (tx : ByteArray) (l : List Ou) (k : Nat) (hk : k < l.length) : putU ⟨tx, (k : Int), l[k]⟩ (utN tx (l.take k)) = utN tx (l.take (k + 1)) := by
  rw [putU_last]
  · rw [List.take_succ_eq_append_getElem hk]
    unfold utN
    rw [List.mapIdx_concat, List.length_take, Nat.min_eq_left (by omega)]
  · intro x hx
    obtain ⟨i, hi, h1, h2⟩ := utN_mem hx
    rw [List.length_take] at hi
    show ltP (x.tx, x.out) (tx, (k : Int)) = true
    rw [h1, h2, ltP_out]
    exact decide_eq_true (by omega)
set_option maxRecDepth 100000 in
theorem oddu_any (o : Ou) (w : World) : Calls Tryz.prog 97 (#[.agg o.cs] ++ #[]) w fun e w' => e = .returned (.bool (!fitsB o)) ∧ Below w.heap.size w w' := by
  have HX := Lib.hid (Blk.new w 81 o.cs)
  have HF := fun W => Lib.hid (fits_gen o W)
  generalize fitsB o = b at HF ⊢
  show Calls _ _ #[.agg o.cs] _ _
  go_enter Tryz.func97, Tryz.ntmps97
  go_wp2_with (refine wpList_load_blk rfl 81 (.tmp 1) rfl w.heap.size 0 9 HX.out o.cs (by rfl) (ouv_ext o) Tryz.underlying81 infoOu9 (Nat.le_refl 9) ?_)
  refine (HF _).out.mono ?_
  rintro e W ⟨rfl, hb⟩
  have HB : Hid (Below w.heap.size w W) := Lib.hid (((Below.refl _ _).alloc (Nat.le_refl _) _).trans (hb.mono (by simp)))
  clear hb
  go_wp2_with fail
  go_ret
  exact ⟨rfl, HB.out⟩
set_option maxRecDepth 100000 in
set_option maxHeartbeats 1000000 in
theorem index_ou  (A : Option Addr) (l : List Ou) (c : Nat) (q : Ou → Bool) (w : World) (hS : Sl w w.heap.size 9 Ou.cl A l) (hl : l.length ≤ 1000000)
    (HF : ∀ W, Below w.heap.size w W → ∀ x ∈ l, Calls Tryz.prog 97 (#[.agg x.cs] ++ #[]) W fun e w' => e = .returned (.bool (q x)) ∧ Below W.heap.size W w') :
    Calls Tryz.prog 149 #[.slice A l.length c, .func (Fn.func 97) #[] #[]] w fun e w' => e = .returned (.int .i64 (fIdx q l)) ∧ Below w.heap.size w w' := by
  have HS := Lib.hid hS
  have HFF := Lib.hid HF
  clear hS HF
  go_enter Tryz.func149, Tryz.ntmps149
  go_wp2_with fail
  go_loopw [8] (fun i wr => ∃ k : Nat, k ≤ l.length ∧ i = .int .i64 k ∧ Hid ((l.take k).any q = false) ∧ Hid (Below w.heap.size w wr)) (fun i _ => l.length - (intOf i).toNat)
  case atStart => exact ⟨0, Nat.zero_le _, rfl, Lib.hid rfl, Lib.hid (Below.refl _ _)⟩
  case round =>
    obtain ⟨k, hk, rfl, HT, HB⟩ := hrel
    have hz := HB.out.size
    by_cases hlt : k < l.length
    · obtain ⟨ab, off, rfl, hbB, hc⟩ := (HS.out.below HB.out).at_ hlt
      have HC1 := HFF.out wr HB.out _ (List.getElem_mem hlt)
      have HTS : Hid ((l.take (k + 1)).any q = ((l.take k).any q || q l[k])) := by
        show _ = _
        rw [List.take_succ_eq_append_getElem hlt, List.any_append]
        simp
      have HIX := Lib.hid (fIdx_at q l k hlt HT.out)
      generalize l[k] = x at hc HC1 HTS HIX
      have HCC := Lib.hid hc
      have HCL := Lib.hid HC1
      clear hc HC1
      go_wp2_with (refine wpList_load_ou rfl (.tmp 14) rfl ab (off + k * 9) (by rfl) x HCC.out ?_)
      refine HCL.out.mono ?_
      rintro e W1 ⟨rfl, hb⟩
      have HB1 := Lib.hid (HB.out.trans (hb.mono hz))
      clear hb HCL
      generalize q x = b at HTS HIX ⊢
      cases b with
      | true =>
        have HI1 := Lib.hid (HIX.out rfl)
        clear HIX HTS
        go_wp2_with fail
        go_ret
        exact ⟨by rw [HI1.out]; rfl, HB1.out⟩
      | false =>
        have HT1 : Hid ((l.take (k + 1)).any q = false) := Lib.hid (by rw [HTS.out, HT.out]; rfl)
        clear HIX HTS
        go_wp2_with fail
        go_roundw
        case rel => exact ⟨k + 1, by omega, by go_num, HT1, HB1⟩
        case measure => simp [intOf]; omega
    · have hkl : k = l.length := by omega
      subst hkl
      have HE := Lib.hid (fIdx_none q l (by rw [List.take_length] at HT; exact HT.out))
      go_wp2_with fail
      go_ret
      exact ⟨by rw [HE.out]; rfl, HB.out⟩
set_option maxRecDepth 100000 in
theorem contains_ou  (A : Option Addr) (l : List Ou) (c : Nat) (q : Ou → Bool) (w : World) (hS : Sl w w.heap.size 9 Ou.cl A l) (hl : l.length ≤ 1000000)
    (HF : ∀ W, Below w.heap.size w W → ∀ x ∈ l, Calls Tryz.prog 97 (#[.agg x.cs] ++ #[]) W fun e w' => e = .returned (.bool (q x)) ∧ Below W.heap.size W w') :
    Calls Tryz.prog 85 #[.slice A l.length c, .func (Fn.func 97) #[] #[]] w fun e w' => e = .returned (.bool (l.any q)) ∧ Below w.heap.size w w' := by
  have HI := Lib.hid (index_ou  A l c q w hS hl HF)
  have HD := Lib.hid (fIdx_any q l)
  generalize fIdx q l = z at HI HD
  generalize l.any q = b at HD ⊢
  clear hS HF
  have hd : decide ((0 : Int) ≤ z) = b := HD.out
  clear HD
  go_enter Tryz.func85, Tryz.ntmps85
  go_wp2_with fail
  refine HI.out.mono ?_
  rintro e W1 ⟨rfl, hb⟩
  have HB := Lib.hid hb
  clear hb HI
  go_wp2
  go_ret
  exact ⟨rfl, HB.out⟩
end Go.Proofs.YtjcinncphffgaaaGreat
