/- maps.Keys over places: the keys come, each once, in some order. slices.AppendSeq, Collect over the places of a map of outputs. slices.Collect, SortedFunc over the places of a map of outputs; utxo.All. utxo.Set.All. -/
import Derived.RangeFuncGives
import Derived.Sort.MapsRangeIn
import Derived.RegionIn
import Derived.Outline
import Derived.RangeFuncWrites
import Derived.RangeFuncBox
import Derived.RangeFuncNested
import Derived.Test.YtjcinncphffgaaaGreatShelfU
import Derived.Shelf.SlSortCmp.WholeK
import Derived.Shelf.Small.Strs
import Derived.Deep.RegionHeld3
import Derived.Deep.AppendLies
import Derived.Test.YtjcinncphffgaaaGreatMjG21
import Derived.Test.YtjcinncphffgaaaGreatMjG25
import Derived.Test.YtjcinncphffgaaaGreatMjSdkB
import Derived.Test.YtjcinncphffgaaaGreatMjWots
set_option linter.unusedVariables false
set_option linter.unusedSimpArgs false
namespace Go.Proofs.YtjcinncphffgaaaGreat
open Go.RowKit Go.Maps Go.Sort Go.Shelf
attribute [local go_sem] Oper.semAt_some
def ptV (p : Pt) : Value := .agg #[.string p.1, .int .i64 p.2]
theorem keysUF_any (b : Nat) (w : World) : Calls Tryz.prog 99 #[.map (some b)] w fun e w' => e = .returned (.func (.func 161) #[] #[.pointer (some ⟨w.heap.size, 0, none⟩)]) ∧ w.alloc (.cells #[.map (some b)] 184) = w' := by
  have hmf : ∀ (fn : Fn) (first cap : Array Value) (w : World), (Instr.makeFunc fn first cap).run Tryz.prog w = .ok (.func fn first cap) w := fun _ _ _ _ => rfl
  go_enter Tryz.func99, Tryz.ntmps99
  go_wp2_with fail
  go_ret
  exact ⟨rfl, rfl⟩
set_option maxRecDepth 100000 in
set_option maxHeartbeats 2000000 in
theorem keysU_stops (n Bm b : Nat) (T : List En) (w : World) (hm : Blk w Bm 184 #[.map (some b)]) (hU : Ut w b T) :
    SeqStopsK Fence.wide n Tryz.prog 161 #[.pointer (some ⟨Bm, 0, none⟩)] (fun p : Pt => #[ptV p]) KeepsWalks (fun ps => ps.Perm (T.map En.pt)) (fun _ => True) T.length w := fun l J Jx W hW hJ hJx hY h0 => by
  obtain ⟨D0, hown0, hD⟩ := (hU.bel hW hU.lt).own
  have HD := Lib.hid hD
  have HSZ := Lib.hid hD.size
  have HUS := Lib.hid hU.srt
  have HUO := Lib.hid hU.ok
  have HJ := Lib.hid hJ
  have HY := Lib.hid hY
  have H0 := Lib.hid h0
  have hBm : W.cell? ⟨Bm, 0, none⟩ = some (.map (some b)) := (hm.bel hW).cell 0
  have hown := hown0
  rw [← hD.size] at hown
  clear hD hown0 hJ hY h0 hm hU hJx hW
  refine callsIn_of_wp Tryz.func161 rfl trivial ?_ rfl
  simp only [Tryz.ntmps161, List.size_toArray, List.length_cons, List.length_nil, Nat.reduceAdd, Nat.reduceSub, Array.replicate_succ, Array.replicate_zero, List.push_toArray, List.append_toArray, List.nil_append, List.cons_append]
  gi_wp2_with (first
    | (gi_at_range; refine wpListIn_range_own _ rfl _ 184 rfl 57 81 lawPt Tryz.underlying184 elO b (Maps.size D0) _ rfl hown ?_; intro w0 hrg0 hg0 hs0)
    | gi_in)
  gi_loopw [3] (fun _ wr => ∃ (left : Lit → Bool) (cnt : Nat) (ps : List Pt), Hid (wr.ranges Tryz.prog 57 elO b W.heap.size (Maps.size D0) D0 left cnt) ∧ Hid (ps.length + cnt ≤ Maps.size D0) ∧ Hid (CollP D0 left ps) ∧ Hid (J ps wr))
    (fun _ wr => wr.rangeLeft b W.heap.size)
  case atStart =>
    exact ⟨_, _, [], Lib.hid hrg0, Lib.hid (by simp), Lib.hid (CollP.start D0), Lib.hid (HJ.out [] W w0 none H0.out hg0 (fun r e => by cases e))⟩
  case round =>
    obtain ⟨left, cnt, ps, hrg, hcs, hC, hJs⟩ := hrel
    gi_wp2_with (first
      | (gi_at_next; refine wpListIn_next_ranges _ rfl _ rfl 57 lawPt elO ptV id (fun key kl hk => by obtain ⟨x, hx, _⟩ := keyPt_inv hk; exact ⟨x, hx⟩) (fun v _ _ => ⟨v, rfl⟩) b W.heap.size (Maps.size D0) _ _ _ rfl hrg.out ?_ ?_)
      | gi_in)
    · intro hc0 hl0
      have HP := Lib.hid (hC.out.perm HD.out HUS.out HUO.out hl0)
      clear hc0 hl0
      gi_wp2_with fail
      go_end0
      exact ⟨⟨_, rfl⟩, .inl ⟨ps, HP.out, hJs.out⟩⟩
    · intro tx out c kl y1 y2 w2 cnt2 hkey hlk hv hv2 hat hrg2 hlt hg2 hs2 hen
      obtain ⟨x', ex, hok, rfl⟩ := keyPt_inv hkey
      obtain rfl : x' = (tx, out) := by
        simp only [ptV, Pt.cs, Value.agg.injEq, Array.mk.injEq, List.cons.injEq, Value.string.injEq, Value.int.injEq, true_and, and_true] at ex
        exact (Prod.ext ex.1 ex.2).symm
      have HC2 := Lib.hid (hC.out.step hok hlk hat)
      have hJ2 : J ps w2 := HJ.out ps wr w2 (some W.heap.size) hJs.out hg2 (fun r e => by cases e; exact ⟨Nat.le_refl _, hrg.out.iter_walk⟩)
      have hJ3 : J ps (w2.alloc (.cells #[.string tx, .int .i64 out] 57)) := HJ.out ps w2 _ none hJ2 (World.grownBy_alloc w2 _ none) (fun r e => by cases e)
      have hrg3 := hrg2.of_walks (KeepsWalks.alloc w2 (.cells #[.string tx, .int .i64 out] 57))
      have hcs' := hcs.out
      obtain ⟨fn, tmps, assign, body, hy, hR⟩ := HY.out ps (tx, out) _ hJ3 (by rw [← HSZ.out]; omega)
      have HRG3 := Lib.hid hrg3
      have HLE : Hid (wr.rangeLeft b W.heap.size > cnt2) := Lib.hid (by rw [hrg.out.left_eq]; exact hlt)
      have HCS : Hid (ps.length + 1 + cnt2 ≤ Maps.size D0) := Lib.hid (by omega)
      clear ex hok hkey hlk hat hv hv2 hrg2 hlt hg2 hs2 hJ2 hJ3 hrg3 hcs'
      simp only [ptV] at hy hen
      gi_wp2_with fail
      refine ⟨(fun h => absurd h (by decide)), hR.mono ?_⟩
      rintro e W' (⟨rfl, hJ', hk'⟩ | ⟨rfl, hJx'⟩)
      · have HRG' := Lib.hid (HRG3.out.of_walks hk')
        have HJ' := Lib.hid hJ'
        clear hJ' hk' hy hR
        gi_wp2_with fail
        go_roundw
        case rel => exact ⟨_, cnt2, ps ++ [(tx, out)], HRG', Lib.hid (by have := HCS.out; simp only [List.length_append, List.length_singleton]; omega), HC2, HJ'⟩
        case measure => rw [HRG'.out.left_eq]; exact HLE.out
      · clear hy hR
        gi_wp2_with fail
        refine bodyPost_ret (results_none rfl _ _ _) rfl ?_
        exact ⟨⟨_, rfl⟩, .inr ⟨_, trivial, hJx'⟩⟩
end Go.Proofs.YtjcinncphffgaaaGreat
namespace Go.Proofs.YtjcinncphffgaaaGreat
open Go.RowKit Go.Maps Go.Sort Go.Shelf
attribute [local go_sem] Oper.semAt_some
def ptCl (p : Pt) : List Value := [.string p.1, .int .i64 p.2]
theorem infoPtC : (Tryz.prog.info? 57).map (fun i => (i.zero, i.size, i.bytes)) = some (some (.agg #[.string ByteArray.empty, .int .i64 0]), 2, 24) := by kernel_rfl
theorem pt_one (p : Pt) : ∀ u ∈ ptCl p, u.oneCell' = true := by
  intro u hu
  simp only [ptCl, List.mem_cons, List.not_mem_nil, or_false] at hu
  rcases hu with rfl | rfl <;> rfl
/-- the box holds a slice of its own that has what came -/
def ApI (w : World) (pre : List Pt) (W : World) : Prop := (∃ v, Boxed W w.heap.size 187 v ∧ W.ownsRow w.heap.size 57 2 v pre.length (pre.flatMap ptCl) ∧ True) ∧ Below w.heap.size w W
theorem apI_own (w : World) (B : Nat) (h : w.heap.size ≤ B) : OwnFrom B (ApI w) := OwnFrom.and ((holdsRow_own _ _ _ _ _ _ _ _).from _) (ownFrom_below (Nat.le_refl _) h)
def apTm (sv : Value) (wz B : Nat) (x : Value) : Act := { tmps := #[.slice none 0 0, sv, .pointer (some ⟨wz, 0, none⟩), undef, .slice none 0 0, .pointer (some ⟨B, 0, none⟩), sv, x, undef, undef, undef, undef, undef], defers := [] }
set_option maxRecDepth 100000 in
set_option maxHeartbeats 2000000 in
theorem appendU_any (Bm b : Nat) (T : List En) (w : World) (hm : Blk w Bm 184 #[.map (some b)]) (hU : Ut w b T) (hT : T.length ≤ 1000) :
    Calls Tryz.prog 190 #[.slice none 0 0, .func (.func 161) #[] #[.pointer (some ⟨Bm, 0, none⟩)]] w fun e w' => ∃ (v : Value) (ps : List Pt), e = .returned v ∧ ps.Perm (T.map En.pt) ∧ w'.ownsRow w.heap.size 57 2 v ps.length (ps.flatMap ptCl) ∧ Below w.heap.size w w' := by
  obtain ⟨i0, hi, hz0, hz1, hz2⟩ := info_parts infoPtC
  have Hz0 := Lib.hid hz0
  have HT := Lib.hid hT
  clear hz0 hT
  refine (callsIn_wide (n := 5)).1 ?_
  refine callsIn_of_wp_marks Tryz.func190 rfl trivial ?_ rfl
  simp only [Tryz.ntmps190, List.size_toArray, List.length_cons, List.length_nil, Nat.reduceAdd, Nat.reduceSub, Array.replicate_succ, Array.replicate_zero, List.push_toArray, List.append_toArray, List.nil_append, List.cons_append]
  gi_wp2_with fail
  obtain ⟨W0, hW0⟩ : ∃ W0, w.alloc (.cells #[.slice none 0 0] 187) = W0 := ⟨_, rfl⟩
  have hz0 : W0.heap.size = w.heap.size + 1 := by rw [← hW0]; simp
  have hA0 : ApI w [] W0 := ⟨⟨.slice none 0 0, by rw [← hW0]; exact Boxed.new w _ _, by rw [← hW0]; exact ⟨by simp, .inl ⟨rfl, rfl⟩⟩, trivial⟩, by rw [← hW0]; exact (Below.refl _ _).alloc (Nat.le_refl _) _⟩
  have hN0 : Blk W0 Bm 184 #[.map (some b)] := by rw [← hW0]; exact hm.alloc _
  have hU0 : Ut W0 b T := by rw [← hW0]; exact hU.bel ((Below.refl w.heap.size w).alloc (Nat.le_refl _) _) hU.lt
  rw [hW0]
  clear hm hU hW0
  have HZ0 := Lib.hid hz0
  refine wpIn_rangeFunc_ownH rfl (by decide) (gf := 161) (lb := #[.pointer (some ⟨Bm, 0, none⟩)]) rfl trivial (enters_of Tryz.func161 (by kernel_rfl) rfl)
    (keysU_stops 4 Bm b T W0 hN0 hU0) KeepsWalks.trans (fun W l o o' _ ho _ hw => KeepsWalks.putObj o' ho hw) (Below.refl _ _) (fun _ => rfl)
    (ApI w) (fun _ _ _ => False) (apI_own w _ (by omega)) (fun _ s W W' row hs _ _ => hs) hA0
    (fun p a' W => ∃ B, Blk W B 57 p.cs ∧ a' = apTm (.func (.func 161) #[] #[.pointer (some ⟨Bm, 0, none⟩)]) w.heap.size B (ptV p))
    ?hax ?assign ?body ?done ?stop
  case hax =>
    rintro p a' s W W' row ⟨B, h2, h3⟩ hg hr
    exact ⟨B, ownFrom_blk 0 B 57 (fun (_ : Unit) => p.cs) s W W' row h2 hg (fun r e => ⟨Nat.zero_le _, (hr r e).2⟩), h3⟩
  case assign =>
    rintro l pre ⟨tx, out⟩ W K hi hK
    simp only [ptV] at hK ⊢
    have HK := Lib.hid hK
    have HI := Lib.hid hi
    clear hK hi
    gi_wp2
    exact HK.out _ _ ((KeepsOthers.alloc _ _).from _) (KeepsWalks.alloc _ _) ((apI_own w w.heap.size (Nat.le_refl _)).alloc _ HI.out) ⟨W.heap.size, Blk.new _ _ _, rfl⟩
  case body =>
    rintro l pre ⟨tx, out⟩ a' W hl hrec ⟨⟨v, hv, hrow, _⟩, hb⟩ ⟨B, hB, rfl⟩ hlen
    have c0 : W.cell? ⟨w.heap.size, 0, none⟩ = some v := hv.cell
    have f0 : W.frozen? ⟨w.heap.size, 0, none⟩ = false := hv.frozen
    have p0 : W.cell? ⟨B, 0, none⟩ = some (.string tx) := hB.cell 0
    have p1 : W.cell? ⟨B, 1, none⟩ = some (.int .i64 out) := hB.cell 1
    have hlt := hB.lt
    have HV := Lib.hid hv
    have HRW := Lib.hid hrow
    have HB := Lib.hid hb
    have hbz := hb.size
    have hlen' : pre.length < 1000 := Nat.lt_of_lt_of_le hlen HT.out
    clear hv hrow hb hrec hl hB hlen
    unfold apTm
    simp only [ptV]
    gi_wp2_with (gi_at_builtin; refine wpListIn_append_own _ rfl (.tmp 8) (.tmp 10) 187 rfl w.heap.size 57 i0 _ 2 24 Tryz.underlying187 hi Hz0.out hz1 hz2 rfl (by decide) v pre.length _ rfl (HRW.out.alloc _) ⟨W.heap.size, 0, none⟩ 1 1 (ptCl (tx, out)) rfl rfl (World.news_of_block (cs := (ptCl (tx, out)).toArray) (heap_alloc_new W _)) (pt_one (tx, out)) (by simp only [maxLen]; omega) (by omega) (by simp; omega) ?_; intro v' w3 hown' hg3 hnil3; obtain ⟨g', cap', rfl⟩ := ownsRow_succ hown'; obtain ⟨hv3, hv4, hr4, hk4, hb4⟩ := Boxed.appended HV.out (by decide) HRW.out hbz (Nat.le_refl _) hown' hg3; have c3 := hv3.cell; have f3 := hv3.frozen; have HV4 := Lib.hid hv4; have HR4 := Lib.hid hr4; have HK4 := Lib.hid hk4; have HB4 := Lib.hid hb4; clear hown' hg3 hnil3 hv3 hv4 hr4 hk4 hb4)
    exact ⟨HK4.out.from _, HK4.out.walks, ⟨_, HV4.out, by have := HR4.out; simpa using this, trivial⟩, HB.out.trans HB4.out⟩
  case done =>
    rintro D ps W hD hS ⟨⟨v, hv, hrow, _⟩, hb⟩ hK
    have c0 : W.cell? ⟨w.heap.size, 0, none⟩ = some v := hv.cell
    have HS := Lib.hid hS
    have HRW := Lib.hid hrow
    have HB := Lib.hid hb
    have HK := Lib.hid hK
    clear hS hv hrow hb hK
    gi_wp2_with fail
    refine ⟨by simp, .inl ⟨_, _, rfl, run_takeDeferred HK.out, ?_⟩⟩
    refine ⟨_, results_tmp rfl _ _ _, ?_⟩
    exact ⟨v, ps, rfl, HS.out, ownsRow_putObj HRW.out _ HK.out rfl, HB.out.trans ((Ch.of_grown (grownBy_putObj' _ D _)).below HB.out.size (by simp; omega))⟩
  case stop =>
    rintro D c pre W _ _ h _
    exact h.elim
end Go.Proofs.YtjcinncphffgaaaGreat
namespace Go.Proofs.YtjcinncphffgaaaGreat
open Go.RowKit Go.Maps Go.Sort Go.Shelf Go.Lib
set_option maxRecDepth 100000 in
set_option maxHeartbeats 1000000 in
theorem collectU_any (Bm b : Nat) (T : List En) (w : World) (hm : Blk w Bm 184 #[.map (some b)]) (hU : Ut w b T) (hT : T.length ≤ 1000) :
    Calls Tryz.prog 159 #[.func (.func 161) #[] #[.pointer (some ⟨Bm, 0, none⟩)]] w fun e w' => ∃ (v : Value) (ps : List Pt), e = .returned v ∧ ps.Perm (T.map En.pt) ∧ w'.ownsRow w.heap.size 57 2 v ps.length (ps.flatMap ptCl) ∧ Below w.heap.size w w' := by
  have HA := Lib.hid (appendU_any Bm b T w hm hU hT)
  clear hm hU hT
  go_enter Tryz.func159, Tryz.ntmps159
  go_wp2_with fail
  refine HA.out.mono ?_
  rintro e w1 ⟨v, ps, rfl, hp, hr, hb⟩
  have HP := Lib.hid hp
  have HR := Lib.hid hr
  have HB := Lib.hid hb
  clear hp hr hb HA
  go_wp2_with fail
  go_ret
  exact ⟨v, ps, rfl, HP.out, HR.out, HB.out⟩
/-! the comparison -/
abbrev PF := ByteArray × Fin 256
def encF (x : PF) : List Value := [.string x.1, .int .i64 (x.2.val : Int)]
def cfP (x y : PF) : Int := if x.1 = y.1 then (x.2.val : Int) - y.2.val else Lib.compareBytes x.1.data.toList y.1.data.toList
theorem cmp_lt : ∀ a b : List UInt8, decide (Lib.compareBytes a b < 0) = ltB a b
  | [], [] => rfl
  | [], _ :: _ => rfl
  | _ :: _, [] => rfl
  | a :: r, b :: s => by
    unfold Lib.compareBytes ltB
    by_cases h : a < b
    · rw [if_pos h, if_pos h]; rfl
    · rw [if_neg h, if_neg h]
      by_cases h2 : b < a
      · rw [if_pos h2, if_pos h2]; rfl
      · rw [if_neg h2, if_neg h2]; exact cmp_lt r s
def ptF (x : PF) : Pt := (x.1, (x.2.val : Int))
theorem ltOf_cf (x y : PF) : ltOf cfP x y = ltP (ptF x) (ptF y) := by
  unfold ltOf cfP ltP ptF
  by_cases h : x.1 = y.1
  · rw [if_pos h]
    simp only [h, ltB_irrefl, decide_true, Bool.true_and, Bool.false_or]
    rw [Bool.eq_iff_iff, decide_eq_true_iff, decide_eq_true_iff]; omega
  · rw [if_neg h, cmp_lt]
    simp [h]
theorem ptF_inj {x y : PF} (h : ptF x = ptF y) : x = y := by
  have h' : ((x.1, ((x.2.val : Nat) : Int)) : ByteArray × Int) = (y.1, ((y.2.val : Nat) : Int)) := h
  have h1 := (Prod.mk.inj h').1
  have h2 := (Prod.mk.inj h').2
  exact Prod.ext h1 (Fin.ext (by omega))
theorem swoP : SWO (ltOf cfP) where
  irrefl x := by rw [ltOf_cf, ltP_irrefl]
  trans x y z h1 h2 := by rw [ltOf_cf] at *; exact ltP_trans h1 h2
  ntrans x y z h1 h2 := by
    rw [ltOf_cf] at *
    cases h : ltP (ptF x) (ptF z) with
    | false => rfl
    | true =>
      cases hxy : ltP (ptF y) (ptF x) with
      | true => exact absurd (ltP_trans hxy h) (by rw [h2]; simp)
      | false =>
        have e := ltP_eq h1 hxy
        rw [e] at h
        rw [h2] at h; cases h
set_option maxRecDepth 100000 in
set_option maxHeartbeats 1000000 in
theorem ahead_any (x y : PF) (w : World) : Calls Tryz.prog 100 #[.agg #[.string x.1, .int .i64 (x.2.val : Int)], .agg #[.string y.1, .int .i64 (y.2.val : Int)]] w fun e w' => e = .returned (.int .i64 (cfP x y)) ∧ ∃ q os', w' = grow (w.drewN q) os' := by
  have HC := fun W => Lib.hid (Any.strings_Compare Tryz.strCmp x.1 y.1 W)
  change ∀ W, Hid (Calls _ 162 _ _ _) at HC
  have HF : Hid (cfP x y = if x.1 = y.1 then (x.2.val : Int) - y.2.val else Lib.compareBytes x.1.data.toList y.1.data.toList) := rfl
  have hbq := toList_beq x.1 y.1
  have h1 := x.2.isLt
  have h2 := y.2.isLt
  generalize Lib.compareBytes x.1.data.toList y.1.data.toList = cb at HC HF
  generalize cfP x y = cf at HF ⊢
  obtain ⟨tx, i, hi⟩ := x
  obtain ⟨ty, j, hj⟩ := y
  dsimp only at *
  by_cases h : tx = ty
  · rw [decide_eq_true h] at hbq
    have HF1 : Hid (cf = (i : Int) - j) := Lib.hid (by rw [HF.out, if_pos h])
    clear h HF HC
    go_enter Tryz.func100, Tryz.ntmps100
    go_wp2_with fail
    go_ret
    exact ⟨by rw [HF1.out]; rfl, 0, _, by rw [alloc_eq_grow, alloc_eq_grow, grow_grow]; rfl⟩
  · rw [decide_eq_false h] at hbq
    have HF1 : Hid (cf = cb) := Lib.hid (by rw [HF.out, if_neg h])
    clear h HF
    go_enter Tryz.func100, Tryz.ntmps100
    go_wp2_with fail
    refine (HC _).out.mono ?_
    rintro e w1 ⟨rfl, rfl⟩
    go_wp2_with fail
    go_ret
    exact ⟨by rw [HF1.out]; rfl, 0, _, by rw [alloc_eq_grow, alloc_eq_grow, grow_grow]; rfl⟩
/-! rows of structs and the sort's worlds -/
theorem holdsK_own {α : Type} [Inhabited α] {enc : α → List Value} {k : Nat} (hk : ∀ x, (enc x).length = k) {w : World} {base g cap : Nat} {e : TypeId} {l : List α} (h : w.ownsRow base e k (.slice (some ⟨g, 0, none⟩) l.length cap) l.length (l.flatMap enc)) :
    HoldsK enc k w g 0 l.toArray := by
  intro t ht
  rw [size_flatK] at ht
  have ht' : t < l.length * k := by simpa using ht
  refine ⟨?_, by rw [Nat.zero_add]; exact h.frozenAt t⟩
  have hk0 : 0 < k := by
    rcases Nat.eq_zero_or_pos k with h0 | h0
    · subst h0; simp at ht'
    · exact h0
  have hi : t / k < l.length := Nat.div_lt_of_lt_mul (by rw [Nat.mul_comm]; exact ht')
  have hj : t % k < k := Nat.mod_lt _ hk0
  have hget : (l.flatMap enc)[t]? = some ((enc l[t / k])[t % k]'(by rw [hk]; exact hj)) := by
    have := flatMap_get enc k hk l (t / k) (t % k) l[t / k] _ (List.getElem?_eq_getElem hi) (List.getElem?_eq_getElem (by rw [hk]; exact hj))
    rwa [Nat.div_add_mod' t k] at this
  rw [Nat.zero_add, h.cellAt t ht', hget, get_flatK enc k _ t ht]
  simp [hi, hk, hj]
theorem Sl.of_K {α : Type} [Inhabited α] {enc : α → List Value} {k : Nat} (hk : ∀ x, (enc x).length = k) {w : World} {g B : Nat} {d : Array α} (hg : g < B) (h : HoldsK enc k w g 0 d) : Sl w B k enc (some ⟨g, 0, none⟩) d.toList := by
  intro _
  refine ⟨g, 0, rfl, hg, fun i x hx j u hu => ?_⟩
  have hi : i < d.size := by have := (List.getElem?_eq_some_iff.1 hx).1; simpa using this
  have hj : j < k := by have := (List.getElem?_eq_some_iff.1 hu).1; rwa [hk] at this
  have hlt : i * k + j < d.size * k := by
    have : (i + 1) * k ≤ d.size * k := Nat.mul_le_mul_right k hi
    rw [Nat.add_mul] at this; omega
  have := (h (i * k + j) (by rw [size_flatK]; exact hlt)).1
  rw [get_flatK enc k _ _ hlt, Nat.mul_comm i k, Nat.mul_add_div (by omega), Nat.div_eq_of_lt hj, Nat.add_zero, Nat.mul_add_mod, Nat.mod_eq_of_lt hj] at this
  have hd : d[i]! = x := by
    have hx' := (List.getElem?_eq_some_iff.1 hx).2
    rw [getElem!_pos d i hi, ← hx']; simp
  rw [hd] at this
  have hu' : (enc x)[j]! = u := by simp [hu]
  rw [hu'] at this
  rw [Nat.mul_comm i k, Nat.add_assoc]; exact this
theorem grown_sortK {α : Type} [Inhabited α] {enc : α → List Value} {k : Nat} {w : World} {g n : Nat} {os : Array Obj} (d : Array α) : w.grownBy (sortWorldK enc k w g 0 n d os) (some g) := by
  unfold sortWorldK putRowK
  refine ⟨rfl, rfl, rfl, by simp [Sort.ahead], fun i hk hne => ?_⟩
  rw [heap_grow_old _ _ (by simpa [Sort.ahead] using hk)]
  have : g ≠ i := fun e => hne (by rw [e])
  simp [putRow, mapBlock, Sort.ahead, Array.getElem?_modify, this]
def toF (p : Pt) : PF := (p.1, ⟨p.2.toNat % 256, Nat.mod_lt _ (by decide)⟩)
theorem ptF_toF {e : En} (h : e.okp) : ptF (toF e.pt) = e.pt := by
  obtain ⟨_, h1, h2⟩ := h
  unfold ptF toF En.pt
  exact Prod.ext rfl (by show ((e.out.toNat % 256 : Nat) : Int) = e.out; omega)
theorem encF_toF {e : En} (h : e.okp) : encF (toF e.pt) = ptCl e.pt := by
  have := congrArg Prod.snd (ptF_toF h)
  show [Value.string e.tx, .int .i64 (((toF e.pt).2.val : Nat) : Int)] = [.string e.tx, .int .i64 e.out]
  rw [show (((toF e.pt).2.val : Nat) : Int) = e.out from this]
theorem flat_toF : ∀ (ps : List Pt), (∀ p ∈ ps, ∃ e : En, e.okp ∧ e.pt = p) → ps.flatMap ptCl = (ps.map toF).flatMap encF
  | [], _ => rfl
  | p :: r, h => by
    obtain ⟨e, he, rfl⟩ := h p (by simp)
    rw [List.flatMap_cons, List.map_cons, List.flatMap_cons, encF_toF he, flat_toF r (fun q hq => h q (by simp [hq]))]
instance : Inhabited PF := ⟨(ByteArray.empty, 0)⟩
theorem sorted_to {T : List En} (hs : SrtE T) (hT : ∀ e ∈ T, e.okp) {d d' : Array PF} (hd : d.toList.Perm ((T.map En.pt).map toF)) (hp : PermIn 0 d.size d d') (ho : SortedIn (ltOf cfP) 0 d.size d') : d'.toList = (T.map En.pt).map toF := by
  obtain ⟨hsz, _, hperm⟩ := hp
  have e1 : d'.extract 0 d.size = d' := by rw [← hsz]; exact Array.extract_size
  rw [e1, Array.extract_size] at hperm
  refine List.Perm.eq_of_pairwise (le := fun a b => ltP (ptF b) (ptF a) = false) (fun a b _ _ h1 h2 => (ptF_inj (ltP_eq h2 h1))) ?_ ?_ (hperm.trans hd)
  · rw [List.pairwise_iff_getElem]
    intro i j hi hj hij
    have hi' : i < d'.size := by simpa using hi
    have hj' : j < d'.size := by simpa using hj
    have := ho i j (Nat.zero_le _) hij (by omega)
    rw [getElem!_pos d' j hj', getElem!_pos d' i hi', ltOf_cf] at this
    simpa using this
  · rw [List.map_map, List.pairwise_map]
    refine hs.imp_of_mem fun {a b} ha hb h => ?_
    show ltP (ptF (toF b.pt)) (ptF (toF a.pt)) = false
    rw [ptF_toF (hT a ha), ptF_toF (hT b hb)]
    cases hc : ltP b.pt a.pt with
    | false => rfl
    | true => exact absurd (ltP_trans h hc) (by rw [ltP_irrefl]; simp)
theorem isAggPt : ∀ w, (isAgg 57).run Tryz.prog w = .ok true w := fun _ => by kernel_rfl
theorem sizeOfPt : ∀ w, (Go.sizeOf 57).run Tryz.prog w = .ok 2 w := fun _ => by kernel_rfl
theorem encF_one (x : PF) : ∀ u ∈ encF x, u.oneCell' = true := by
  intro u hu
  simp only [encF, List.mem_cons, List.not_mem_nil, or_false] at hu
  rcases hu with rfl | rfl <;> rfl
/-- what the sort leaves -/
def SortU (base : Nat) (T : List En) (g : Nat) (w : World) (e : Ending) (w' : World) : Prop :=
  e = .returned (.tuple #[]) ∧ Below base w w' ∧ Sl w' w'.heap.size 2 ptCl (some ⟨g, 0, none⟩) (T.map En.pt)
theorem sl_toF {w : World} {B : Nat} {A : Option Addr} {T : List En} (hT : ∀ e ∈ T, e.okp) (h : Sl w B 2 encF A ((T.map En.pt).map toF)) : Sl w B 2 ptCl A (T.map En.pt) := by
  intro hne
  obtain ⟨b, off, h1, h2, h3⟩ := h (by simpa using hne)
  refine ⟨b, off, h1, h2, fun i x hx j u hu => ?_⟩
  obtain ⟨e, he, rfl⟩ := List.mem_map.1 (List.mem_of_getElem? hx)
  exact h3 i (toF e.pt) (by rw [List.getElem?_map, hx]; rfl) j u (by rw [encF_toF (hT e he)]; exact hu)
set_option maxRecDepth 100000 in
theorem sortFu_any (T : List En) (ps : List Pt) (g c base : Nat) (w : World) (hs : SrtE T) (hT : ∀ e ∈ T, e.okp) (hp : ps.Perm (T.map En.pt)) (hl : T.length ≤ 1000) (hbase : base ≤ w.heap.size) (hgb : base ≤ g) (hg : g < w.heap.size) (hown : w.ownsRow base 57 2 (.slice (some ⟨g, 0, none⟩) ps.length c) ps.length (ps.flatMap ptCl)) :
    Calls Tryz.prog 160 #[.slice (some ⟨g, 0, none⟩) ps.length c, .func (.func 100) #[] #[]] w (SortU base T g w) := by
  have eg : ∀ args w, (callFunc 100 args).run Tryz.prog w = .ok (.enter 100 args) w := enters_of Tryz.func100 (by kernel_rfl) rfl
  have hmem : ∀ p ∈ ps, ∃ e : En, e.okp ∧ e.pt = p := fun p h => by
    obtain ⟨e, he, rfl⟩ := List.mem_map.1 (hp.mem_iff.1 h)
    exact ⟨e, hT e he, rfl⟩
  rw [flat_toF ps hmem] at hown
  have hlen : ps.length = (ps.map toF).length := by simp
  have hpl : ps.length = T.length := by rw [hp.length_eq, List.length_map]
  rw [hlen] at hown ⊢
  have hH := holdsK_own (enc := encF) (k := 2) (fun _ => rfl) hown
  have hd : (ps.map toF).toArray.toList.Perm ((T.map En.pt).map toF) := hp.map toF
  have hsd : (ps.map toF).toArray.size = (ps.map toF).length := by simp
  have h := AnyQ.slices_SortFunc Tryz.sortPt 2 isAggPt sizeOfPt encF (fun _ => rfl) encF_one cfP swoP 100 #[] g 0 c (ps.map toF).toArray w eg (fun m os dk _ x y => ahead_any x y _) hH hg (by rw [hsd, ← hlen]; omega)
  rw [hsd] at h
  refine Calls.mono h ?_
  rintro e w' ⟨rfl, d', n, os, hpi, hso, rfl⟩
  have hto := sorted_to hs hT hd (by rw [hsd]; exact hpi) (by rw [hsd]; exact hso)
  have hh := holdsK_sortWorldK_c encF 2 w g 0 (ps.map toF).toArray d' n os hH hg hpi.1
  refine ⟨rfl, ?_, ?_⟩
  · exact (Below.refl _ _).grown (grown_sortK _) hbase (fun k hk => by injection hk with hk; omega)
  · refine sl_toF hT ?_
    rw [← hto]
    refine Sl.of_K (enc := encF) (k := 2) (fun _ => rfl) ?_ hh
    have := (grown_sortK (enc := encF) (k := 2) (w := w) (g := g) (n := n) (os := os) d').size
    omega
set_option maxRecDepth 100000 in
set_option maxHeartbeats 1000000 in
theorem sortedU_any (Bm b : Nat) (T : List En) (w : World) (hm : Blk w Bm 184 #[.map (some b)]) (hU : Ut w b T) (hT : T.length ≤ 1000) (h0 : 0 < T.length) :
    Calls Tryz.prog 98 #[.func (.func 161) #[] #[.pointer (some ⟨Bm, 0, none⟩)], .func (.func 100) #[] #[]] w fun e w' => ∃ A c, e = .returned (.slice A T.length c) ∧ Sl w' w'.heap.size 2 ptCl A (T.map En.pt) ∧ Below w.heap.size w w' := by
  have HC := Lib.hid (collectU_any Bm b T w hm hU hT)
  have HS := Lib.hid hU.srt
  have HO := Lib.hid hU.ok
  clear hm hU
  go_enter Tryz.func98, Tryz.ntmps98
  go_wp2_with fail
  refine HC.out.mono ?_
  rintro e w1 ⟨v, ps, rfl, hp, hr, hb⟩
  have hpl : ps.length = T.length := by rw [hp.length_eq, List.length_map]
  obtain ⟨g, c, rfl, hgb, hgl⟩ := hr.form (by omega)
  have HF := Lib.hid (sortFu_any T ps g c w.heap.size w1 HS.out HO.out hp hT hb.size hgb hgl hr)
  have HB := Lib.hid hb
  rw [hpl] at HF ⊢
  clear hp hr hb HC hpl
  go_wp2_with fail
  refine HF.out.mono ?_
  rintro e w2 ⟨rfl, hb, hs⟩
  have HB2 := Lib.hid (HB.out.trans hb)
  have HS2 := Lib.hid hs
  clear hb hs HF
  go_wp2_with fail
  go_ret
  exact ⟨_, _, rfl, HS2.out, HB2.out⟩
end Go.Proofs.YtjcinncphffgaaaGreat
namespace Go.Proofs.YtjcinncphffgaaaGreat
open Go.RowKit Go.Maps Go.Sort
/-- one of a list of places is read -/
theorem wpList_load_pt {ops : Array Oper} {rest : List Oper} {o : Oper} {a : Act} {w : World} {Q : Exit → Act → World → Prop} (hgd : o.guard = none) (x : Operand) (ho : o.op = .load 57 x) (b off : Nat) (hx : a.eval x = .pointer (some ⟨b, off, none⟩)) (tx : ByteArray) (out : Int)
    (hc : ∀ j u, (ptCl (tx, out))[j]? = some u → w.cell? ⟨b, off + j, none⟩ = some u) (h : wpList Tryz.prog ops Q rest (a.put o.dst (.agg #[.string tx, .int .i64 out])) w) : wpList Tryz.prog ops Q (o :: rest) a w :=
  wpList_load_mid (P := Tryz.prog) hgd 57 x ho b off hx (ptCl (tx, out)) _ hc Tryz.underlying57 rfl (by kernel_rfl) h
theorem blk_not_row {W : World} {B : Nat} {t e : TypeId} {cs : Array Value} (h : Blk W B t cs) (hte : t ≠ e) {base size k : Nat} {v : Value} {xs : List Value} (hr : W.ownsRow base e size v k xs) : some B ≠ v.ownBlock := by
  rcases hr.2 with ⟨rfl, _⟩ | ⟨g, cap, cur, rfl, _, hgb, _⟩
  · simp [Value.ownBlock]
  · intro e'
    have : B = g := by simpa [Value.ownBlock] using e'
    subst this
    unfold Blk at h
    rw [h] at hgb
    injection hgb with hgb
    injection hgb with _ h2 _
    exact hte h2
/-- a set of outputs -/
structure SetAt (w : World) (sb b : Nat) (T : List En) : Prop where
  hd : Blk w sb 186 #[.map (some b)]
  ut : Ut w b T
theorem SetAt.bel {w w' : World} {sb b : Nat} {T : List En} (h : SetAt w sb b T) (hb : Below w.heap.size w w') : SetAt w' sb b T := ⟨h.hd.bel hb, h.ut.bel hb h.ut.lt⟩
theorem look_en {W : World} {b : Nat} {T : List En} (h : Ut W b T) (x : En) (hx : x ∈ T) :
    (Instr.lookup 184 (.map (some b)) (.agg #[.string x.tx, .int .i64 x.out]) false).run Tryz.prog W = .ok (.agg #[.int .i64 x.o.kind, .int .u64 (x.o.am : Nat), .string x.o.key, .string x.o.gate, .int .i64 x.o.ex, .string x.o.anchor, .int .u64 (x.o.unit : Nat), .int .i64 x.o.tok, .string x.o.of_]) W := by
  have h1 := h.look1 x.pt (h.ok x hx).ok
  rw [getU_of_mem h.srt hx] at h1
  exact h1
set_option maxRecDepth 100000 in
set_option maxHeartbeats 2000000 in
theorem all_any (sb b : Nat) (T : List En) (w : World) (hS : SetAt w sb b T) (hT : T.length ≤ 1000) (h0 : 0 < T.length) :
    Calls Tryz.prog 30 #[.pointer (some ⟨sb, 0, none⟩)] w fun e w' => ∃ A c, e = .returned (.slice A T.length c) ∧ w'.ownsRow w.heap.size 89 11 (.slice A T.length c) T.length (T.flatMap En.cl) ∧ Below w.heap.size w w' := by
  obtain ⟨i0, hi, hz0, hz1, hz2⟩ := info_parts Tryz.infoEn'
  have Hz0 := Lib.hid hz0
  have HS := Lib.hid hS
  have c0 : w.cell? ⟨sb, 0, none⟩ = some (.map (some b)) := hS.hd.cell 0
  clear hz0 hS
  go_enter Tryz.func30, Tryz.ntmps30
  go_wp2_with fail
  refine (keysUF_any b w).mono ?_
  rintro e w1 ⟨rfl, hw1⟩
  have HB1 : Hid (Below w.heap.size w w1) := Lib.hid (by rw [← hw1]; exact (Below.refl _ _).alloc (Nat.le_refl _) _)
  have HM1 : Hid (Blk w1 w.heap.size 184 #[.map (some b)]) := Lib.hid (by rw [← hw1]; exact Blk.new _ _ _)
  clear hw1 c0
  have HS1 := Lib.hid (HS.out.bel HB1.out)
  go_wp2_with fail
  refine (sortedU_any w.heap.size b T w1 HM1.out HS1.out.ut hT h0).mono ?_
  rintro e w2 ⟨AP, cP, rfl, hps, hb2⟩
  have HPS := Lib.hid hps
  have HB2 := Lib.hid (HB1.out.trans (hb2.mono HB1.out.size))
  have HS2 := Lib.hid (HS1.out.bel hb2)
  clear hps hb2 HS1 HB1 HM1 HS
  have hzw2 := HB2.out.size
  go_wp2_with fail
  go_loopw [3, 13] (fun v i wr => ∃ (k : Nat) (A : Option Addr) (c : Nat), k ≤ T.length ∧ i = .int .i64 k ∧ v = .slice A k c ∧ Hid (wr.ownsRow w2.heap.size 89 11 (.slice A k c) k ((T.take k).flatMap En.cl)) ∧ Hid (Below w2.heap.size w2 wr)) (fun _ i _ => T.length - (intOf i).toNat)
  case atStart => exact ⟨0, none, 0, Nat.zero_le _, rfl, rfl, Lib.hid ⟨by simp, .inl ⟨rfl, rfl⟩⟩, Lib.hid (Below.refl _ _)⟩
  case round =>
    obtain ⟨k, A, c, hk, rfl, rfl, HO, HB⟩ := hrel
    have hzr := HB.out.size
    by_cases hlt : k < T.length
    · have hlt' : k < (T.map En.pt).length := by simpa using hlt
      obtain ⟨ab, off, rfl, hbB, hc⟩ := (HPS.out.below HB.out).at_ hlt'
      have hmem := List.getElem_mem hlt
      have HFM : Hid ((T.take (k + 1)).flatMap En.cl = (T.take k).flatMap En.cl ++ T[k].cl) := Lib.hid (by rw [List.take_succ_eq_append_getElem hlt, List.flatMap_append]; simp)
      have hpk : (T.map En.pt)[k]'hlt' = (T[k].tx, T[k].out) := by simp [En.pt]
      rw [hpk] at hc
      generalize T[k] = x at hc hmem HFM
      have HCC := Lib.hid hc
      have HMM := Lib.hid hmem
      clear hc hmem hpk hlt'
      go_upto_region 5 with (refine wpList_load_pt rfl (.tmp 15) rfl ab (off + k * 2) (by rfl) x.tx x.out HCC.out ?_)
      refine wp_gen fun X0 hX => ?_
      have HP0 : Hid (Blk X0 wr.heap.size 57 #[.string x.tx, .int .i64 x.out]) := Lib.hid (by rw [hX]; exact Blk.new _ _ _)
      have HBX : Hid (Below wr.heap.size wr X0) := Lib.hid (by rw [hX]; exact (Below.refl _ _).alloc (Nat.le_refl _) _)
      clear hX
      have HSX := Lib.hid ((HS2.out.bel HB.out).bel HBX.out)
      refine wp_region_held_drew (S := fun W => Hid (Blk W wr.heap.size 57 #[.string x.tx, .int .i64 x.out] ∧ SetAt W sb b T)) (by kernel_rfl) (Lib.hid ⟨HP0.out.drewN 1, HSX.out.bel (Below.refl _ _).drew⟩) (fun hS => ?_)
      have HO1 : Hid (X0.drew.ownsRow w2.heap.size 89 11 (.slice A k c) k ((T.take k).flatMap En.cl)) := Lib.hid (Ch.owns (Ch.of_below HBX.out []) HO.out (by simp)).drew
      have HB1 : Hid (Below w2.heap.size w2 X0.drew) := Lib.hid ((HB.out.trans (HBX.out.mono hzr)).drew)
      refine wpAnyH_genT fun X hX => ?_
      rw [← hX] at HO1 HB1 hS
      clear hX HP0 HBX HSX
      refine wpAnyH_take (i := 0) (v := ?_) rfl (by kernel_rfl) (by kernel_rfl) (by kernel_rfl) (fun _ _ _ h => h) (Or.inl ⟨by rfl, ?_⟩) hS ?_
      rotate_left
      · (intro w _; go_simp; try with_reducible rfl)
      refine wpAnyH_take (i := 1) (v := .agg #[.string x.tx, .int .i64 x.out]) rfl (by kernel_rfl) (by kernel_rfl) (by kernel_rfl) (fun _ _ _ h => h) (yields_blk (by rfl) 57 (.tmp 5) (by rfl) wr.heap.size 0 2 (t := 57) (cs := #[.string x.tx, .int .i64 x.out]) (fun W h => h.out.1) #[.string x.tx, .int .i64 x.out] (by rfl) (by rfl) Tryz.underlying57 (by kernel_rfl) (Nat.le_refl 2)) hS ?_
      refine wpAnyH_take (i := 2) (v := ?_) rfl (by kernel_rfl) (by kernel_rfl) (by kernel_rfl) (fun _ _ _ h => h) (Or.inl ⟨by rfl, ?_⟩) hS ?_
      rotate_left
      · (intro w _; go_simp; try with_reducible rfl)
      refine wpAnyH_take (i := 3) (v := ?_) rfl (by kernel_rfl) (by kernel_rfl) (by kernel_rfl) (fun _ _ _ h => h) (Or.inl ⟨by rfl, ?_⟩) hS ?_
      rotate_left
      · (intro w _; go_simp; try with_reducible rfl)
      refine wpAnyH_take (i := 4) (v := ?_) rfl (by kernel_rfl) (by kernel_rfl) (by kernel_rfl) (fun _ _ _ h => h) (Or.inl ⟨by rfl, ?_⟩) hS ?_
      rotate_left
      · (intro w _; go_simp; try with_reducible rfl)
      refine wpAnyH_take (i := 5) (v := ?_) rfl (by kernel_rfl) (by kernel_rfl) (by kernel_rfl) (fun _ _ _ h => h) (Or.inl ⟨by rfl, ?_⟩) hS ?_
      rotate_left
      · (intro w hS'; have hcell := (show World.cell? _ ⟨sb, 0, none⟩ = some (.map (some b)) from Blk.cell hS'.out.2.hd 0); go_simp; try with_reducible rfl)
      refine wpAnyH_take (i := 6) (v := .agg #[.string x.tx, .int .i64 x.out]) rfl (by kernel_rfl) (by kernel_rfl) (by kernel_rfl) (fun _ _ _ h => h) (yields_blk (by rfl) 57 (.tmp 5) (by rfl) wr.heap.size 0 2 (t := 57) (cs := #[.string x.tx, .int .i64 x.out]) (fun W h => h.out.1) #[.string x.tx, .int .i64 x.out] (by rfl) (by rfl) Tryz.underlying57 (by kernel_rfl) (Nat.le_refl 2)) hS ?_
      refine wpAnyH_take (i := 7) (v := ?_) rfl (by kernel_rfl) (by kernel_rfl) (by kernel_rfl) (fun _ _ _ h => h) (Or.inl ⟨by rfl, ?_⟩) hS ?_
      rotate_left
      · (intro w hS'; have hcell := (look_en hS'.out.2.ut x HMM.out); go_simp; try with_reducible rfl)
      refine wpAnyH_take (i := 8) (v := ?_) rfl (by kernel_rfl) (by kernel_rfl) (by kernel_rfl) (fun _ _ _ h => h) (Or.inl ⟨by rfl, ?_⟩) hS ?_
      rotate_left
      · (intro w _; go_simp; try with_reducible rfl)
      refine wpAnyH_ready (rs := [9]) (by kernel_rfl) (by simp) (AllReadyH.cons rfl (fun K hK => ?_) AllReadyH.nil)
      go_simp
      have HBX : Hid (Below X.heap.size X (X.alloc (.cells x.cs 89))) := Lib.hid ((Below.refl _ _).alloc (Nat.le_refl _) _)
      have HNB : Hid (Blk (X.alloc (.cells x.cs 89)) X.heap.size 89 x.cs) := Blk.new _ _ _
      refine hK.out _ _ (Lib.hid ⟨hS.out.1.bel HBX.out, hS.out.2.bel HBX.out⟩) (fun _ => ?_)
      clear hK K
      refine wpAnyH_genT fun X1 hX1 => ?_
      replace hX1 : X1 = X.alloc (.cells x.cs 89) := hX1
      rw [← hX1] at HBX HNB
      have HO2 : Hid (X1.ownsRow w2.heap.size 89 11 (.slice A k c) k ((T.take k).flatMap En.cl)) := Lib.hid (by rw [hX1]; exact HO1.out.alloc _)
      have HZX : Hid (X1.heap.size = X.heap.size + 1) := Lib.hid (by rw [hX1]; simp)
      clear hX1
      have HNW := Lib.hid (World.news_of_block HNB.out)
      have hbz1 : w2.heap.size ≤ X1.heap.size := by have := HB1.out.size; have := HBX.out.size; omega
      refine wpAnyH_ready (rs := [10]) (by kernel_rfl) (by simp) (AllReadyH.cons rfl (fun K hK => ?_) AllReadyH.nil)
      refine step_append_lies _ (by rfl) (.tmp 17) (.tmp 26) 85 (by rfl) w2.heap.size 89 i0 _ 11 128 Tryz.underlying85 hi Hz0.out hz1 hz2 rfl (by omega) (.slice A k c) k _ (by rfl) HO2.out ⟨X.heap.size, 0, none⟩ 1 1 x.cl (by rfl) (by rfl) HNW.out (encl_one x) (by omega) (by simp only [maxLen]; omega) (by omega) hbz1 _ rfl ?_
      intro gg cap W4 hown4 hgrow hat hlt4
      have HO4 := Lib.hid hown4
      have HBG : Hid (Below w2.heap.size X1 W4) := Lib.hid ((Below.refl _ _).grown hgrow hbz1 (own_base HO2.out))
      have HB4 : Hid (Below w2.heap.size w2 W4) := Lib.hid ((HB1.out.trans (HBX.out.mono HB1.out.size)).trans HBG.out)
      have HP4 : Hid (Blk W4 wr.heap.size 57 #[.string x.tx, .int .i64 x.out]) := Lib.hid (Blk.grown (hS.out.1.bel HBX.out) hgrow (blk_not_row (hS.out.1.bel HBX.out) (by decide) HO2.out))
      clear hown4 hgrow hat hlt4 HNB HNW HO2 HO1 HZX
      refine hK.out _ _ (Lib.hid ⟨HP4.out, HS2.out.bel HB4.out⟩) (fun hS4 => ?_)
      clear hK K
      refine wpAnyH_take (i := 11) (v := ?_) rfl (by kernel_rfl) (by kernel_rfl) (by kernel_rfl) (fun _ _ _ h => h) (Or.inl ⟨by rfl, ?_⟩) hS4 ?_
      rotate_left
      · (intro w _; go_simp; try with_reducible rfl)
      clear hS4 hS HB1 HBX HP4 HBG
      refine wpAnyH_done (by kernel_rfl) ?_ _
      go_wp2_with fail
      go_roundw
      case rel => exact ⟨k + 1, _, cap, by omega, by go_num, rfl, Lib.hid (by rw [HFM.out]; exact HO4.out), HB4⟩
      case measure => simp [intOf]; omega
    · obtain rfl : k = T.length := by omega
      go_wp2_with fail
      go_ret
      rw [List.take_length] at HO
      exact ⟨A, c, rfl, World.ownsRow.mono HO.out hzw2, HB2.out.trans (HB.out.mono hzw2)⟩
end Go.Proofs.YtjcinncphffgaaaGreat
