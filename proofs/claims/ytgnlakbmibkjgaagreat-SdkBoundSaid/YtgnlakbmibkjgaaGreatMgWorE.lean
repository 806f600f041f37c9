/- note.Worth, of any proof. -/
import Derived.Outline
import Derived.Test.YtgnlakbmibkjgaaGreatMgWorD
set_option linter.unusedVariables false
set_option linter.unusedSimpArgs false
namespace Go.Proofs.YtgnlakbmibkjgaaGreat
open Go.RowKit Go.Maps
theorem infoPf : (Tryz.prog.info? 78).map (·.size) = some 4 := by kernel_rfl
theorem infoTm : (Tryz.prog.info? 101).map (·.size) = some 5 := by kernel_rfl
def fcI (l : List Wn) : List Int := l.map fun x => (x.t.face : Int)
theorem fcs_eq (l : List Wn) : fcs l = (fcI l).map (Value.int .u64) := by simp [fcs, fcI]
/-- what the tokens are worth, or what is wrong -/
def TokX (t : Tm) (p : Pf) (v : Nat) (f : Int) : Prop :=
  (p.tok = ByteArray.empty ∧ v = 0 ∧ f = 0) ∨ (p.tok.size ≠ 16 ∧ p.tok ≠ ByteArray.empty ∧ v = 0 ∧ f = 1) ∨ (p.tok.size = 16 ∧ ∃ n b, CntP t.anchor p.tok t.tokens n b ∧ (v : Int) = (if b then mulV n t.unit else 0) ∧ f = (if b then mulE n t.unit else 4))
theorem TokX.lt {t : Tm} {p : Pf} {v : Nat} {f : Int} (h : TokX t p v f) : (v : Int) < 18446744073709551616 := by
  rcases h with ⟨_, rfl, _⟩ | ⟨_, _, rfl, _⟩ | ⟨_, n, b, _, hv, _⟩
  · decide
  · decide
  · rw [hv]
    have := (mulV_bd n t.unit).2
    cases b
    · rw [if_neg (by decide)]; decide
    · rw [if_pos rfl]; exact this
theorem fcI_bd {l : List Wn} (h : ∀ x ∈ l, x.fit) : ∀ y ∈ fcI l, 0 ≤ y ∧ y < 18446744073709551616 := by
  intro y hy
  obtain ⟨x, hx, rfl⟩ := List.mem_map.1 hy
  have := (h x hx).face
  omega
def FacX (t : Tm) (p : Pf) (f : Int) : Prop := ∃ k, ∃ h : k < p.l.length, OkTo t p.l k ∧ f = facE t (sers (p.l.take k)) p.l[k] ∧ f ≠ 0
def WorR (t : Tm) (p : Pf) (w : World) (e : Ending) (w' : World) : Prop := Below w.heap.size w w' ∧ ∃ (v f : Int), e = .returned (.tuple #[.int .u64 v, .int .i64 f]) ∧
  ((rightB p = false ∧ v = 0 ∧ f = 1) ∨ (rightB p = true ∧ ((paidB t p = false ∧ v = 0 ∧ f = 10) ∨ (paidB t p = true ∧ ((∃ z, TokX t p z f ∧ f ≠ 0 ∧ v = 0) ∨
    (∃ z : Nat, TokX t p z 0 ∧ ((FacX t p f ∧ v = 0) ∨ (OkTo t p.l p.l.length ∧ v = totV (fcI p.l ++ [(p.am : Int), (z : Int)]) ∧ f = totE (fcI p.l ++ [(p.am : Int), (z : Int)])))))))))
set_option maxRecDepth 100000 in
set_option maxHeartbeats 2000000 in
theorem worth_any (t : Tm) (p : Pf) (w : World) (ht : t.ok) (hl : p.l.length ≤ 1000) (hfit : ∀ x ∈ p.l, x.fit) (hS : Sl w w.heap.size 10 Wn.cl p.A p.l) (hs : p.sig.size ≤ 1000000) (ha : p.am < 18446744073709551616) :
    Calls Tryz.prog 34 #[.agg t.cs, .agg p.cs] w (WorR t p w) := by
  have HT := Lib.hid (Blk.alloc (Blk.new w 101 t.cs) (.cells p.cs 78))
  have HX : Hid (Blk ((w.alloc (.cells t.cs 101)).alloc (.cells p.cs 78)) (w.heap.size + 1) 78 p.cs) := Blk.newAt (by simp)
  have HB : Hid (Below w.heap.size w ((w.alloc (.cells t.cs 101)).alloc (.cells p.cs 78))) := ((Below.refl _ _).alloc (Nat.le_refl _) _).alloc (by simp) _
  have HSl : Hid (∀ W, Below w.heap.size w W → Sl W W.heap.size 10 Wn.cl p.A p.l) := fun W hb => (hS.below hb).more hb.size
  have HRI := fun W hb => Lib.hid (right_any p W (by omega) (HSl.out W hb))
  have HPA := fun W => Lib.hid (paid_any t p W ht hs ha)
  have HTO := fun W => Lib.hid (tokens_any t p W ht)
  have HFA := fun W hb => Lib.hid (faces_any t p W (by omega) hfit (HSl.out W hb))
  have HFB := Lib.hid (fcI_bd hfit)
  obtain ⟨i0, hi, hz0, hz1, hzb⟩ := info_parts Tryz.infoU64
  have Hhz := Lib.hid hz0
  clear hS hfit hs ht hz0
  go_enter Tryz.func34, Tryz.ntmps34
  go_wp2_with (first
    | (refine wpList_load_blk rfl 78 (.tmp 3) rfl _ 0 4 HX.out p.cs (by rfl) (by rfl) Tryz.underlying78 infoPf (Nat.le_refl 4) ?_))
  refine (HRI _ HB.out).out.mono ?_
  rintro e w1 ⟨rfl, hb⟩
  replace HT := Lib.hid (HT.out.bel hb)
  replace HX := Lib.hid (HX.out.bel hb)
  replace HB := Lib.hid (HB.out.trans (hb.mono HB.out.size))
  clear hb HRI
  cases hr : rightB p with
  | false =>
    have HR := Lib.hid hr
    clear hr
    go_wp2_with fail
    go_ret2
    exact ⟨HB.out, 0, 1, rfl, .inl ⟨HR.out, rfl, rfl⟩⟩
  | true =>
    have HR := Lib.hid hr
    clear hr
    go_wp2_with (first
      | (refine wpList_load_blk rfl 78 (.tmp 3) rfl _ 0 4 HX.out p.cs (by rfl) (by rfl) Tryz.underlying78 infoPf (Nat.le_refl 4) ?_)
      | (refine wpList_load_blk rfl 101 (.tmp 2) rfl _ 0 5 HT.out t.cs (by rfl) (by rfl) Tryz.underlying101 infoTm (Nat.le_refl 5) ?_))
    refine (HPA _).out.mono ?_
    rintro e w2 ⟨rfl, hb⟩
    replace HT := Lib.hid (HT.out.bel hb)
    replace HX := Lib.hid (HX.out.bel hb)
    replace HB := Lib.hid (HB.out.trans (hb.mono HB.out.size))
    clear hb HPA
    cases hp : paidB t p with
    | false =>
      have HP := Lib.hid hp
      clear hp
      go_wp2_with fail
      go_ret2
      exact ⟨HB.out, 0, 10, rfl, .inr ⟨HR.out, .inl ⟨HP.out, rfl, rfl⟩⟩⟩
    | true =>
      have HP := Lib.hid hp
      clear hp
      simp only [if_true]
      go_wp2_with (first
        | (refine wpList_load_blk rfl 78 (.tmp 3) rfl _ 0 4 HX.out p.cs (by rfl) (by rfl) Tryz.underlying78 infoPf (Nat.le_refl 4) ?_)
        | (refine wpList_load_blk rfl 101 (.tmp 2) rfl _ 0 5 HT.out t.cs (by rfl) (by rfl) Tryz.underlying101 infoTm (Nat.le_refl 5) ?_))
      refine (HTO _).out.mono ?_
      rintro e w3 ⟨z, f, rfl, hb, hx⟩
      replace HT := Lib.hid (HT.out.bel hb)
      replace HX := Lib.hid (HX.out.bel hb)
      replace HB := Lib.hid (HB.out.trans (hb.mono HB.out.size))
      have HTX : Hid (TokX t p z f) := hx
      clear hb HTO hx
      by_cases hf : f = 0
      · subst hf
        go_wp2_with (first
          | (refine wpList_load_blk rfl 78 (.tmp 3) rfl _ 0 4 HX.out p.cs (by rfl) (by rfl) Tryz.underlying78 infoPf (Nat.le_refl 4) ?_)
          | (refine wpList_load_blk rfl 101 (.tmp 2) rfl _ 0 5 HT.out t.cs (by rfl) (by rfl) Tryz.underlying101 infoTm (Nat.le_refl 5) ?_))
        refine (HFA _ HB.out).out.mono ?_
        rintro e w4 ⟨hb, hcase⟩
        have hzw := HB.out.size
        have hz34 := hb.size
        replace HB := Lib.hid (HB.out.trans (hb.mono HB.out.size))
        clear hb HFA HT HX
        rcases hcase with ⟨k, hk, hok, hne, rfl⟩ | ⟨hok, v, rfl, hown⟩
        · have HFX : Hid (FacX t p (facE t (sers (p.l.take k)) p.l[k])) := ⟨k, hk, hok, rfl, hne⟩
          have f1 : (facE t (sers (p.l.take k)) p.l[k] != 0) = true := by simp [bne, beq_eq_false_iff_ne.2 hne]
          generalize facE t (sers (p.l.take k)) p.l[k] = ff at *
          clear hok hne
          go_wp2_with fail
          go_ret2
          exact ⟨HB.out, 0, ff, rfl, .inr ⟨HR.out, .inr ⟨HP.out, .inr ⟨z, HTX.out, .inl ⟨HFX.out, rfl⟩⟩⟩⟩⟩
        · have hzl := HTX.out.lt
          have HOK := Lib.hid hok
          rw [fcs_eq] at hown
          obtain ⟨B, cc, rfl⟩ := own_form hown
          have HO := Lib.hid (hown.alloc (.cells #[.int .u64 (p.am : Int), .int .u64 (z : Int)] 27))
          have HL : Hid ((fcI p.l ++ [(p.am : Int), (z : Int)]).length = p.l.length + 2) := by show _ = _; simp [fcI]
          clear hok hown
          go_wp2_with (first
            | (at_builtin; (refine wpList_append_own _ rfl (.tmp 40) (.tmp 43) _ rfl w3.heap.size 27 i0 _ 1 8 Tryz.underlying70 hi Hhz.out hz1 hzb rfl (by decide) _ p.l.length _ rfl HO.out ⟨w4.heap.size, 0, none⟩ 2 2 [.int .u64 (p.am : Int), .int .u64 (z : Int)] rfl rfl (news_alloc _ _ _ _ _ rfl rfl) (by intro u hu; simp at hu; rcases hu with rfl | rfl <;> rfl) (by simp only [maxLen]; omega) (by omega) (by simp; omega) ?_; intro v' w5 hown5 hg5 hnil5; have HO5 := Lib.hid hown5; have HG5 := Lib.hid hg5; clear hown5 hg5 hnil5)))
          obtain ⟨B5, c5, rfl⟩ := own_form HO5.out
          have HB5 : Hid (Below w.heap.size w w5) := (HB.out.alloc (Nat.le_trans hzw hz34) _).grown HG5.out (by simp; omega) (fun b hb => by have := own_base HO.out b hb; omega)
          have e5 : (fcI p.l).map (Value.int .u64) ++ [.int .u64 (p.am : Int), .int .u64 (z : Int)] = (fcI p.l ++ [(p.am : Int), (z : Int)]).map (Value.int .u64) := by simp
          have HS := Lib.hid (sum64_any B5 (fcI p.l ++ [(p.am : Int), (z : Int)]) c5 w5 (by rw [HL.out]; omega) (by
            intro y hy
            rcases List.mem_append.1 hy with h | h
            · exact HFB.out y h
            · simp at h; rcases h with rfl | rfl <;> omega) (Sl.of_own (base := w3.heap.size) (n := p.l.length + 2) (c := c5) (e := 27) (fun _ => rfl) (by rw [u64_flat, ← e5, HL.out]; exact HO5.out)))
          rw [HL.out] at HS
          have HTZ := Lib.hid (Eq.refl (totV (fcI p.l ++ [(p.am : Int), (z : Int)])))
          generalize hv : totV (fcI p.l ++ [(p.am : Int), (z : Int)]) = tv at HS
          generalize hf : totE (fcI p.l ++ [(p.am : Int), (z : Int)]) = tf at HS
          have HV := Lib.hid hv
          have HF := Lib.hid hf
          clear hv hf e5 HTZ hzl
          go_wp2_with fail
          refine HS.out.mono ?_
          rintro e w6 ⟨rfl, rfl⟩
          go_wp2_with fail
          go_ret2
          exact ⟨HB5.out, tv, tf, rfl, .inr ⟨HR.out, .inr ⟨HP.out, .inr ⟨z, HTX.out, .inr ⟨HOK.out, HV.out.symm, HF.out.symm⟩⟩⟩⟩⟩
      · have f1 : (f != 0) = true := by simp [bne, beq_eq_false_iff_ne.2 hf]
        have HF := Lib.hid hf
        clear hf
        go_wp2_with fail
        go_ret2
        exact ⟨HB.out, 0, f, rfl, .inr ⟨HR.out, .inr ⟨HP.out, .inl ⟨z, HTX.out, HF.out, rfl⟩⟩⟩⟩
end Go.Proofs.YtgnlakbmibkjgaaGreat
