/- chain: New, Height, Tip, Set. chain: Push. chain: Pop, At. chain: At. -/
import Derived.Outline
import Derived.Deep.RegionHeld3
import Derived.Deep.AppendLies
import Derived.Test.YtjcinncphffgaaaGreatMjCuX
import Derived.Test.YtjcinncphffgaaaGreatMjG34
import Derived.Test.YtjcinncphffgaaaGreatMjG35
import Derived.Test.YtjcinncphffgaaaGreatMjG44
import Derived.Test.YtjcinncphffgaaaGreatMjK4
import Derived.Test.YtjcinncphffgaaaGreatMjN6
set_option linter.unusedVariables false
set_option linter.unusedSimpArgs false
namespace Go.Proofs.YtjcinncphffgaaaGreat
open Go.RowKit Go.Maps
variable {w : World} {cb : Nat} {m : CnM} {s : Cn}
set_option maxRecDepth 100000 in
set_option maxHeartbeats 1000000 in
theorem cnew_ok (A : Option Addr) (l : List Ou) (c : Nat) (w : World) (hS : Sl w w.heap.size 9 Ou.cl A l) (hn : newU l = true) (ham : ∀ o ∈ l, o.am < 18446744073709551616) :
    Calls Tryz.prog 9 #[.slice A l.length c] w fun e w' => ∃ cb m, e = .returned (.tuple #[.pointer (some ⟨cb, 0, none⟩), .int .i64 0]) ∧ w.heap.size ≤ cb ∧ CnAt w' cb m ⟨firstB l, [], utN (firstB l) l⟩ ∧ Below w.heap.size w w' := by
  have h2 : l.length ≤ 64 := by
    unfold newU at hn
    simp only [Bool.and_eq_true, decide_eq_true_eq] at hn
    omega
  have hz : ∀ o ∈ l, o.fz := fun o ho => ⟨fits_key (by
    unfold newU at hn
    simp only [Bool.and_eq_true, decide_eq_true_eq] at hn
    exact List.all_eq_true.1 hn.2 o ho), ham o ho⟩
  have HU := Lib.hid (unew_ok A l c w hS hn ham)
  have HF := fun W (h : Below w.heap.size w W) => Lib.hid (first_any A l c W ((hS.below h).more h.size) h2 hz)
  clear hS hn ham hz
  go_enter Tryz.func9, Tryz.ntmps9
  go_wp2_with fail
  refine HU.out.mono ?_
  rintro e w1 ⟨sb, b, rfl, hsb, hbb, hset, hb⟩
  have HS := Lib.hid hset
  have HB := Lib.hid hb
  clear hset hb HU
  go_wp2_with fail
  refine (HF _ HB.out).out.mono ?_
  rintro e w2 ⟨rfl, hb⟩
  replace HS := Lib.hid (HS.out.bel hb)
  replace HB := Lib.hid (HB.out.trans (hb.mono HB.out.size))
  have hz2 := HB.out.size
  clear hb HF
  go_wp2_with fail
  go_ret2
  exact ⟨w2.heap.size, ⟨none, 0, [], sb, b⟩, rfl, hz2, ⟨Blk.new _ _ _, Sl.nil _ _ _ _ _, fun _ => rfl, Nat.le_refl _, HS.out.bel ((Below.refl _ _).alloc (Nat.le_refl _) _), rfl, fun i x y h => by simp at h⟩, HB.out.alloc hz2 _⟩
set_option maxRecDepth 100000 in
theorem cnew_no (A : Option Addr) (l : List Ou) (c : Nat) (w : World) (hS : Sl w w.heap.size 9 Ou.cl A l) (hl : l.length ≤ 1000000) (hn : newU l = false) :
    Calls Tryz.prog 9 #[.slice A l.length c] w fun e w' => e = .returned (.tuple #[.pointer none, .int .i64 1]) ∧ Below w.heap.size w w' := by
  have HU := Lib.hid (unew_no A l c w hS hl hn)
  clear hS hn
  go_enter Tryz.func9, Tryz.ntmps9
  go_wp2_with fail
  refine HU.out.mono ?_
  rintro e w1 ⟨rfl, hb⟩
  have HB := Lib.hid hb
  clear hb HU
  go_wp2_with fail
  go_ret2
  exact ⟨rfl, HB.out⟩
set_option maxRecDepth 100000 in
theorem cheight_any (h : CnAt w cb m s) : Calls Tryz.prog 14 #[.pointer (some ⟨cb, 0, none⟩)] w fun e w' => e = .returned (.int .i64 (s.ls.length : Int)) ∧ w' = w := by
  have c1 : w.cell? ⟨cb, 1, none⟩ = some (.slice m.A m.L.length m.c) := h.hd.cell 1
  rw [← h.len]
  clear h
  go_enter Tryz.func14, Tryz.ntmps14
  go_wp2_with fail
  go_ret
  exact ⟨rfl, rfl⟩
set_option maxRecDepth 100000 in
theorem cset_any (h : CnAt w cb m s) : Calls Tryz.prog 60 #[.pointer (some ⟨cb, 0, none⟩)] w fun e w' => ∃ sb' b', e = .returned (.pointer (some ⟨sb', 0, none⟩)) ∧ w.heap.size ≤ sb' ∧ w.heap.size ≤ b' ∧ SetAt w' sb' b' s.T ∧ Below w.heap.size w w' := by
  have c2 : w.cell? ⟨cb, 2, none⟩ = some (.pointer (some ⟨m.sb, 0, none⟩)) := h.hd.cell 2
  have HC := Lib.hid (ucopy_any m.sb m.b s.T w h.set)
  clear h
  go_enter Tryz.func60, Tryz.ntmps60
  go_wp2_with fail
  refine HC.out.mono ?_
  rintro e w1 ⟨sb', b', rfl, h1, h2, h3, h4⟩
  have H := Lib.hid (And.intro h1 (And.intro h2 (And.intro h3 h4)))
  clear h1 h2 h3 h4 HC
  go_wp2
  go_ret
  exact ⟨sb', b', rfl, H.out⟩
/-- all blocks of a chain are such -/
def Cn.okk (s : Cn) : Prop := ∀ y ∈ s.ls, rightK y.1 = true ∧ ∀ t ∈ y.1.txs, TxOk t
theorem Good.okk {T0 : List En} {s : Cn} (h : Good T0 s) : s.okk := by
  induction h with
  | new f hf => intro y hy; cases hy
  | push s b hs hp ht ih =>
    intro y hy
    rcases List.mem_append.1 (show y ∈ s.ls ++ [(b, s.T)] from hy) with hy | hy
    · exact ih y hy
    · rw [List.mem_singleton.1 hy]; exact ⟨(push_zero hp).1, ht⟩
theorem Cn.okk.at_ (h : s.okk) {i : Nat} {y : Bk × List En} (hy : s.ls[i]? = some y) : rightK y.1 = true ∧ ∀ t ∈ y.1.txs, TxOk t := h y (List.mem_of_getElem? hy)
theorem lm_blk (x : Lm) : x.cs.extract 0 (0 + 3) = x.b.cs := rfl
/-- the cells of a chain's link -/
theorem CnAt.link (h : CnAt w cb m s) {i : Nat} (hi : i < m.L.length) : ∃ b off, m.A = some ⟨b, off, none⟩ ∧ b < w.heap.size ∧ ∀ j u, (m.L[i]).cl[j]? = some u → w.cell? ⟨b, off + i * 4 + j, none⟩ = some u := h.sl.at_ hi
theorem blk_of_link {w : World} {b o : Nat} {x : Lm} (h : ∀ j u, x.cl[j]? = some u → w.cell? ⟨b, o + j, none⟩ = some u) : ∀ j u, x.b.cl[j]? = some u → w.cell? ⟨b, o + j, none⟩ = some u := fun j u hu => h j u (by
  have : x.cl = x.b.cl ++ [.pointer (some ⟨x.sb, 0, none⟩)] := rfl
  rw [this, List.getElem?_append_left (List.getElem?_eq_some_iff.1 hu).1]; exact hu)
theorem bmcl_arr (b : Bm) : b.cl.toArray = b.cs := Array.toArray_toList ..
theorem lmcl_arr (b : Lm) : b.cl.toArray = b.cs := Array.toArray_toList ..
/-- the last index -/
theorem last_ix {n k : Nat} (h : n = k + 1) (hn : n ≤ 1000000) : wrap64 ((n : Int) - 1) = (k : Int) ∧ IntKind.i64.wrap ((n : Int) - 1) = (k : Int) ∧ (0 : Int) ≤ (k : Int) ∧ (k : Int) < (n : Int) ∧ k < n := by
  have e : (n : Int) - 1 = (k : Int) := by omega
  refine ⟨by rw [e]; exact IntWalk.wrap64_in _ ⟨by omega, by omega⟩, by rw [e]; exact IntWalk.i64_in _ (by omega), by omega, by omega, by omega⟩
set_option maxRecDepth 100000 in
set_option maxHeartbeats 2000000 in
theorem ctip_any (h : CnAt w cb m s) (hk : s.okk) (hl : s.ls.length ≤ 1000000) : Calls Tryz.prog 58 #[.pointer (some ⟨cb, 0, none⟩)] w fun e w' => e = .returned (.string (tipC s)) ∧ Below w.heap.size w w' := by
  have c0 : w.cell? ⟨cb, 0, none⟩ = some (.string s.first) := h.hd.cell 0
  have c1 : w.cell? ⟨cb, 1, none⟩ = some (.slice m.A m.L.length m.c) := h.hd.cell 1
  by_cases h0 : m.L.length = 0
  · have ht : tipC s = s.first := by
      have : s.ls = [] := List.length_eq_zero_iff.1 (by rw [← h.len]; exact h0)
      unfold tipC; rw [this]; rfl
    have d0 : ((m.L.length : Int) == 0) = true := by simp; exact List.length_eq_zero_iff.1 h0
    have d0' : (m.L.length == 0) = true := by simp; exact List.length_eq_zero_iff.1 h0
    rw [ht]
    rw [h0] at c1
    clear h ht d0 d0' h0
    go_enter Tryz.func58, Tryz.ntmps58
    go_wp2_with fail
    go_ret
    exact ⟨rfl, Below.refl _ _⟩
  · obtain ⟨k, hk1⟩ : ∃ k, m.L.length = k + 1 := ⟨m.L.length - 1, by omega⟩
    have hkl : k < m.L.length := by omega
    obtain ⟨y, hy, hlm⟩ := h.last hkl
    obtain ⟨b, off, hA, hbB, hrow⟩ := h.link hkl
    have hok := hk.at_ hy
    have ht : tipC s = idK (m.L[k]).b.bk := by
      unfold tipC
      rw [List.getLast?_eq_getElem?, ← h.len, hk1, Nat.add_sub_cancel, hy, hlm.bk]
    have HID := fun W (hb : Below w.heap.size w W) => Lib.hid (bid_gen (m.L[k]).b W (hlm.mem.bel hb) (by have := (right_k hok.1).len; rw [← hlm.bk] at this; exact Nat.le_trans this (by omega)) (fun t ht => hok.2 t (by rw [← hlm.bk]; exact ht)))
    have hcap : m.L.length ≤ 1000000 := by rw [h.len]; exact hl
    rw [ht]
    generalize m.L[k] = x at hrow HID ⊢
    rw [hA] at c1
    obtain ⟨n, hn⟩ : ∃ n, n = m.L.length := ⟨_, rfl⟩
    rw [← hn] at c1 hk1 hcap h0
    obtain ⟨e1, e1', e2, e3, e4⟩ := last_ix hk1 hcap
    have d0 : ((n : Int) == 0) = false := by simp; omega
    have d0' : (n == 0) = false := by simp; omega
    have hrow' := blk_of_link hrow
    generalize m.c = c at c1
    have HC := Lib.hid hrow'
    have HCB := Lib.hid h.hd.lt
    have HBB := Lib.hid hbB
    generalize idK x.b.bk = r at HID ⊢
    clear h ht hy hlm hok hk hrow hrow' hA hn hkl c0 hbB hk1 hcap
    go_enter Tryz.func58, Tryz.ntmps58
    go_upto_region 3 with fail
    refine wp_region_held_drew (S := fun W => Hid (Below w.heap.size w W)) (by kernel_rfl) (Lib.hid (Below.refl _ _).drew) (fun hS => ?_)
    refine wpAnyH_genT fun X hX => ?_
    rw [← hX] at hS
    clear hX
    refine wpAnyH_take (i := 0) (v := ?_) rfl (by kernel_rfl) (by kernel_rfl) (by kernel_rfl) (fun _ _ _ h => h) (Or.inl ⟨by rfl, ?_⟩) hS ?_
    rotate_left
    · (intro w _; go_simp; try with_reducible rfl)
    refine wpAnyH_take (i := 1) (v := ?_) rfl (by kernel_rfl) (by kernel_rfl) (by kernel_rfl) (fun _ _ _ h => h) (Or.inl ⟨by rfl, ?_⟩) hS ?_
    rotate_left
    · (intro w _; go_simp; try with_reducible rfl)
    refine wpAnyH_take (i := 2) (v := ?_) rfl (by kernel_rfl) (by kernel_rfl) (by kernel_rfl) (fun _ _ _ h => h) (Or.inl ⟨by rfl, ?_⟩) hS ?_
    rotate_left
    · (intro w _; go_simp; try with_reducible rfl)
    refine wpAnyH_take (i := 3) (v := ?_) rfl (by kernel_rfl) (by kernel_rfl) (by kernel_rfl) (fun _ _ _ h => h) (Or.inl ⟨by rfl, ?_⟩) hS ?_
    rotate_left
    · (intro w hS'; have hcell := ((hS'.out.cell (p := ⟨cb, 1, none⟩) HCB.out).trans c1); go_simp; try with_reducible rfl)
    refine wpAnyH_take (i := 4) (v := ?_) rfl (by kernel_rfl) (by kernel_rfl) (by kernel_rfl) (fun _ _ _ h => h) (Or.inl ⟨by rfl, ?_⟩) hS ?_
    rotate_left
    · (intro w _; go_simp; try with_reducible rfl)
    refine wpAnyH_take (i := 5) (v := ?_) rfl (by kernel_rfl) (by kernel_rfl) (by kernel_rfl) (fun _ _ _ h => h) (Or.inl ⟨by rfl, ?_⟩) hS ?_
    rotate_left
    · (intro w _; go_simp; try with_reducible rfl)
    refine wpAnyH_take (i := 6) (v := ?_) rfl (by kernel_rfl) (by kernel_rfl) (by kernel_rfl) (fun _ _ _ h => h) (Or.inl ⟨by rfl, ?_⟩) hS ?_
    rotate_left
    · (intro w _; go_simp; try with_reducible rfl)
    refine wpAnyH_take (i := 7) (v := ?_) rfl (by kernel_rfl) (by kernel_rfl) (by kernel_rfl) (fun _ _ _ h => h) (Or.inl ⟨by rfl, ?_⟩) hS ?_
    rotate_left
    · (intro w hS'; have hcell := ((hS'.out.cell (p := ⟨cb, 1, none⟩) HCB.out).trans c1); go_simp; try with_reducible rfl)
    refine wpAnyH_take (i := 8) (v := ?_) rfl (by kernel_rfl) (by kernel_rfl) (by kernel_rfl) (fun _ _ _ h => h) (Or.inl ⟨by rfl, ?_⟩) hS ?_
    rotate_left
    · (intro w _; go_simp; try with_reducible rfl)
    refine wpAnyH_take (i := 9) (v := ?_) rfl (by kernel_rfl) (by kernel_rfl) (by kernel_rfl) (fun _ _ _ h => h) (Or.inl ⟨by rfl, ?_⟩) hS ?_
    rotate_left
    · (intro w _; go_simp; try with_reducible rfl)
    refine wpAnyH_take (i := 10) (v := ?_) rfl (by kernel_rfl) (by kernel_rfl) (by kernel_rfl) (fun _ _ _ h => h) (Or.inl ⟨by rfl, ?_⟩) hS ?_
    rotate_left
    · (intro w _; go_simp; try with_reducible rfl)
    refine wpAnyH_take (i := 11) (v := ?_) rfl (by kernel_rfl) (by kernel_rfl) (by kernel_rfl) (fun _ _ _ h => h) (Or.inl ⟨by rfl, ?_⟩) hS ?_
    rotate_left
    · (intro w _; go_simp; try with_reducible rfl)
    refine wpAnyH_take (i := 12) (v := .agg x.b.cs) rfl (by kernel_rfl) (by kernel_rfl) (by kernel_rfl) (fun _ _ _ h => h) (yields_row (by rfl) 37 (.tmp 24) (by rfl) b (off + k * 4) x.b.cl (fun W hW => rows_bel HC.out HBB.out hW.out) x.b.cs (by go_simp) (bmcl_arr x.b) Tryz.underlying37 infoBk) hS ?_
    refine wpAnyH_ready (rs := [13]) (by kernel_rfl) (by simp) (AllReadyH.cons rfl (fun K hK => ?_) AllReadyH.nil)
    go_simp
    refine (HID X hS.out).out.mono ?_
    rintro e Y ⟨rfl, hb⟩
    have hS1 : Hid (Below w.heap.size w Y) := Lib.hid (hS.out.trans (hb.mono hS.out.size))
    clear hb
    go_simp
    refine hK.out _ _ hS1 (fun _ => ?_)
    clear hK K hS
    refine wpAnyH_take (i := 14) (v := ?_) rfl (by kernel_rfl) (by kernel_rfl) (by kernel_rfl) (fun _ _ _ h => h) (Or.inl ⟨by rfl, ?_⟩) hS1 ?_
    rotate_left
    · (intro w _; go_simp; try with_reducible rfl)
    refine wpAnyH_done (by kernel_rfl) ?_ _
    go_simp
    go_wp2_with fail
    go_ret
    exact ⟨rfl, hS1.out⟩
end Go.Proofs.YtjcinncphffgaaaGreat
namespace Go.Proofs.YtjcinncphffgaaaGreat
open Go.RowKit Go.Maps
theorem lmcl_one (x : Lm) : ∀ u ∈ x.cl, u.oneCell' = true := fun u hu => Array.all_eq_true'.1 (lmcs_one x) u (by simpa [Lm.cl] using hu)
/-- own, its answer's cells told -/
theorem own_x (b : Bm) (w : World) (hm : b.mem w) (hl : b.txs.length ≤ 1000) (hk : ∀ t ∈ b.txs, t.sm) :
    Calls Tryz.prog 66 #[.agg b.cs] w fun e w' => ∃ b' : Bm, e = .returned (.agg #[.int .i64 b'.h, .string b'.prev, .slice b'.A b'.txs.length b'.c]) ∧ b.bk.al b'.bk ∧ (∀ W, SameB w.heap.size w' W → b'.mem W) ∧ Below w.heap.size w w' := own_any b w hm hl hk
/-- the outputs behind the first transactions -/
theorem run_take (l : List Txn) (k : Nat) (hk : k < l.length) (h : Int) (T : List En) {T' : List En} (hr : runT (l.take k) h T = (0, T')) : runT (l.take (k + 1)) h T = if checkE T' l[k] h = 0 then (0, applyT T' l[k]) else (checkE T' l[k] h, T') := by
  rw [List.take_succ_eq_append_getElem hk, runT_snoc _ _ _ _ (by rw [hr]), hr]
theorem runT_app : ∀ (l m : List Txn) (h : Int) (T : List En), (runT l h T).1 ≠ 0 → runT (l ++ m) h T = runT l h T
  | [], _, _, _, k => absurd rfl k
  | t :: r, m, h, T, k => by
    by_cases hx : checkE T t h = 0
    · rw [List.cons_append, runT, runT, if_pos hx, if_pos hx]
      rw [runT, if_pos hx] at k
      exact runT_app r m h _ k
    · rw [List.cons_append, runT, runT, if_neg hx, if_neg hx]
theorem run_bad (l : List Txn) (k : Nat) (hk : k < l.length) (h : Int) (T : List En) {T' : List En} (hr : runT (l.take k) h T = (0, T')) (hc : checkE T' l[k] h ≠ 0) : (runT l h T).1 = checkE T' l[k] h := by
  have h1 := run_take l k hk h T hr
  rw [if_neg hc] at h1
  have h2 := runT_app (l.take (k + 1)) (l.drop (k + 1)) h T (by rw [h1]; exact hc)
  rw [List.take_append_drop] at h2
  rw [h2, h1]
/-- what Push leaves -/
structure PushR (w : World) (cb : Nat) (s : Cn) (b : Bm) (c : Int) (w' : World) : Prop where
  no : c ≠ 0 → Below w.heap.size w w'
  ok : c = 0 → ∃ m' k, b.bk.al k ∧ CnAt w' cb m' (pushS s k) ∧ Ch [cb] w w'
variable {w : World} {cb : Nat} {m : CnM} {s : Cn}
theorem push_left {b : Bm} (h : rightK b.bk = false) : pushC s b.bk = 4 := by unfold pushC; rw [if_pos h]
theorem push_rule {b : Bm} (h : rightK b.bk = true) (h2 : b.h ≠ (s.ls.length : Int) + 1 ∨ b.prev ≠ tipC s) : pushC s b.bk = 13 := by
  unfold pushC
  rw [if_neg (by rw [h]; decide)]
  exact if_pos h2
theorem push_run {b : Bm} (h : rightK b.bk = true) (h2 : b.h = (s.ls.length : Int) + 1) (h3 : b.prev = tipC s) : pushC s b.bk = (runT b.txs b.h s.T).1 := by
  unfold pushC
  rw [if_neg (by rw [h]; decide), if_neg (by rintro (k | k); exact k h2; exact k h3)]
  rfl
set_option maxRecDepth 100000 in
set_option maxHeartbeats 4000000 in
theorem cpush_any (b : Bm) (h : CnAt w cb m s) (hok : s.okk) (hts : TS s.T) (hl : s.ls.length ≤ 1000) (hlt : s.T.length ≤ 800) (hb : b.mem w) (hbl : b.txs.length ≤ 1000) (hbx : ∀ t ∈ b.txs, TxOk t) :
    Calls Tryz.prog 12 #[.pointer (some ⟨cb, 0, none⟩), .agg b.cs] w fun e w' => e = .returned (.int .i64 (pushC s b.bk)) ∧ PushR w cb s b (pushC s b.bk) w' := by
  have HRT := fun W (hW : Below w.heap.size w W) => Lib.hid (bright_gen b W (hb.bel hW) hbl (fun t ht => (hbx t ht).sm))
  have HHE := fun W (hW : Below w.heap.size w W) => Lib.hid (cheight_any (h.bel hW))
  have HTI := fun W (hW : Below w.heap.size w W) => Lib.hid (ctip_any (h.bel hW) hok (by omega))
  have HX : Hid (Blk (w.alloc (.cells b.cs 37)) w.heap.size 37 b.cs) := Lib.hid (Blk.new _ _ _)
  have HB : Hid (Below w.heap.size w (w.alloc (.cells b.cs 37))) := Lib.hid ((Below.refl _ _).alloc (Nat.le_refl _) _)
  have hlw : wrap64 ((s.ls.length : Int) + 1) = (s.ls.length : Int) + 1 := IntWalk.wrap64_in _ ⟨by omega, by omega⟩
  have hlw' : IntKind.i64.wrap ((s.ls.length : Int) + 1) = (s.ls.length : Int) + 1 := IntWalk.i64_in _ (by omega)
  cases hr : rightK b.bk with
  | false =>
    rw [hr] at HRT
    rw [push_left hr]
    clear hr h hok hts hb hbx HHE HTI hlw hlw'
    go_enter Tryz.func12, Tryz.ntmps12
    go_wp2_with (first | (refine wpList_load_blk rfl 37 (.tmp 3) rfl w.heap.size 0 3 HX.out b.cs (by rfl) (bm_ext b) Tryz.underlying37 infoBk (Nat.le_refl 3) ?_))
    refine (HRT _ HB.out).out.mono ?_
    rintro e W1 ⟨rfl, hb⟩
    have HB1 := Lib.hid (HB.out.trans (hb.mono HB.out.size))
    clear hb
    go_wp2_with fail
    go_ret
    exact ⟨rfl, fun _ => HB1.out, fun q => absurd q (by decide)⟩
  | true =>
    rw [hr] at HRT
    have hb8 := (right_k hr).len
    have hb8' : b.txs.length ≤ 8 := hb8
    clear hb8
    by_cases hh : b.h = (s.ls.length : Int) + 1
    rotate_left
    · rw [push_rule hr (.inl hh)]
      have d1 : (b.h != (s.ls.length : Int) + 1) = true := by simpa [bne_iff_ne] using hh
      clear hr h hok hts hb hbx HTI hh
      go_enter Tryz.func12, Tryz.ntmps12
      go_wp2_with (first | (refine wpList_load_blk rfl 37 (.tmp 3) rfl w.heap.size 0 3 HX.out b.cs (by rfl) (bm_ext b) Tryz.underlying37 infoBk (Nat.le_refl 3) ?_))
      refine (HRT _ HB.out).out.mono ?_
      rintro e W1 ⟨rfl, hb⟩
      replace HX := Lib.hid (HX.out.bel hb)
      replace HB := Lib.hid (HB.out.trans (hb.mono HB.out.size))
      clear hb
      go_upto_region 3 with fail
      have q0 := cell_rg (show W1.cell? ⟨w.heap.size, 0, none⟩ = some (.int .i64 b.h) from HX.out.cell 0)
      have q1 := cell_rg (show W1.cell? ⟨w.heap.size, 1, none⟩ = some (.string b.prev) from HX.out.cell 1)
      refine wp_region_quiet_below (by kernel_rfl) (by kernel_rfl) ?_
      repeat (first | go_big_quiet_skip | (go_big_quiet_want; first | (fail; go_big_quiet_on) | (go_big_quiet_op; first | go_big_quiet_on | go_big_quiet_call ((first
              | (go_at_call 14; exact Calls.rg_same fun W hW => (HHE W (HB.out.trans (hW.mono HB.out.size))).out))))))
      refine wpQuiet_nil ?_
      intro U hp
      have hb := bel_regrown hp
      clear hp
      replace HB := Lib.hid (HB.out.trans (hb.mono HB.out.size))
      clear hb
      go_wp2_with fail
      go_ret
      exact ⟨rfl, fun _ => HB.out, fun q => absurd q (by decide)⟩
    have d1 : (b.h != (s.ls.length : Int) + 1) = false := by simpa using hh
    by_cases hp : b.prev = tipC s
    rotate_left
    · rw [push_rule hr (.inr hp)]
      have d2 : (b.prev.toList == (tipC s).toList) = false := by
        rw [toList_beq, decide_eq_false hp]
      clear hr h hok hts hb hbx hh hp
      generalize tipC s = tp at HTI d2
      go_enter Tryz.func12, Tryz.ntmps12
      go_wp2_with (first | (refine wpList_load_blk rfl 37 (.tmp 3) rfl w.heap.size 0 3 HX.out b.cs (by rfl) (bm_ext b) Tryz.underlying37 infoBk (Nat.le_refl 3) ?_))
      refine (HRT _ HB.out).out.mono ?_
      rintro e W1 ⟨rfl, hb⟩
      replace HX := Lib.hid (HX.out.bel hb)
      replace HB := Lib.hid (HB.out.trans (hb.mono HB.out.size))
      clear hb
      go_upto_region 3 with fail
      have q0 := cell_rg (show W1.cell? ⟨w.heap.size, 0, none⟩ = some (.int .i64 b.h) from HX.out.cell 0)
      have q1 := cell_rg (show W1.cell? ⟨w.heap.size, 1, none⟩ = some (.string b.prev) from HX.out.cell 1)
      refine wp_region_quiet_below (by kernel_rfl) (by kernel_rfl) ?_
      repeat (first | go_big_quiet_skip | (go_big_quiet_want; first | (fail; go_big_quiet_on) | (go_big_quiet_op; first | go_big_quiet_on | go_big_quiet_call ((first
              | (go_at_call 14; exact Calls.rg_same fun W hW => (HHE W (HB.out.trans (hW.mono HB.out.size))).out)
              | (go_at_call 58; exact Calls.rg fun W hW => (HTI W (HB.out.trans (hW.mono HB.out.size))).out))))))
      refine wpQuiet_nil ?_
      intro U hp
      have hb := bel_regrown hp
      clear hp
      replace HB := Lib.hid (HB.out.trans (hb.mono HB.out.size))
      clear hb
      go_wp2_with fail
      go_ret
      exact ⟨rfl, fun _ => HB.out, fun q => absurd q (by decide)⟩
    have d2 : (b.prev.toList == (tipC s).toList) = true := by
      rw [toList_beq, decide_eq_true hp]
    rw [push_run hr hh hp]
    have HH := Lib.hid h
    have HTS := Lib.hid hts
    have HBM := Lib.hid hb
    have HBX := Lib.hid hbx
    have HDD := Lib.hid d1
    have HCY := fun W (hW : Below w.heap.size w W) => Lib.hid (ucopy_any m.sb m.b s.T W (h.set.bel hW))
    have HRS : Hid (∀ k, k ≤ b.txs.length → ∀ T', runT (b.txs.take k) b.h s.T = (0, T') → TS T' ∧ T'.length ≤ 900) := Lib.hid (fun k hk T' hq => by
      have e := List.length_take_of_le hk
      have h1 := run_ts (b.txs.take k) b.h s.T hts (fun t ht => hbx t (List.mem_of_mem_take ht)) (by rw [e]; omega) (by rw [hq])
      rw [hq] at h1
      have h2 : T'.length ≤ s.T.length + 4 * (b.txs.take k).length := h1.2
      exact ⟨h1.1, by omega⟩)
    clear hr h hok hts hb hbx hh hp
    generalize htp : tipC s = tp at HTI d2
    clear htp
    have hlen1 : (1 : Int) ≤ 1 := by omega
    go_enter Tryz.func12, Tryz.ntmps12
    go_wp2_with (first | (refine wpList_load_blk rfl 37 (.tmp 3) rfl w.heap.size 0 3 HX.out b.cs (by rfl) (bm_ext b) Tryz.underlying37 infoBk (Nat.le_refl 3) ?_))
    refine (HRT _ HB.out).out.mono ?_
    rintro e W1 ⟨rfl, hb⟩
    replace HX := Lib.hid (HX.out.bel hb)
    replace HB := Lib.hid (HB.out.trans (hb.mono HB.out.size))
    clear hb
    go_upto_region 3 with fail
    have q0 := cell_rg (show W1.cell? ⟨w.heap.size, 0, none⟩ = some (.int .i64 b.h) from HX.out.cell 0)
    have q1 := cell_rg (show W1.cell? ⟨w.heap.size, 1, none⟩ = some (.string b.prev) from HX.out.cell 1)
    refine wp_region_quiet_below (by kernel_rfl) (by kernel_rfl) ?_
    repeat (first | go_big_quiet_skip | (go_big_quiet_want; first | (fail; go_big_quiet_on) | (go_big_quiet_op; first | go_big_quiet_on | go_big_quiet_call ((first
          | (go_at_call 14; exact Calls.rg_same fun W hW => (HHE W (HB.out.trans (hW.mono HB.out.size))).out)
          | (go_at_call 58; exact Calls.rg fun W hW => (HTI W (HB.out.trans (hW.mono HB.out.size))).out))))))
    refine wpQuiet_nil ?_
    intro U hp
    have hb := bel_regrown hp
    clear hp
    replace HX := Lib.hid (HX.out.bel (Below.mono hb (Nat.le_refl _)))
    replace HB := Lib.hid (HB.out.trans (hb.mono HB.out.size))
    clear hb HHE HTI HRT q0 q1
    have c2 : U.cell? ⟨cb, 2, none⟩ = some (.pointer (some ⟨m.sb, 0, none⟩)) := (HH.out.bel HB.out).hd.cell 2
    go_wp2_with fail
    refine (HCY U HB.out).out.mono ?_
    rintro e W2 ⟨sn, bn, rfl, hsn, hbn, hset, hb⟩
    have HSN : Hid (w.heap.size ≤ bn) := Lib.hid (Nat.le_trans HB.out.size hbn)
    have HS := Lib.hid hset
    replace HX := Lib.hid (HX.out.bel hb)
    replace HB := Lib.hid (HB.out.trans (hb.mono HB.out.size))
    clear hb hset hsn hbn HCY c2 d1 d2 hlw hlw'
    have c2 : W2.cell? ⟨w.heap.size, 2, none⟩ = some (.slice b.A b.txs.length b.c) := HX.out.cell 2
    obtain ⟨A0, hA0⟩ : ∃ A, b.A = A := ⟨_, rfl⟩
    rw [hA0] at c2
    have HA0 := Lib.hid hA0
    clear hA0
    go_wp2_with fail
    go_loopw [35] (fun i wr => ∃ (k : Nat) (T' : List En), k ≤ b.txs.length ∧ i = .int .i64 k ∧ Hid (runT (b.txs.take k) b.h s.T = (0, T')) ∧ Hid (SetAt wr sn bn T') ∧ Hid (Blk wr w.heap.size 37 b.cs) ∧ Hid (Below w.heap.size w wr)) (fun i _ => b.txs.length - (intOf i).toNat)
    case atStart => exact ⟨0, s.T, Nat.zero_le _, rfl, Lib.hid rfl, HS, HX, HB⟩
    case round =>
      clear HS HX HB c2
      obtain ⟨k, T', hk, rfl, HRN, HS, HX, HB⟩ := hrel
      by_cases hlt : k < b.txs.length
      · have d0 : decide (k < b.txs.length) = true := decide_eq_true hlt
        obtain ⟨ab, off, hA, hab, hc⟩ := HBM.out.sl.at_ hlt
        have HC : Hid (∀ j u, (b.txs[k]).cl[j]? = some u → wr.cell? ⟨ab, off + k * 6 + j, none⟩ = some u) := Lib.hid (fun j u hu => (HB.out.cell (p := ⟨ab, off + k * 6 + j, none⟩) hab).trans (hc j u hu))
        have HTM := Lib.hid ((HBM.out.txs _ (List.getElem_mem hlt)).1)
        have HTO := Lib.hid (HBX.out _ (List.getElem_mem hlt))
        have HST := Lib.hid (run_take b.txs k hlt b.h s.T HRN.out)
        have HBA := Lib.hid (fun q => run_bad b.txs k hlt b.h s.T HRN.out q)
        obtain ⟨hts', hl9⟩ := HRS.out k hk T' HRN.out
        have KA := fun W (h1 : SetAt W sn bn T') (hW : Below w.heap.size w W) => Lib.hid (apply_any sn bn T' b.txs[k] b.h W h1 (HTM.out.bel hW) hts'.1 HTO.out)
        generalize b.txs[k] = x at HC HTM HTO HST HBA KA
        generalize checkE T' x b.h = ck at HST HBA KA
        generalize applyT T' x = T2 at HST KA
        obtain rfl : A0 = some ⟨ab, off, none⟩ := HA0.out.symm.trans hA
        clear hA hc hts' hl9 HRS
        go_wp2_with (first
          | (refine wpList_load_tx rfl (.tmp 37) rfl ab (off + k * 6) (by rfl) x HC.out ?_)
          | (refine wpList_store_part rfl 53 (.tmp 7) (.tmp 38) rfl wr.heap.size 0 (cs := zTxK) (Blk.new _ _ _) x.cs x.cs (by rfl) (by rfl) (Nat.le_refl 6) infoTx (txncs_one x) (txn_over x rfl) ?_; intro W3 hb1 hc1; have hb := bel_st' hc1; have H7 := Lib.hid hb1; replace HS := Lib.hid (HS.out.bel hb); replace HX := Lib.hid (HX.out.bel hb); replace HB := Lib.hid (HB.out.trans (Below.mono hb HB.out.size)); have c0 : W3.cell? ⟨w.heap.size, 0, none⟩ = some (.int .i64 b.h) := HX.out.cell 0; clear hb1 hc1 hb)
          | (refine wpList_load_blk rfl 53 (.tmp 7) rfl wr.heap.size 0 6 H7.out x.cs (by rfl) (txn_ext x) Tryz.underlying53 infoTx (Nat.le_refl 6) ?_))
        refine (KA _ HS.out HB.out).out.mono ?_
        rintro e W4 ⟨rfl, hc, hset⟩
        replace HX := Lib.hid (HX.out.ch hc (by have := HSN.out; have := HS.out.ut.ne_blk HX.out; simpa using Ne.symm this))
        replace HB := Lib.hid (HB.out.trans (hc.below HB.out.size (by have := HSN.out; simpa using this)))
        clear hc KA c0 H7 HC
        by_cases hck : ck = 0
        · rw [if_pos hck] at hset HST
          have HS4 := Lib.hid hset
          subst hck
          clear hset HBA
          go_wp2_with fail
          go_roundw
          case rel => exact ⟨k + 1, T2, by omega, by go_num, HST, HS4, HX, HB⟩
          case measure => simp [intOf]; omega
        · have f1 : (ck != 0) = true := by simpa [bne_iff_ne] using hck
          have HE := Lib.hid (HBA.out hck)
          have HNZ := Lib.hid hck
          clear hset hck HBA
          go_wp2_with fail
          go_ret
          refine ⟨by rw [HE.out]; rfl, fun _ => HB.out, fun q => absurd (HE.out.symm.trans q) HNZ.out⟩
      · have d0 : decide (k < b.txs.length) = false := decide_eq_false hlt
        obtain rfl : k = b.txs.length := by omega
        have HRE : Hid (runT b.txs b.h s.T = (0, T')) := Lib.hid (by have := HRN.out; rwa [List.take_length] at this)
        have hre : (runT b.txs b.h s.T).1 = 0 := by rw [HRE.out]
        have HR0 := Lib.hid hre
        have hh := HH.out.bel HB.out
        have HHC := Lib.hid hh
        have HCB := Lib.hid hh.hd.lt
        have HCL := fun W (hW : Below wr.heap.size wr W) => Lib.hid (clone_lmG m.A m.L m.c W ((hh.sl.below hW).more hW.size) (by have := hh.len; omega) hh.nz)
        have HOW := fun W (hW : Below wr.heap.size wr W) => Lib.hid (own_x b W (HBM.out.bel (HB.out.trans (hW.mono HB.out.size))) hbl (fun t ht => (HBX.out t ht).sm))
        have k1 : wr.cell? ⟨cb, 1, none⟩ = some (.slice m.A m.L.length m.c) := hh.hd.cell 1
        have k2 : wr.cell? ⟨cb, 2, none⟩ = some (.pointer (some ⟨m.sb, 0, none⟩)) := hh.hd.cell 2
        have hml : m.L.length ≤ 1000 := by have := hh.len; omega
        obtain ⟨n0, hni, hn0, hw1, hw2⟩ := info_parts Tryz.infoLmC
        have Hnz := Lib.hid hn0
        clear hn0 hre HRN hh HRS hk hlt
        go_upto_region 13 with fail
        refine wp_region_z (fun W => Hid (Below wr.heap.size wr W)) [17] (by kernel_rfl) (Lib.hid (Below.refl _ _).drew) (fun hS => ?_)
        refine wpAnyZ_gen fun X hX => ?_
        rw [← hX] at hS
        clear hX
        refine wpAnyZ_take (i := 0) (v := ?_) rfl (by kernel_rfl) (by kernel_rfl) (by kernel_rfl) (by kernel_rfl) (by kernel_rfl) (by decide) (fun _ _ _ h => h) (Or.inl ⟨by rfl, ?_⟩) hS ?_
        rotate_left
        · (intro w _; go_simp; try with_reducible rfl)
        refine wpAnyZ_take (i := 1) (v := ?_) rfl (by kernel_rfl) (by kernel_rfl) (by kernel_rfl) (by kernel_rfl) (by kernel_rfl) (by decide) (fun _ _ _ h => h) (Or.inl ⟨by rfl, ?_⟩) hS ?_
        rotate_left
        · (intro w _; go_simp; try with_reducible rfl)
        refine wpAnyZ_take (i := 2) (v := ?_) rfl (by kernel_rfl) (by kernel_rfl) (by kernel_rfl) (by kernel_rfl) (by kernel_rfl) (by decide) (fun _ _ _ h => h) (Or.inl ⟨by rfl, ?_⟩) hS ?_
        rotate_left
        · (intro w _; go_simp; try with_reducible rfl)
        refine wpAnyZ_take (i := 3) (v := ?_) rfl (by kernel_rfl) (by kernel_rfl) (by kernel_rfl) (by kernel_rfl) (by kernel_rfl) (by decide) (fun _ _ _ h => h) (Or.inl ⟨by rfl, ?_⟩) hS ?_
        rotate_left
        · (intro w _; go_simp; try with_reducible rfl)
        refine wpAnyZ_take (i := 4) (v := ?_) rfl (by kernel_rfl) (by kernel_rfl) (by kernel_rfl) (by kernel_rfl) (by kernel_rfl) (by decide) (fun _ _ _ h => h) (Or.inl ⟨by rfl, ?_⟩) hS ?_
        rotate_left
        · (intro w hS'; have hcell := ((hS'.out.cell (p := ⟨cb, 1, none⟩) HCB.out).trans k1); go_simp; try with_reducible rfl)
        refine wpAnyZ_take (i := 6) (v := .agg b.cs) rfl (by kernel_rfl) (by kernel_rfl) (by kernel_rfl) (by kernel_rfl) (by kernel_rfl) (by decide) (fun _ _ _ h => h) ((yields_blk (by rfl) 37 (.tmp 3) (by rfl) w.heap.size 0 3 (t := 37) (cs := b.cs) (fun W h => HX.out.bel h.out) b.cs (by rfl) (bm_ext b) Tryz.underlying37 infoBk (Nat.le_refl 3))) hS ?_
        refine wpAnyZ_take (i := 8) (v := ?_) rfl (by kernel_rfl) (by kernel_rfl) (by kernel_rfl) (by kernel_rfl) (by kernel_rfl) (by decide) (fun _ _ _ h => h) (Or.inl ⟨by rfl, ?_⟩) hS ?_
        rotate_left
        · (intro w _; go_simp; try with_reducible rfl)
        refine wpAnyZ_take (i := 9) (v := ?_) rfl (by kernel_rfl) (by kernel_rfl) (by kernel_rfl) (by kernel_rfl) (by kernel_rfl) (by decide) (fun _ _ _ h => h) (Or.inl ⟨by rfl, ?_⟩) hS ?_
        rotate_left
        · (intro w _; go_simp; try with_reducible rfl)
        refine wpAnyZ_take (i := 10) (v := ?_) rfl (by kernel_rfl) (by kernel_rfl) (by kernel_rfl) (by kernel_rfl) (by kernel_rfl) (by decide) (fun _ _ _ h => h) (Or.inl ⟨by rfl, ?_⟩) hS ?_
        rotate_left
        · (intro w _; go_simp; try with_reducible rfl)
        refine wpAnyZ_take (i := 11) (v := ?_) rfl (by kernel_rfl) (by kernel_rfl) (by kernel_rfl) (by kernel_rfl) (by kernel_rfl) (by decide) (fun _ _ _ h => h) (Or.inl ⟨by rfl, ?_⟩) hS ?_
        rotate_left
        · (intro w hS'; have hcell := ((hS'.out.cell (p := ⟨cb, 2, none⟩) HCB.out).trans k2); go_simp; try with_reducible rfl)
        refine wpAnyZ_ready (rs := [5]) (by kernel_rfl) (by simp) (AllReadyZ.cons rfl (fun K hK => ?_) AllReadyZ.nil)
        go_simp
        refine (HCL X hS.out).out.mono ?_
        rintro e Y ⟨A1, c1, rfl, hO, _, hb⟩
        have hS1 : Hid (Below wr.heap.size wr Y) := Lib.hid (hS.out.trans (hb.mono hS.out.size))
        have HO := Lib.hid (hO.mono hS.out.size)
        have HYB : Hid (∀ q, (Value.slice A1 m.L.length c1).ownBlock = some q → q < Y.heap.size) := Lib.hid (fun q hq => (hO.lt q hq).2)
        clear hO hb HCL
        go_simp
        refine hK.out _ _ (fun _ => hS1) ?_
        clear hK K
        clear hS
        refine wpAnyZ_ready (rs := [7]) (by kernel_rfl) (by simp) (AllReadyZ.cons rfl (fun K hK => ?_) AllReadyZ.nil)
        go_simp
        refine (HOW Y hS1.out).out.mono ?_
        rintro e Z ⟨kb, rfl, hal, hkm, hb⟩
        have HAL := Lib.hid hal
        have HKM := Lib.hid hkm
        replace HO := Lib.hid (own_belT HO.out hb)
        have hS2 : Hid (Below wr.heap.size wr Z) := Lib.hid (hS1.out.trans (hb.mono hS1.out.size))
        clear hal hkm hb HOW
        go_simp
        refine hK.out _ _ (fun _ => hS2) ?_
        clear hK K
        clear hS1
        refine wpAnyZ_take (i := 12) (v := ?_) rfl (by kernel_rfl) (by kernel_rfl) (by kernel_rfl) (by kernel_rfl) (by kernel_rfl) (by decide) (fun _ _ _ h => h) (Or.inl ⟨by rfl, ?_⟩) hS2 ?_
        rotate_left
        · (intro w _; go_simp; try with_reducible rfl)
        refine wpAnyZ_ready (rs := [13]) (by kernel_rfl) (by simp) (AllReadyZ.cons rfl (fun K hK => ?_) AllReadyZ.nil)
        go_simp
        have HBA : Hid (Below Z.heap.size Z (Z.alloc (.cells (Lm.mk kb m.sb m.b).cs 152))) := Lib.hid ((Below.refl _ _).alloc (Nat.le_refl _) _)
        have HNB : Hid (Blk (Z.alloc (.cells (Lm.mk kb m.sb m.b).cs 152)) Z.heap.size 152 (Lm.mk kb m.sb m.b).cs) := Blk.new _ _ _
        refine hK.out _ _ (fun _ => Lib.hid (hS2.out.trans (HBA.out.mono hS2.out.size))) ?_
        clear hK K
        refine wpAnyZ_gen fun X1 hX1 => ?_
        replace hX1 : X1 = Z.alloc (.cells (Lm.mk kb m.sb m.b).cs 152) := hX1
        rw [← hX1] at HBA HNB
        clear hX1
        have HNW := Lib.hid (World.news_of_block HNB.out)
        have HO1 := Lib.hid (own_belT HO.out HBA.out)
        refine wpAnyZ_ready (rs := [14]) (by kernel_rfl) (by simp) (AllReadyZ.cons rfl (fun K hK => ?_) AllReadyZ.nil)
        refine step_append_lies _ (by rfl) (.tmp 53) (.tmp 61) 134 (by rfl) wr.heap.size 152 n0 _ 4 56 Tryz.underlying134 hni Hnz.out hw1 hw2 rfl (by omega) (.slice A1 m.L.length c1) m.L.length (m.L.flatMap Lm.cl) (by rfl) HO1.out ⟨Z.heap.size, 0, none⟩ 1 1 (Lm.mk kb m.sb m.b).cl (by rfl) (by rfl) HNW.out (lmcl_one (Lm.mk kb m.sb m.b)) (by omega) (by simp only [maxLen]; omega) (by omega) (Nat.le_trans hS2.out.size HBA.out.size) _ rfl ?_
        intro gg cap W5 hown hgrow hat hlt5
        have HO5 := Lib.hid hown
        have HCAP := Lib.hid (own_capC hown)
        have HK5 : Hid (kb.mem W5) := Lib.hid (HKM.out W5 ⟨Nat.le_trans HBA.out.size hgrow.size, fun q hq hlq => ((hgrow.block q (Nat.lt_of_lt_of_le hlq HBA.out.size) (fun e => by have := HYB.out q e.symm; omega)).trans (HBA.out.block q hlq))⟩)
        have hS5 : Hid (Below wr.heap.size wr W5) := Lib.hid ((hS2.out.trans (HBA.out.mono hS2.out.size)).grown hgrow (Nat.le_trans hS2.out.size HBA.out.size) (fun j hj => own_base HO1.out j hj))
        clear hown hgrow hat hlt5 HNB HNW HO1 HO HBA hS2
        refine hK.out _ _ (fun _ => hS5) ?_
        clear hK K
        refine wpAnyZ_take (i := 15) (v := ?_) rfl (by kernel_rfl) (by kernel_rfl) (by kernel_rfl) (by kernel_rfl) (by kernel_rfl) (by decide) (fun _ _ _ h => h) (Or.inl ⟨by rfl, ?_⟩) hS5 ?_
        rotate_left
        · (intro w _; go_simp; try with_reducible rfl)
        refine wpAnyZ_take (i := 16) (v := ?_) rfl (by kernel_rfl) (by kernel_rfl) (by kernel_rfl) (by kernel_rfl) (by kernel_rfl) (by decide) (fun _ _ _ h => h) (Or.inl ⟨by rfl, ?_⟩) hS5 ?_
        rotate_left
        · (intro w _; go_simp; try with_reducible rfl)
        refine wpAnyZ_ready (rs := [17]) (by kernel_rfl) (by simp) (AllReadyZ.cons rfl (fun K hK => ?_) AllReadyZ.nil)
        have u1 : W5.cell? ⟨cb, 1, none⟩ = some (.slice m.A m.L.length m.c) := (hS5.out.cell (p := ⟨cb, 1, none⟩) HCB.out).trans k1
        have u2 : W5.cell? ⟨cb, 2, none⟩ = some (.pointer (some ⟨m.sb, 0, none⟩)) := (hS5.out.cell (p := ⟨cb, 2, none⟩) HCB.out).trans k2
        have z1 : W5.frozen? ⟨cb, 1, none⟩ = false := (HHC.out.bel hS5.out).hd.frozen 1
        have z2 : W5.frozen? ⟨cb, 2, none⟩ = false := (HHC.out.bel hS5.out).hd.frozen 2
        go_simp
        refine hK.out _ _ (fun h => absurd (by decide) h) ?_
        clear hK K
        refine wpAnyZ_done (by kernel_rfl) ?_ _
        go_wp2_with fail
        go_ret
        have hh5 := HHC.out.bel hS5.out
        have hc : Ch [cb] W5 ((W5.setCell ⟨cb, 1, none⟩ (.slice (some ⟨gg, 0, none⟩) (m.L.length + 1) cap)).setCell ⟨cb, 2, none⟩ (.pointer (some ⟨sn, 0, none⟩))) := (Ch.set_ (by simp) _ _ _).trans (Ch.set_ (by simp) _ _ _)
        have hd : Blk ((W5.setCell ⟨cb, 1, none⟩ (.slice (some ⟨gg, 0, none⟩) (m.L.length + 1) cap)).setCell ⟨cb, 2, none⟩ (.pointer (some ⟨sn, 0, none⟩))) cb 136 (cnH s.first (some ⟨gg, 0, none⟩) (m.L.length + 1) cap sn) := (hh5.hd.set_ 1 (.slice (some ⟨gg, 0, none⟩) (m.L.length + 1) cap)).set_ 2 (.pointer (some ⟨sn, 0, none⟩))
        have hsl : Sl W5 W5.heap.size 4 Lm.cl (some ⟨gg, 0, none⟩) (m.L ++ [Lm.mk kb m.sb m.b]) := Sl.of_own (base := wr.heap.size) (n := m.L.length + 1) (c := cap) (e := 152) (fun _ => rfl) (by
          rw [List.length_append, List.length_singleton, List.flatMap_append, List.flatMap_singleton]; exact HO5.out)
        have hT : (runT kb.bk.txs kb.bk.h s.T).2 = T' := by
          have e1 : runT kb.bk.txs kb.bk.h s.T = runT b.txs b.h s.T := by rw [← HAL.out.h]; exact (runT_al HAL.out.txs _ _).symm
          rw [e1, HRE.out]
        refine ⟨by rw [HR0.out]; rfl, fun q => absurd HR0.out q, fun _ => ⟨⟨some ⟨gg, 0, none⟩, cap, m.L ++ [Lm.mk kb m.sb m.b], sn, bn⟩, kb.bk, HAL.out, ?_, (Ch.of_below (HB.out.trans (hS5.out.mono HB.out.size)) _).trans hc⟩⟩
        have hps : pushS s kb.bk = ⟨s.first, s.ls ++ [(kb.bk, s.T)], T'⟩ := by unfold pushS; rw [hT]
        rw [hps]
        exact hh5.push hc hd hsl (by simp) HCAP.out ⟨rfl, HK5.out, hh5.set⟩ (HS.out.bel hS5.out)
end Go.Proofs.YtjcinncphffgaaaGreat
namespace Go.Proofs.YtjcinncphffgaaaGreat
open Go.RowKit Go.Maps
variable {w : World} {cb : Nat} {m : CnM} {s : Cn}
theorem infoLm4 : (Tryz.prog.info? 152).map (·.size) = some 4 := by kernel_rfl
theorem lm_over (x : Lm) {cs : Array Value} (h : cs.size = 4) : over cs 0 x.cs.toList = x.cs := (over_full x.cs.toList cs (by rw [h]; rfl)).trans (Array.toArray_toList ..)
set_option maxRecDepth 100000 in
set_option maxHeartbeats 1000000 in
theorem cpop_none (h : CnAt w cb m s) (hl : s.ls.length = 0) : Calls Tryz.prog 57 #[.pointer (some ⟨cb, 0, none⟩)] w fun e w' => e = .returned (.tuple #[.agg zBm.cs, .int .i64 6]) ∧ Below w.heap.size w w' := by
  have c1 : w.cell? ⟨cb, 1, none⟩ = some (.slice m.A m.L.length m.c) := h.hd.cell 1
  rw [h.len, hl] at c1
  have HCB := Lib.hid h.hd.lt
  have e1 : wrap64 ((0 : Int) - 1) = -1 := by rw [show (0 : Int) - 1 = -1 from rfl]; exact IntWalk.wrap64_in _ ⟨by decide, by decide⟩
  clear h hl
  go_enter Tryz.func57, Tryz.ntmps57
  go_upto_region 1 with fail
  refine wp_gen fun V0 hV0 => ?_
  have HB : Hid (Below w.heap.size w V0) := Lib.hid (by rw [hV0]; exact (Below.refl _ _).alloc (Nat.le_refl _) _)
  have HR : Hid (Blk V0 w.heap.size 37 zBm.cs) := Lib.hid (by rw [hV0]; exact Blk.new _ _ _)
  replace c1 : V0.cell? ⟨cb, 1, none⟩ = some (.slice m.A 0 m.c) := (HB.out.cell (p := ⟨cb, 1, none⟩) HCB.out).trans c1
  clear hV0
  go_wp2_with (first
    | (refine wpList_store_part rfl 37 (.tmp 2) (.tmp 14) rfl w.heap.size 0 HR.out zBm.cs zBm.cs (by rfl) (by rfl) (Nat.le_refl 3) infoBk (bmcs_one _) (bm_over _ rfl) ?_; intro W6 hb6 hc6; have HT6 := Lib.hid hb6; have HC6 := Lib.hid hc6; clear hb6 hc6))
  exact bodyPost_ret (results_cell_row2 rfl _ HT6.out rfl Tryz.underlying37 infoBk) rfl ⟨rfl, HB.out.trans (HC6.out.below HB.out.size (by simp))⟩
set_option maxRecDepth 100000 in
set_option maxHeartbeats 2000000 in
theorem cpop_x {ls : List (Bk × List En)} {k : Bk} {T : List En} (h : CnAt w cb m s) (hs : s.ls = ls ++ [(k, T)]) (hok : s.okk) (hl : s.ls.length ≤ 1000) :
    Calls Tryz.prog 57 #[.pointer (some ⟨cb, 0, none⟩)] w fun e w' => ∃ (b' : Bm) (m' : CnM), e = .returned (.tuple #[.agg b'.cs, .int .i64 0]) ∧ k.al b'.bk ∧ (∀ W, SameB w.heap.size w' W → b'.mem W) ∧ CnAt w' cb m' ⟨s.first, ls, T⟩ ∧ Ch [cb] w w' ∧ ∀ V V', CnAt V cb m s → Ch [cb] V V' → Blk V' cb 136 (cnH s.first m'.A m'.L.length m'.c m'.sb) → CnAt V' cb m' ⟨s.first, ls, T⟩ := by
  have c1 : w.cell? ⟨cb, 1, none⟩ = some (.slice m.A m.L.length m.c) := h.hd.cell 1
  have c2 : w.cell? ⟨cb, 2, none⟩ = some (.pointer (some ⟨m.sb, 0, none⟩)) := h.hd.cell 2
  have hn1 : m.L.length = ls.length + 1 := by rw [h.len, hs]; simp
  have hkl : ls.length < m.L.length := by omega
  obtain ⟨y, hy, hlm⟩ := h.last hkl
  have hyk : y = (k, T) := by
    rw [hs] at hy
    simp at hy
    exact hy.symm
  subst hyk
  have hmL : m.L = m.L.take ls.length ++ [m.L[ls.length]] := by
    have := List.take_succ_eq_append_getElem hkl
    rw [← hn1, List.take_length] at this
    exact this
  have hkr := hok.at_ (i := ls.length) (y := (k, T)) (by rw [hs]; simp)
  obtain ⟨b, off, hA, hbB, hrow⟩ := h.link hkl
  have hcap := h.cap
  have HPOP := fun W W' (hb : Below w.heap.size w W) (hc : Ch [cb] W W') (hd : Blk W' cb 136 (cnH s.first m.A (m.L.take ls.length).length m.c m.L[ls.length].sb)) => Lib.hid ((h.bel hb).pop hc hmL hs hd)
  have HPV := fun V V' (hV : CnAt V cb m s) (hc : Ch [cb] V V') (hd : Blk V' cb 136 (cnH s.first m.A (m.L.take ls.length).length m.c m.L[ls.length].sb)) => Lib.hid (hV.pop hc hmL hs hd)
  have HLM := fun W W' (hb : Below w.heap.size w W) (hc : Ch [cb] W W') => Lib.hid (((h.bel hb).far hc).2.2 ls.length (m.L[ls.length]) (k, T) (List.getElem?_eq_getElem hkl) hy).mem
  have HOW := fun W (hW : (m.L[ls.length]).b.mem W) => Lib.hid (own_x (m.L[ls.length]).b W hW (by have := (right_k hkr.1).len; rw [← hlm.bk] at this; exact Nat.le_trans this (by omega)) (fun t ht => (hkr.2 t (by rw [← hlm.bk]; exact ht)).sm))
  have HBK := Lib.hid hlm.bk
  have hml : m.L.length ≤ 1000 := by rw [h.len]; exact hl
  have HD := Lib.hid h.hd
  have htl : (m.L.take ls.length).length = ls.length := by simp; omega
  rw [htl] at HPOP
  generalize m.L[ls.length] = x at hrow HPOP HPV HOW HBK HLM
  have HC := Lib.hid hrow
  have HBB := Lib.hid hbB
  obtain ⟨A0, hA0⟩ : ∃ A, m.A = A := ⟨_, rfl⟩
  rw [hA0] at c1 HPOP HPV HD hA
  subst hA
  obtain ⟨n, hn⟩ : ∃ n, n = m.L.length := ⟨_, rfl⟩
  rw [← hn] at c1 hn1 hcap hml HD
  generalize ls.length = j at *
  obtain ⟨e1, e1', e2, e3, e4⟩ := last_ix hn1 (by omega)
  have HCB := Lib.hid HD.out.lt
  have d0 : decide ((j : Int) < 0) = false := decide_eq_false (by omega)
  clear h hs hok hl hlm hy hmL hkr hrow hkl htl hA0 hbB hn hn1
  go_enter Tryz.func57, Tryz.ntmps57
  go_upto_region 1 with fail
  refine wp_gen fun V0 hV0 => ?_
  have HB0 : Hid (Below w.heap.size w V0) := Lib.hid (by rw [hV0]; exact (Below.refl _ _).alloc (Nat.le_refl _) _)
  have HR0 : Hid (Blk V0 w.heap.size 37 zBm.cs) := Lib.hid (by rw [hV0]; exact Blk.new _ _ _)
  have HC0 : Hid (∀ j' u, x.cl[j']? = some u → V0.cell? ⟨b, off + j * 4 + j', none⟩ = some u) := Lib.hid (fun j' u hu => (HB0.out.cell (p := ⟨b, off + j * 4 + j', none⟩) HBB.out).trans (HC.out j' u hu))
  replace c1 : V0.cell? ⟨cb, 1, none⟩ = some (.slice (some ⟨b, off, none⟩) n m.c) := (HB0.out.cell (p := ⟨cb, 1, none⟩) HCB.out).trans c1
  clear hV0 HC
  go_upto_region 5 with (first
    | (refine wpList_load_mid (P := Tryz.prog) rfl 152 (.tmp 20) rfl b (off + j * 4) (by rfl) x.cl _ HC0.out Tryz.underlying152 rfl (by rw [infoLm4]; rfl) ?_; rw [lmcl_arr])
    | (refine wpList_store_part rfl 152 (.tmp 5) (.tmp 21) rfl V0.heap.size 0 (cs := zLm) (Blk.new _ _ _) x.cs x.cs (by rfl) (by rfl) (Nat.le_refl 4) infoLm4 (lmcs_one x) (lm_over x rfl) ?_; intro V1 hb1 hc1; have hb := bel_st' hc1; have H5 := Lib.hid hb1; have HR1 := Lib.hid (HR0.out.bel hb); have HB1 := Lib.hid (HB0.out.trans (Below.mono hb HB0.out.size)); clear hb1 hc1 hb))
  try go_frame
  have hV5 : Hid (V0.heap.size ≠ w.heap.size) := Lib.hid (by have := HR0.out.lt; omega)
  generalize V0.heap.size = g5 at H5 hV5 ⊢
  have k1 : V1.cell? ⟨cb, 1, none⟩ = some (.slice (some ⟨b, off, none⟩) n m.c) := (HB1.out.cell (p := ⟨cb, 1, none⟩) HCB.out).trans (HD.out.cell 1)
  have k2 : V1.cell? ⟨cb, 2, none⟩ = some (.pointer (some ⟨m.sb, 0, none⟩)) := (HB1.out.cell (p := ⟨cb, 2, none⟩) HCB.out).trans c2
  have y3 : V1.cell? ⟨g5, 3, none⟩ = some (.pointer (some ⟨x.sb, 0, none⟩)) := H5.out.cell 3
  have z1 : V1.frozen? ⟨cb, 1, none⟩ = false := (HD.out.bel HB1.out).frozen 1
  have z2 : V1.frozen? ⟨cb, 2, none⟩ = false := (HD.out.bel HB1.out).frozen 2
  have hjc : j ≤ m.c := by omega
  have hjc' : (j : Int) ≤ (m.c : Int) := by omega
  go_region
  generalize hV6 : World.drew (World.setCell (World.setCell V1 ⟨cb, 1, none⟩ (.slice (some ⟨b, off, none⟩) j m.c)) ⟨cb, 2, none⟩ (.pointer (some ⟨x.sb, 0, none⟩))) = V6
  have HCS : Hid (Ch [cb] V1 V6) := Lib.hid (by rw [← hV6]; exact ((Ch.set_ (by simp) _ _ _).trans (Ch.set_ (by simp) _ _ _)).trans (Ch.drewN _ _ 1))
  have HD6 : Hid (Blk V6 cb 136 (cnH s.first (some ⟨b, off, none⟩) j m.c x.sb)) := Lib.hid (by rw [← hV6]; exact (((HD.out.bel HB1.out).set_ 1 (.slice (some ⟨b, off, none⟩) j m.c)).set_ 2 (.pointer (some ⟨x.sb, 0, none⟩))).drewN 1)
  have HM6 := Lib.hid (HLM V1 V6 HB1.out HCS.out)
  have H56 : Hid (Blk V6 g5 152 x.cs) := Lib.hid (H5.out.ch HCS.out (by have := H5.out.ne_ (HD.out.bel HB1.out) (by decide); simpa using this))
  have HR6 : Hid (Blk V6 w.heap.size 37 zBm.cs) := Lib.hid (HR1.out.ch HCS.out (by have := HR1.out.ne_ (HD.out.bel HB1.out) (by decide); simpa using this))
  have HC6 : Hid (Ch [cb, w.heap.size] w V6) := Lib.hid ((Ch.of_below HB1.out _).trans (HCS.out.mono (by simp)))
  clear hV6 k1 k2 y3 z1 z2 HCS H5 HR1 HLM
  go_wp2_with (refine wpList_load_blk rfl 37 (.tmp 36) rfl g5 0 3 H56.out x.b.cs (by rfl) (lm_blk x) Tryz.underlying37 infoBk (by show 3 ≤ 4; omega) ?_)
  refine (HOW V6 HM6.out).out.mono ?_
  rintro e V7 ⟨b', rfl, hal, hkm, hb⟩
  have HAL := Lib.hid hal
  have HKM := Lib.hid hkm
  have HR7 := Lib.hid (HR6.out.bel hb)
  have HD7 := Lib.hid (HD6.out.bel hb)
  have HC7 : Hid (Ch [cb, w.heap.size] w V7) := Lib.hid (HC6.out.trans (Ch.of_below hb _))
  have hz6 : Hid (w.heap.size < V6.heap.size) := Lib.hid HR6.out.lt
  have hz7 : Hid (V6.heap.size ≤ V7.heap.size) := Lib.hid hb.size
  clear hal hkm hb HOW HM6
  go_wp2_with (refine wpList_store_part rfl 37 (.tmp 2) (.tmp 38) rfl w.heap.size 0 HR7.out #[.int .i64 b'.h, .string b'.prev, .slice b'.A b'.txs.length b'.c] b'.cs (by rfl) (by rfl) (Nat.le_refl 3) infoBk (bmcs_one b') (bm_over b' rfl) ?_; intro V8 hb8 hc8; have HT8 := Lib.hid hb8; have HC8 := Lib.hid hc8; clear hb8 hc8)
  have hch : Ch [cb] w V8 := (HC7.out.trans (HC8.out.mono (by simp))).mono (by simp)
  have hd8 : Blk V8 cb 136 (cnH s.first (some ⟨b, off, none⟩) j m.c x.sb) := HD7.out.ch HC8.out (by have := HR7.out.ne_ HD7.out (by decide); simpa using Ne.symm this)
  refine bodyPost_ret (results_cell_row2 rfl _ HT8.out rfl Tryz.underlying37 infoBk) rfl ⟨b', _, rfl, by rw [← HBK.out]; exact HAL.out, fun W hs => HKM.out W ⟨Nat.le_trans HC8.out.size hs.size, fun q hq hlq => ?_⟩, (HPOP w V8 (Below.refl _ _) hch hd8).out, hch, fun V V' hV hc hd => (HPV V V' hV hc hd).out⟩
  have h6 := hz6.out
  rw [hs.block q (by omega) (Nat.lt_of_lt_of_le hlq HC8.out.size)]
  exact HC8.out.block q hlq (by simp; omega)
theorem cpop_any {ls : List (Bk × List En)} {k : Bk} {T : List En} (h : CnAt w cb m s) (hs : s.ls = ls ++ [(k, T)]) (hok : s.okk) (hl : s.ls.length ≤ 1000) :
    Calls Tryz.prog 57 #[.pointer (some ⟨cb, 0, none⟩)] w fun e w' => ∃ (b' : Bm) (m' : CnM), e = .returned (.tuple #[.agg b'.cs, .int .i64 0]) ∧ k.al b'.bk ∧ (∀ W, SameB w.heap.size w' W → b'.mem W) ∧ CnAt w' cb m' ⟨s.first, ls, T⟩ ∧ Ch [cb] w w' :=
  (cpop_x h hs hok hl).mono fun _ _ h => by
    obtain ⟨b', m', h1, h2, h3, h4, h5, _⟩ := h
    exact ⟨b', m', h1, h2, h3, h4, h5⟩
set_option maxRecDepth 100000 in
set_option maxHeartbeats 1000000 in
theorem cat_none (i : Int) (h : CnAt w cb m s) (hi : i < 1 ∨ (s.ls.length : Int) < i) : Calls Tryz.prog 15 #[.pointer (some ⟨cb, 0, none⟩), .int .i64 i] w fun e w' => e = .returned (.tuple #[.agg zBm.cs, .bool false]) ∧ Below w.heap.size w w' := by
  have c1 : w.cell? ⟨cb, 1, none⟩ = some (.slice m.A m.L.length m.c) := h.hd.cell 1
  rw [h.len] at c1
  have HCB := Lib.hid h.hd.lt
  clear h
  generalize s.ls.length = n at c1 hi
  by_cases h1 : i < 1
  · have d1 : decide (i < (1 : Int)) = true := decide_eq_true h1
    clear hi h1
    go_enter Tryz.func15, Tryz.ntmps15
    go_upto_region 1 with fail
    refine wp_gen fun V0 hV0 => ?_
    have HB : Hid (Below w.heap.size w V0) := Lib.hid (by rw [hV0]; exact (Below.refl _ _).alloc (Nat.le_refl _) _)
    have HR : Hid (Blk V0 w.heap.size 37 zBm.cs) := Lib.hid (by rw [hV0]; exact Blk.new _ _ _)
    replace c1 : V0.cell? ⟨cb, 1, none⟩ = some (.slice m.A n m.c) := (HB.out.cell (p := ⟨cb, 1, none⟩) HCB.out).trans c1
    clear hV0
    go_wp2_with (refine wpList_store_part rfl 37 (.tmp 4) (.tmp 17) rfl w.heap.size 0 HR.out zBm.cs zBm.cs (by rfl) (by rfl) (Nat.le_refl 3) infoBk (bmcs_one _) (bm_over _ rfl) ?_; intro W6 hb6 hc6; have HT6 := Lib.hid hb6; have HC6 := Lib.hid hc6; clear hb6 hc6)
    exact bodyPost_ret (results_cell_row2 rfl _ HT6.out rfl Tryz.underlying37 infoBk) rfl ⟨rfl, HB.out.trans (HC6.out.below HB.out.size (by simp))⟩
  · have d1 : decide (i < (1 : Int)) = false := decide_eq_false h1
    have d2 : decide ((n : Int) < i) = true := decide_eq_true (by omega)
    have d3 : decide (i > (n : Int)) = true := d2
    clear hi h1
    go_enter Tryz.func15, Tryz.ntmps15
    go_upto_region 1 with fail
    refine wp_gen fun V0 hV0 => ?_
    have HB : Hid (Below w.heap.size w V0) := Lib.hid (by rw [hV0]; exact (Below.refl _ _).alloc (Nat.le_refl _) _)
    have HR : Hid (Blk V0 w.heap.size 37 zBm.cs) := Lib.hid (by rw [hV0]; exact Blk.new _ _ _)
    replace c1 : V0.cell? ⟨cb, 1, none⟩ = some (.slice m.A n m.c) := (HB.out.cell (p := ⟨cb, 1, none⟩) HCB.out).trans c1
    clear hV0
    go_wp2_with (refine wpList_store_part rfl 37 (.tmp 4) (.tmp 17) rfl w.heap.size 0 HR.out zBm.cs zBm.cs (by rfl) (by rfl) (Nat.le_refl 3) infoBk (bmcs_one _) (bm_over _ rfl) ?_; intro W6 hb6 hc6; have HT6 := Lib.hid hb6; have HC6 := Lib.hid hc6; clear hb6 hc6)
    exact bodyPost_ret (results_cell_row2 rfl _ HT6.out rfl Tryz.underlying37 infoBk) rfl ⟨rfl, HB.out.trans (HC6.out.below HB.out.size (by simp))⟩
end Go.Proofs.YtjcinncphffgaaaGreat
namespace Go.Proofs.YtjcinncphffgaaaGreat
open Go.RowKit Go.Maps
variable {w : World} {cb : Nat} {m : CnM} {s : Cn}
set_option maxRecDepth 100000 in
set_option maxHeartbeats 2000000 in
theorem cat_any (i k : Nat) (h : CnAt w cb m s) (hok : s.okk) (hl : s.ls.length ≤ 1000) (hk : i = k + 1) (hi : i ≤ s.ls.length) :
    Calls Tryz.prog 15 #[.pointer (some ⟨cb, 0, none⟩), .int .i64 (i : Int)] w fun e w' => ∃ (b' : Bm) (y : Bk × List En), e = .returned (.tuple #[.agg b'.cs, .bool true]) ∧ s.ls[k]? = some y ∧ y.1.al b'.bk ∧ (∀ W, SameB w.heap.size w' W → b'.mem W) ∧ Below w.heap.size w w' := by
  have c1 : w.cell? ⟨cb, 1, none⟩ = some (.slice m.A m.L.length m.c) := h.hd.cell 1
  have hkl : k < m.L.length := by rw [h.len]; omega
  obtain ⟨y, hy, hlm⟩ := h.last hkl
  have hkr := hok.at_ hy
  obtain ⟨b, off, hA, hbB, hrow⟩ := h.link hkl
  have HOW := fun W (hW : Below w.heap.size w W) => Lib.hid (own_x (m.L[k]).b W (hlm.mem.bel hW) (by have := (right_k hkr.1).len; rw [← hlm.bk] at this; exact Nat.le_trans this (by omega)) (fun t ht => (hkr.2 t (by rw [← hlm.bk]; exact ht)).sm))
  have HBK := Lib.hid hlm.bk
  have HY := Lib.hid hy
  have hml : m.L.length ≤ 1000 := by rw [h.len]; exact hl
  have hin : i ≤ m.L.length := by rw [h.len]; exact hi
  generalize m.L[k] = x at hrow HOW HBK
  have hrow' := blk_of_link hrow
  have HBB := Lib.hid hbB
  have HC := Lib.hid hrow'
  rw [hA] at c1
  obtain ⟨n, hn⟩ : ∃ n, n = m.L.length := ⟨_, rfl⟩
  rw [← hn] at c1 hml hin
  generalize m.c = c at c1
  have HCB := Lib.hid h.hd.lt
  obtain ⟨e1, e1', e2, _, _⟩ := last_ix hk (by omega)
  have e3 : (k : Int) < (n : Int) := by omega
  have e4 : k < n := by omega
  have d1 : decide ((i : Int) < 1) = false := decide_eq_false (by omega)
  have d1' : decide (i < 1) = false := decide_eq_false (by omega)
  have d2 : decide ((n : Int) < (i : Int)) = false := decide_eq_false (by omega)
  have d2' : decide (n < i) = false := decide_eq_false (by omega)
  have d3 : decide ((i : Int) > (n : Int)) = false := d2
  have d3' : decide (i > n) = false := d2'
  clear h hok hl hi hkl hy hlm hkr hrow hrow' hA hbB hn hk hml hin
  go_enter Tryz.func15, Tryz.ntmps15
  go_upto_region 1 with fail
  refine wp_gen fun V0 hV0 => ?_
  have HB : Hid (Below w.heap.size w V0) := Lib.hid (by rw [hV0]; exact (Below.refl _ _).alloc (Nat.le_refl _) _)
  have HR : Hid (Blk V0 w.heap.size 37 zBm.cs) := Lib.hid (by rw [hV0]; exact Blk.new _ _ _)
  replace c1 : V0.cell? ⟨cb, 1, none⟩ = some (.slice (some ⟨b, off, none⟩) n c) := (HB.out.cell (p := ⟨cb, 1, none⟩) HCB.out).trans c1
  have HC0 : Hid (∀ j u, x.b.cl[j]? = some u → V0.cell? ⟨b, off + k * 4 + j, none⟩ = some u) := Lib.hid (fun j u hu => (HB.out.cell (p := ⟨b, off + k * 4 + j, none⟩) HBB.out).trans (HC.out j u hu))
  clear hV0 HC
  go_wp2_with (refine wpList_load_mid (P := Tryz.prog) rfl 37 (.tmp 25) rfl b (off + k * 4) (by rfl) x.b.cl _ HC0.out Tryz.underlying37 rfl (by rw [infoBk]; rfl) ?_; rw [bmcl_arr])
  refine (HOW V0 HB.out).out.mono ?_
  rintro e V1 ⟨b', rfl, hal, hkm, hb⟩
  have HAL := Lib.hid hal
  have HKM := Lib.hid hkm
  have hz6 : Hid (w.heap.size < V0.heap.size) := Lib.hid HR.out.lt
  replace HR := Lib.hid (HR.out.bel hb)
  replace HB := Lib.hid (HB.out.trans (hb.mono HB.out.size))
  clear hal hkm hb HOW c1 HC0
  go_wp2_with (refine wpList_store_part rfl 37 (.tmp 4) (.tmp 27) rfl w.heap.size 0 HR.out #[.int .i64 b'.h, .string b'.prev, .slice b'.A b'.txs.length b'.c] b'.cs (by rfl) (by rfl) (Nat.le_refl 3) infoBk (bmcs_one b') (bm_over b' rfl) ?_; intro V8 hb8 hc8; have HT8 := Lib.hid hb8; have HC8 := Lib.hid hc8; clear hb8 hc8)
  refine bodyPost_ret (results_cell_row2 rfl _ HT8.out rfl Tryz.underlying37 infoBk) rfl ⟨b', y, rfl, HY.out, by rw [← HBK.out]; exact HAL.out, fun W hs => HKM.out W ⟨Nat.le_trans HC8.out.size hs.size, fun q hq hlq => ?_⟩, HB.out.trans (HC8.out.below HB.out.size (by simp))⟩
  have h6 := hz6.out
  rw [hs.block q (by omega) (Nat.lt_of_lt_of_le hlq HC8.out.size)]
  exact HC8.out.block q hlq (by simp; omega)
end Go.Proofs.YtjcinncphffgaaaGreat
