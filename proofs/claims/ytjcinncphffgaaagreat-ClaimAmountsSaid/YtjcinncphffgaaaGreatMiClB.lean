/- claim.Build of any state. -/
import Derived.Outline
import Derived.OwnWalk
import Derived.Defers
import Derived.Deep.RegionHeld3
import Derived.Deep.AppendLies
import Derived.Laws.OwnMore
import Derived.Test.YtjcinncphffgaaaGreatMiClH
import Derived.Test.YtjcinncphffgaaaGreatMiG22
import Derived.Test.YtjcinncphffgaaaGreatMiG27
import Derived.Test.YtjcinncphffgaaaGreatMiSdkA
set_option linter.unusedVariables false
set_option linter.unusedSimpArgs false
namespace Go.Proofs.YtjcinncphffgaaaGreat
section
open Go.RowKit Go.Maps
/-- an append of a row of none or more to a row of the call's own, at a step of a drawn region -/
theorem step_append_two {P : Program} {ops : Array Oper} {o : Oper} {a : Act} {w : World} {K : Act → World → Prop} {Q : Exit → Act → World → Prop} {E : Prop} (hgd : o.guard = none) (s x : Operand) (t : TypeId)
  (ho : o.op = .call { callee := .builtin .append, args := #[s, x], argTypes := #[t, t] })
  (base : Nat) (e : TypeId) (i : TypeInfo) (z : Value) (size bytes : Nat) (ht : P.underlying t = some (.slice e)) (hi : P.info? e = some i) (hz : i.zero = some z)
  (hsize : i.size = size) (hby : i.bytes = bytes) (hzs : z.cells.size = size) (hsz : 0 < size)
  (v : Value) (n : Nat) (xs : List Value) (hs : a.eval s = v) (hown : w.ownsRow base e size v n xs)
  (A' : Option Addr) (m c : Nat) (news : List Value) (hx : a.eval x = .slice A' m c) (hm0 : m = 0 → A' = none ∧ c = 0) (hl : news.length = m * size) (hnews : w.ownsRow base e size (.slice A' m c) m news) (h1 : ∀ u ∈ news, u.oneCell' = true)
  (h63 : n + m ≤ maxLen) (hbytes : (n + m) * bytes ≤ 140737488355328) (hbase : base ≤ w.heap.size)
  (h : ∀ v' w', w'.ownsRow base e size v' (n + m) (xs ++ news) → w.grownBy w' v.ownBlock → K (a.put o.dst v') w') :
  if Region.wanted o (yielded ops a.tmps) = true then Oper.wp P o a w K Q else E := by
 by_cases hm : m = 0
 ·obtain ⟨rfl, rfl⟩ := hm0 hm
  subst hm
  have hw : Region.wanted o (yielded ops a.tmps) = true := by simp [Region.wanted, hgd]
  rw [if_pos hw]
  have hnn : news = [] := List.length_eq_zero_iff.1 (by rw [hl]; simp)
  subst hnn
  have hr := run_append_owned_none (P := P) w base t o.type e i size ht hi v n xs hown
  unfold Oper.wp execOp
  simp only [ho, resolve, invoke, builtin, Sem.run_bind, Sem.run_pure, Result.andThen_ok, List.map_toArray, List.map_cons, List.map_nil, hs, hx, hr]
  exact h v w (by simpa using hown) ⟨rfl, rfl, rfl, Nat.le_refl _, fun _ _ _ => rfl⟩
 ·obtain ⟨g, cap, hv, _, _⟩ := hnews.form (by omega)
  injection hv with hA _ _
  subst hA
  exact step_append_lies w hgd s x t ho base e i z size bytes ht hi hz hsize hby hzs hsz v n xs hs hown ⟨g, 0, none⟩ m c news hx hl (hnews.cells rfl) h1 (by omega) h63 hbytes hbase _ rfl (fun g' cap' w' h2 h3 _ _ => h _ w' h2 h3)
/-- a code that does not leave early -/
theorem wp_nopanic {P : Program} {c : Code} {K : Act → World → Prop} {Q : Exit → Act → World → Prop} {a : Act} {w : World} (h : c.wp P (Exit.then K (fun _ _ _ => False)) a w) : c.wp P (Exit.then K Q) a w :=
 Code.wp_mono (fun e a w h => by cases e <;> first | exact h | exact h.elim) h
/-- what Pays answers -/
def paysF (v n : Nat) : Int := if v ≤ 10 ∨ n < v then 11 else 0
def paysL (e : En) (v n : Nat) : List Ou := if v ≤ 10 ∨ n < v then [] else paysO e v n
theorem spays_any (e : En) (v n : Nat) (w : World) (hv : v < 18446744073709551616) (hn : n < 18446744073709551616) :
  Calls Tryz.prog 126 #[.agg e.cs, .int .u64 (v : Nat), .int .u64 (n : Nat)] w fun e' w' => ∃ A c, e' = .returned (.tuple #[.slice A (paysL e v n).length c, .int .i64 (paysF v n)]) ∧ w'.ownsRow w.heap.size 81 9 (.slice A (paysL e v n).length c) (paysL e v n).length ((paysL e v n).flatMap Ou.cl) ∧ (A = none → c = 0) ∧ Below w.heap.size w w' := by
 unfold paysF paysL
 by_cases hlow : v ≤ 10 ∨ n < v
 ·rw [if_pos hlow, if_pos hlow]
  refine (pays_low e v n w hlow).mono ?_
  rintro e' w' ⟨rfl, hb⟩
  exact ⟨none, 0, rfl, own_nil0 _ _ _ _, fun _ => rfl, hb⟩
 ·rw [if_neg hlow, if_neg hlow]
  by_cases he : v < n
  ·refine (pays_two e v n w (by omega) he hn).mono ?_
   rintro e' w' ⟨A, c, rfl, ho, hb⟩
   unfold paysO
   rw [if_pos he]
   exact ⟨A, c, rfl, ho, fun h => by subst h; exact own_noneC ho, hb⟩
  ·obtain rfl : v = n := by omega
   refine (pays_one e v w (by omega) hv).mono ?_
   rintro e' w' ⟨A, c, rfl, ho, hb⟩
   unfold paysO
   rw [if_neg he]
   exact ⟨A, c, rfl, by simpa using ho, fun h => by subst h; exact own_noneC ho, hb⟩
theorem ins_one (l : List Inp) : ∀ u ∈ l.flatMap Inp.cl, u.oneCell' = true := by
 intro u hu
 obtain ⟨o, _, ho⟩ := List.mem_flatMap.1 hu
 exact incl1 o u ho
/-- what Build makes, its lists' places told -/
def buildX (s : St) (A : Option Addr) (c : Nat) (B : Option Addr) (d : Nat) (PA : Option Addr) (pc : Nat) : Txn :=
 ⟨A, insOf (s.lock :: s.tops) 2 ByteArray.empty, c, B, paysL s.lock (worthV s).toNat (wholeV s).toNat, d, ⟨s.am, s.sig, s.tok, PA, s.wins, pc⟩⟩
noncomputable def buildE (s : St) : Int := lookF (buildX s none 0 none 0 none 0) (paysF (worthV s).toNat (wholeV s).toNat)
theorem buildX_look (s : St) (A : Option Addr) (c : Nat) (B : Option Addr) (d : Nat) (PA : Option Addr) (pc : Nat) : lookF (buildX s A c B d PA pc) (paysF (worthV s).toNat (wholeV s).toNat) = buildE s := rfl
theorem st_pfB (s : St) : s.cs.extract 12 (12 + 4) = (Pf.mk s.am s.sig s.tok s.B s.wins s.d).cs := by rfl
theorem build_en (e : En) (W : World) : (Instr.buildSlice 85 1 #[(0, .agg e.cs)]).run Tryz.prog W = .ok (.slice (some ⟨W.heap.size, 0, none⟩) 1 1) (W.alloc (.cells e.cs 89)) := by
 kernel_rfl
theorem step_build_en {ops : Array Oper} {o : Oper} {a : Act} {w : World} {K : Act → World → Prop} {Q : Exit → Act → World → Prop} {E : Prop} (hgd : o.guard = none) (x : Operand) (ho : o.op = .buildSlice 85 1 #[(0, x)]) (y : En) (hx : a.eval x = .agg y.cs)
  (h : K (a.put o.dst (.slice (some ⟨w.heap.size, 0, none⟩) 1 1)) (w.alloc (.cells y.cs 89))) : if Region.wanted o (yielded ops a.tmps) = true then Oper.wp Tryz.prog o a w K Q else E := by
 have hw : Region.wanted o (yielded ops a.tmps) = true := by simp [Region.wanted, hgd]
 rw [if_pos hw]
 have e : ((#[(0, x)] : Array (Nat × Operand)).map fun (i, x) => (i, a.eval x)) = #[(0, .agg y.cs)] := by simp [hx]
 unfold Oper.wp execOp
 simp only [ho, Sem.run_bind, e, build_en, Result.andThen_ok]
 exact h
theorem sl_one_en {w : World} {g : Nat} {x : En} (h : Blk w g 89 x.cs) : Sl w w.heap.size 11 En.cl (some ⟨g, 0, none⟩) [x] := fun _ => ⟨g, 0, rfl, h.lt, fun i y hy j u hu => by
 match i, hy with
 | 0, hy =>
  injection hy with hy
  subst hy
  simp only [Nat.zero_mul, Nat.zero_add]
  rw [h.cell]
  simpa [En.cl] using hu
 | i + 1, hy => simp at hy⟩
theorem infoPfB : (Tryz.prog.info? 51).map (·.size) = some 4 := by kernel_rfl
theorem insOf_cons (e : En) (L : List En) (p : Int) (s : ByteArray) : insOf (e :: L) p s = insOf [e] p s ++ insOf L p s := rfl
set_option maxRecDepth 100000 in
set_option maxHeartbeats 4000000 in
theorem cbuild_any (s : St) (w0 : World) (hf : s.fit) (hS : s.mem w0) (ht9 : s.tops.length ≤ 900) :
  Calls Tryz.prog 51 #[.agg s.cs] w0 fun e w' => ∃ t : Txn, e = .returned (.tuple #[.agg t.cs, .int .i64 (buildE s)]) ∧ (buildE s = 0 → TxRows w0.heap.size w' t ∧ ∃ A c B d PA pc, t = buildX s A c B d PA pc) ∧ (buildE s ≠ 0 → t = zT) ∧ Below w0.heap.size w0 w' := by
 obtain ⟨i0, hi, hz0, hz1, hz2⟩ := info_parts Tryz.infoIn4
 have Hhz := Lib.hid hz0
 have HM := Lib.hid hS
 have hwb := paidV_bd s s.faces
 have hnb := wholeV_bd s
 obtain ⟨wv, hwv⟩ : ∃ v : Nat, worthV s = (v : Int) := ⟨(worthV s).toNat, by have : worthV s = paidV s s.faces := rfl; omega⟩
 obtain ⟨nv, hnv⟩ : ∃ v : Nat, wholeV s = (v : Int) := ⟨(wholeV s).toNat, by omega⟩
 have hwv64 : wv < 18446744073709551616 := by have : worthV s = paidV s s.faces := rfl; omega
 have hnv64 : nv < 18446744073709551616 := by omega
 have HWO := fun W => Lib.hid (by have := sworth_any s W hf; rw [hwv] at this; exact this)
 have HWH := fun W (h : Below w0.heap.size w0 W) => Lib.hid (by have := swhole_gen s W hf ((hS.bel h).tops); rw [hnv] at this; exact this)
 have HPA := fun W => Lib.hid (spays_any s.lock wv nv W hwv64 hnv64)
 have HF2 := fun W (h : Below w0.heap.size w0 W) => Lib.hid (cfrom_any 2 s.A s.tops s.c W ((hS.bel h).tops) hf.tops)
 have HCL := fun W (h : Below w0.heap.size w0 W) => Lib.hid (clone_wnG s.B s.wins s.d W ((hS.bel h).wins) hf.wins hS.winsN)
 have HBX : ∀ A c B d PA pc, Hid (buildX s A c B d PA pc = ⟨A, insOf (s.lock :: s.tops) 2 ByteArray.empty, c, B, paysL s.lock wv nv, d, ⟨s.am, s.sig, s.tok, PA, s.wins, pc⟩⟩) := fun A c B d PA pc => Lib.hid (by unfold buildX; rw [hwv, hnv]; rfl)
 have HBL : ∀ A c B d PA pc, Hid (lookF (buildX s A c B d PA pc) (paysF wv nv) = buildE s) := fun A c B d PA pc => Lib.hid (by have := buildX_look s A c B d PA pc; rw [hwv, hnv] at this; exact this)
 have HTL := Lib.hid hf.tops
 have HTL9 : Hid (s.tops.length ≤ 999) := Lib.hid (by omega)
 have HWL := Lib.hid hf.wins
 have HPL : Hid ((paysL s.lock wv nv).length ≤ 2) := Lib.hid (by unfold paysL; split <;> simp [paysO]; split <;> simp)
 clear hz0 hS hf hwb hnb hwv hnv hwv64 hnv64
 go_enter_defers Tryz.func51, Tryz.ntmps51
 go_upto_region 2 with fail
 refine wp_gen fun V0 hV0 => ?_
 have HK0 : Hid (LkS w0 (w0.heap.size + 1) (w0.heap.size + 2) zT 0 V0) := Lib.hid (by rw [hV0]; exact ⟨Blk.alloc (Blk.newAt (by simp)) _, Blk.newAt (by simp), (((Below.refl _ _).alloc (Nat.le_refl _) _).alloc (by simp) _).alloc (by simp <;> omega) _, by omega, by omega⟩)
 have HS0 : Hid (Blk V0 w0.heap.size 103 s.cs) := Lib.hid (by rw [hV0]; exact ((Blk.new _ _ _).alloc _).alloc _)
 clear hV0
 refine wp_nopanic ?_
 refine wp_region_held_drew (S := fun W => Hid (Blk W w0.heap.size 103 s.cs)) (by kernel_rfl) (Lib.hid (HS0.out.drewN 1)) (fun hS => ?_)
 replace HK0 := Lib.hid (HK0.out.go (Below.refl _ _).drew)
 refine wpAnyH_genT fun X hX => ?_
 rw [← hX] at HK0 hS
 clear hX HS0
 refine wpAnyH_take (i := 0) (v := ?_) rfl (by kernel_rfl) (by kernel_rfl) (by kernel_rfl) (fun _ _ _ h => h) (Or.inl ⟨by rfl, ?_⟩) hS ?_
 rotate_left
 ·(intro w _; go_simp; try with_reducible rfl)
 refine wpAnyH_take (i := 1) (v := .agg s.lock.cs) rfl (by kernel_rfl) (by kernel_rfl) (by kernel_rfl) (fun _ _ _ h => h) (yields_blk (by rfl) 89 (.tmp 4) (by rfl) w0.heap.size 0 11 (t := 103) (cs := s.cs) (fun W h => h.out) s.lock.cs (by rfl) (st_lock s) Tryz.underlying89 infoEnt (by show 11 ≤ 20; omega)) hS ?_
 refine wpAnyH_take (i := 4) (v := ?_) rfl (by kernel_rfl) (by kernel_rfl) (by kernel_rfl) (fun _ _ _ h => h) (Or.inl ⟨by rfl, ?_⟩) hS ?_
 rotate_left
 ·(intro w _; go_simp; try with_reducible rfl)
 refine wpAnyH_take (i := 5) (v := ?_) rfl (by kernel_rfl) (by kernel_rfl) (by kernel_rfl) (fun _ _ _ h => h) (Or.inl ⟨by rfl, ?_⟩) hS ?_
 rotate_left
 ·(intro w hS'; have hcell := (show World.cell? _ ⟨_, 11, none⟩ = some (.slice s.A s.tops.length s.c) from Blk.cell hS'.out 11); go_simp; try with_reducible rfl)
 refine wpAnyH_ready (rs := [2]) (by kernel_rfl) (by simp) (AllReadyH.cons rfl (fun K hK => ?_) AllReadyH.nil)
 refine step_build_en (by rfl) (.tmp 5) (by rfl) s.lock (by rfl) ?_
 have hx1 : Blk (X.alloc (.cells s.lock.cs 89)) X.heap.size 89 s.lock.cs := Blk.new _ _ _
 have hb1 : Below X.heap.size X (X.alloc (.cells s.lock.cs 89)) := (Below.refl _ _).alloc (Nat.le_refl _) _
 have HX1 := Lib.hid hx1
 have HK1 := Lib.hid (HK0.out.go hb1)
 have hS1 : Hid (Blk (X.alloc (.cells s.lock.cs 89)) w0.heap.size 103 s.cs) := Lib.hid (hS.out.bel hb1)
 refine hK.out _ _ hS1 (fun _ => ?_)
 clear hK K hx1 hb1 HK0 hS
 refine wpAnyH_genT fun X1 hX1 => ?_
 rw [← hX1] at HX1 HK1 hS1
 clear hX1
 refine wpAnyH_ready (rs := [3]) (by kernel_rfl) (by simp) (AllReadyH.cons rfl (fun K hK => ?_) AllReadyH.nil)
 go_simp
 refine (show Calls Tryz.prog 103 #[.int .i64 2, .slice (some ⟨X.heap.size, 0, none⟩) 1 1] X1 _ from cfrom_any 2 (some ⟨X.heap.size, 0, none⟩) [s.lock] 1 X1 (sl_one_en HX1.out) (by show 1 ≤ 1000; omega)).mono ?_
 rintro e X2 ⟨A1, c1, rfl, hO, _, _, hb⟩
 have HO1 := Lib.hid (hO.mono HK1.out.bel.size)
 have HK2 := Lib.hid (HK1.out.go hb)
 have hS2 : Hid (Blk X2 w0.heap.size 103 s.cs) := Lib.hid (hS1.out.bel hb)
 clear hO hb HX1 HK1
 go_simp
 refine hK.out _ _ hS2 (fun _ => ?_)
 clear hK K hS1
 refine wpAnyH_ready (rs := [6]) (by kernel_rfl) (by simp) (AllReadyH.cons rfl (fun K hK => ?_) AllReadyH.nil)
 go_simp
 refine (HF2 X2 HK2.out.bel).out.mono ?_
 rintro e X3 ⟨A2, c2, rfl, hO, _, hz, hb⟩
 have HO2 := Lib.hid (hO.mono HK2.out.bel.size)
 have HO1b := Lib.hid (own_belT HO1.out hb)
 have HZ2 := Lib.hid hz
 have HK3 := Lib.hid (HK2.out.go hb)
 have hS3 : Hid (Blk X3 w0.heap.size 103 s.cs) := Lib.hid (hS2.out.bel hb)
 have htl := HTL.out
 clear hO hb hz HO1 HK2 HF2
 go_simp
 refine hK.out _ _ hS3 (fun _ => ?_)
 clear hK K hS2
 refine wpAnyH_ready (rs := [7]) (by kernel_rfl) (by simp) (AllReadyH.cons rfl (fun K hK => ?_) AllReadyH.nil)
 refine step_append_two (by rfl) (.tmp 7) (.tmp 10) 47 (by rfl) w0.heap.size 59 i0 _ 4 48 Tryz.underlying47 hi Hhz.out hz1 hz2 rfl (by omega) (.slice A1 1 c1) 1 ((insOf [s.lock] 2 ByteArray.empty).flatMap Inp.cl) (by rfl) HO1b.out A2 s.tops.length c2 ((insOf s.tops 2 ByteArray.empty).flatMap Inp.cl) (by rfl) HZ2.out HO2.out.1 HO2.out (ins_one _) (by simp only [maxLen]; omega) (by omega) HK3.out.bel.size ?_
 intro v' X4 hown hgrow
 have HO4 : Hid (X4.ownsRow w0.heap.size 59 4 v' (1 + s.tops.length) ((insOf (s.lock :: s.tops) 2 ByteArray.empty).flatMap Inp.cl)) := Lib.hid (by rw [insOf_cons, List.flatMap_append]; exact hown)
 have HK4 : Hid (LkS w0 (w0.heap.size + 1) (w0.heap.size + 2) zT 0 X4) := Lib.hid ⟨HK3.out.hd.grown hgrow (blk_far HK3.out.hd HO1b.out (by decide)), HK3.out.no.grown hgrow (blk_far HK3.out.no HO1b.out (by decide)), HK3.out.bel.grown hgrow HK3.out.bel.size (fun j hj => own_base HO1b.out j hj), HK3.out.lo⟩
 have hS4 : Hid (Blk X4 w0.heap.size 103 s.cs) := Lib.hid (hS3.out.grown hgrow (blk_far hS3.out HO1b.out (by decide)))
 clear hown hgrow HO1b HO2 HZ2 HK3
 refine hK.out _ _ hS4 (fun _ => ?_)
 clear hK K hS3
 obtain ⟨A4, c4, rfl⟩ := own_form HO4.out
 refine wpAnyH_take (i := 8) (v := ?_) rfl (by kernel_rfl) (by kernel_rfl) (by kernel_rfl) (fun _ _ _ h => h) (Or.inl ⟨by rfl, ?_⟩) hS4 ?_
 rotate_left
 ·(intro w _; go_simp; try with_reducible rfl)
 have HN4 : Hid (A4 = none → c4 = 0) := Lib.hid (fun h => by subst h; exact own_noneC HO4.out)
 refine wpAnyH_ready (rs := [9]) (by kernel_rfl) (by simp) (AllReadyH.cons rfl (fun K hK => ?_) AllReadyH.nil)
 have q0 : X4.cell? ⟨w0.heap.size + 1, 0, none⟩ = some (.slice none 0 0) := HK4.out.hd.cell 0
 have r0 : X4.frozen? ⟨w0.heap.size + 1, 0, none⟩ = false := HK4.out.hd.frozen 0
 go_simp
 have hcs : Ch [w0.heap.size + 1] X4 (X4.setCell ⟨w0.heap.size + 1, 0, none⟩ (.slice A4 (1 + s.tops.length) c4)) := Ch.set_ (by simp) _ _ _
 have HT5 : Hid (Blk (X4.setCell ⟨w0.heap.size + 1, 0, none⟩ (.slice A4 (1 + s.tops.length) c4)) (w0.heap.size + 1) 53 #[.slice A4 (1 + s.tops.length) c4, .slice none 0 0, .int .u64 0, .string ByteArray.empty, .string ByteArray.empty, .slice none 0 0]) := Lib.hid (HK4.out.hd.set_ 0 (.slice A4 (1 + s.tops.length) c4))
 have HO5 := Lib.hid (own_chT HO4.out hcs HK4.out.hd.kdT (by decide))
 have HE5 := Lib.hid (HK4.out.no.ch hcs (by simp))
 have HB5 : Hid (Below w0.heap.size w0 (X4.setCell ⟨w0.heap.size + 1, 0, none⟩ (.slice A4 (1 + s.tops.length) c4))) := Lib.hid (HK4.out.bel.trans (hcs.below HK4.out.bel.size (by simp)))
 have hS5 : Hid (Blk (X4.setCell ⟨w0.heap.size + 1, 0, none⟩ (.slice A4 (1 + s.tops.length) c4)) w0.heap.size 103 s.cs) := Lib.hid (hS4.out.ch hcs (by simp))
 refine hK.out _ _ hS5 (fun _ => ?_)
 clear hK K hS4 hcs HO4 HK4 q0 r0
 refine wpAnyH_done (by kernel_rfl) ?_ _
 generalize X4.setCell ⟨w0.heap.size + 1, 0, none⟩ (.slice A4 (1 + s.tops.length) c4) = X5 at HT5 HO5 HE5 HB5 hS5 ⊢
 go_upto_region 4 with (first
  | (refine wpList_load_blk rfl 51 (.tmp 13) rfl w0.heap.size 12 4 hS5.out (Pf.mk s.am s.sig s.tok s.B s.wins s.d).cs (by rfl) (st_pfB s) Tryz.underlying51 infoPfB (by show 16 ≤ 20; omega) ?_)
  | (refine wpList_store_part rfl 51 (.tmp 15) (.tmp 14) rfl (w0.heap.size + 1) 2 HT5.out (Pf.mk s.am s.sig s.tok s.B s.wins s.d).cs #[.slice A4 (1 + s.tops.length) c4, .slice none 0 0, .int .u64 (s.am : Nat), .string s.sig, .string s.tok, .slice s.B s.wins.length s.d] (by rfl) (by rfl) (by show 2 + 4 ≤ 6; omega) infoPfB (pfcs_one _) (by rfl) ?_; intro X6 hb6 hc6; have HT6 := Lib.hid hb6; have HO6 := Lib.hid (own_chT HO5.out hc6 HT5.out.kdT (by decide)); have HE6 := Lib.hid (HE5.out.ch hc6 (by simp)); have HB6 : Hid (Below w0.heap.size w0 X6) := Lib.hid (HB5.out.trans (hc6.below HB5.out.size (by simp))); have hS6 : Hid (Blk X6 w0.heap.size 103 s.cs) := Lib.hid (hS5.out.ch hc6 (by simp)); clear hb6 hc6 HO5 HE5 HB5))
 try go_frame
 clear HT5 hS5
 have p15 : X6.cell? ⟨w0.heap.size, 15, none⟩ = some (.slice s.B s.wins.length s.d) := hS6.out.cell 15
 go_wp2_with fail
 refine (HCL X6 HB6.out).out.mono ?_
 rintro e X7 ⟨PA, pc, rfl, hO, hn, hb⟩
 have HNP := Lib.hid hn
 have HOP := Lib.hid (hO.mono HB6.out.size)
 have HO7 := Lib.hid (own_belT HO6.out hb)
 have HT7 := Lib.hid (HT6.out.bel hb)
 have HE7 := Lib.hid (HE6.out.bel hb)
 have hS7 := Lib.hid (hS6.out.bel hb)
 have HB7 : Hid (Below w0.heap.size w0 X7) := Lib.hid (HB6.out.trans (hb.mono HB6.out.size))
 have p5 : X7.cell? ⟨w0.heap.size + 1, 5, none⟩ = some (.slice s.B s.wins.length s.d) := HT7.out.cell 5
 have f5 : X7.frozen? ⟨w0.heap.size + 1, 5, none⟩ = false := HT7.out.frozen 5
 clear hO hn hb p15 HT6 HO6 HE6 HB6 hS6 HCL
 have hcs : Ch [w0.heap.size + 1] X7 (X7.setCell ⟨w0.heap.size + 1, 5, none⟩ (.slice PA s.wins.length pc)) := Ch.set_ (by simp) _ _ _
 have HT8 : Hid (Blk (X7.setCell ⟨w0.heap.size + 1, 5, none⟩ (.slice PA s.wins.length pc)) (w0.heap.size + 1) 53 #[.slice A4 (1 + s.tops.length) c4, .slice none 0 0, .int .u64 (s.am : Nat), .string s.sig, .string s.tok, .slice PA s.wins.length pc]) := Lib.hid (HT7.out.set_ 5 (.slice PA s.wins.length pc))
 have HO8 := Lib.hid (own_chT HO7.out hcs HT7.out.kdT (by decide))
 have HP8 := Lib.hid (own_chT HOP.out hcs HT7.out.kdT (by decide))
 have HE8 := Lib.hid (HE7.out.ch hcs (by simp))
 have HB8 : Hid (Below w0.heap.size w0 (X7.setCell ⟨w0.heap.size + 1, 5, none⟩ (.slice PA s.wins.length pc))) := Lib.hid (HB7.out.trans (hcs.below HB7.out.size (by simp)))
 have hS8 : Hid (Blk (X7.setCell ⟨w0.heap.size + 1, 5, none⟩ (.slice PA s.wins.length pc)) w0.heap.size 103 s.cs) := Lib.hid (hS7.out.ch hcs (by simp))
 clear hcs HT7 HO7 HOP HE7 HB7 hS7
 go_upto_region 5 with fail
 generalize X7.setCell ⟨w0.heap.size + 1, 5, none⟩ (.slice PA s.wins.length pc) = X8 at HT8 HO8 HP8 HE8 HB8 hS8 ⊢
 clear p5 f5
 refine wp_nopanic ?_
 refine wp_region_held_drew (S := fun W => Hid (Blk W w0.heap.size 103 s.cs)) (by kernel_rfl) (Lib.hid (hS8.out.drewN 1)) (fun hS => ?_)
 have hbd : Below X8.heap.size X8 X8.drew := (Below.refl _ _).drew
 replace HT8 := Lib.hid (HT8.out.bel hbd)
 replace HO8 := Lib.hid (own_belT HO8.out hbd)
 replace HP8 := Lib.hid (own_belT HP8.out hbd)
 replace HE8 := Lib.hid (HE8.out.bel hbd)
 replace HB8 : Hid (Below w0.heap.size w0 X8.drew) := Lib.hid (HB8.out.trans (hbd.mono HB8.out.size))
 clear hbd hS8
 refine wpAnyH_genT fun Y hY => ?_
 rw [← hY] at HT8 HO8 HP8 HE8 HB8 hS
 clear hY
 refine wpAnyH_take (i := 0) (v := ?_) rfl (by kernel_rfl) (by kernel_rfl) (by kernel_rfl) (fun _ _ _ h => h) (Or.inl ⟨by rfl, ?_⟩) hS ?_
 rotate_left
 ·(intro w _; go_simp; try with_reducible rfl)
 refine wpAnyH_take (i := 1) (v := .agg s.lock.cs) rfl (by kernel_rfl) (by kernel_rfl) (by kernel_rfl) (fun _ _ _ h => h) (yields_blk (by rfl) 89 (.tmp 23) (by rfl) w0.heap.size 0 11 (t := 103) (cs := s.cs) (fun W h => h.out) s.lock.cs (by rfl) (st_lock s) Tryz.underlying89 infoEnt (by show 11 ≤ 20; omega)) hS ?_
 refine wpAnyH_take (i := 2) (v := .agg s.cs) rfl (by kernel_rfl) (by kernel_rfl) (by kernel_rfl) (fun _ _ _ h => h) (yields_blk (by rfl) 103 (.tmp 1) (by rfl) w0.heap.size 0 20 (t := 103) (cs := s.cs) (fun W h => h.out) s.cs (by rfl) (st_ext s) Tryz.underlying103 infoSta (st_le s)) hS ?_
 refine wpAnyH_take (i := 4) (v := .agg s.cs) rfl (by kernel_rfl) (by kernel_rfl) (by kernel_rfl) (fun _ _ _ h => h) (yields_blk (by rfl) 103 (.tmp 1) (by rfl) w0.heap.size 0 20 (t := 103) (cs := s.cs) (fun W h => h.out) s.cs (by rfl) (st_ext s) Tryz.underlying103 infoSta (st_le s)) hS ?_
 refine wpAnyH_ready (rs := [3]) (by kernel_rfl) (by simp) (AllReadyH.cons rfl (fun K hK => ?_) AllReadyH.nil)
 go_simp
 refine (HWO Y).out.mono ?_
 rintro e Y1 ⟨rfl, hb⟩
 replace HT8 := Lib.hid (HT8.out.bel hb)
 replace HO8 := Lib.hid (own_belT HO8.out hb)
 replace HP8 := Lib.hid (own_belT HP8.out hb)
 replace HE8 := Lib.hid (HE8.out.bel hb)
 replace HB8 : Hid (Below w0.heap.size w0 Y1) := Lib.hid (HB8.out.trans (hb.mono HB8.out.size))
 have hS1 : Hid (Blk Y1 w0.heap.size 103 s.cs) := Lib.hid (hS.out.bel hb)
 clear hb
 go_simp
 refine hK.out _ _ hS1 (fun _ => ?_)
 clear hK K hS HWO
 refine wpAnyH_ready (rs := [5]) (by kernel_rfl) (by simp) (AllReadyH.cons rfl (fun K hK => ?_) AllReadyH.nil)
 go_simp
 refine (HWH Y1 HB8.out).out.mono ?_
 rintro e Y2 ⟨rfl, hb⟩
 replace HT8 := Lib.hid (HT8.out.bel hb)
 replace HO8 := Lib.hid (own_belT HO8.out hb)
 replace HP8 := Lib.hid (own_belT HP8.out hb)
 replace HE8 := Lib.hid (HE8.out.bel hb)
 replace HB8 : Hid (Below w0.heap.size w0 Y2) := Lib.hid (HB8.out.trans (hb.mono HB8.out.size))
 have hS2 : Hid (Blk Y2 w0.heap.size 103 s.cs) := Lib.hid (hS1.out.bel hb)
 clear hb
 go_simp
 refine hK.out _ _ hS2 (fun _ => ?_)
 clear hK K hS1 HWH
 refine wpAnyH_ready (rs := [6]) (by kernel_rfl) (by simp) (AllReadyH.cons rfl (fun K hK => ?_) AllReadyH.nil)
 go_simp
 refine (HPA Y2).out.mono ?_
 rintro e Y3 ⟨B, d, rfl, hO, hn, hb⟩
 have HNB := Lib.hid hn
 have HOB := Lib.hid (hO.mono HB8.out.size)
 replace HT8 := Lib.hid (HT8.out.bel hb)
 replace HO8 := Lib.hid (own_belT HO8.out hb)
 replace HP8 := Lib.hid (own_belT HP8.out hb)
 replace HE8 := Lib.hid (HE8.out.bel hb)
 replace HB8 : Hid (Below w0.heap.size w0 Y3) := Lib.hid (HB8.out.trans (hb.mono HB8.out.size))
 have hS3 : Hid (Blk Y3 w0.heap.size 103 s.cs) := Lib.hid (hS2.out.bel hb)
 clear hb hO hn
 go_simp
 refine hK.out _ _ hS3 (fun _ => ?_)
 clear hK K hS2 HPA
 refine wpAnyH_take (i := 7) (v := ?_) rfl (by kernel_rfl) (by kernel_rfl) (by kernel_rfl) (fun _ _ _ h => h) (Or.inl ⟨by rfl, ?_⟩) hS3 ?_
 rotate_left
 ·(intro w _; go_simp; try with_reducible rfl)
 refine wpAnyH_take (i := 8) (v := ?_) rfl (by kernel_rfl) (by kernel_rfl) (by kernel_rfl) (fun _ _ _ h => h) (Or.inl ⟨by rfl, ?_⟩) hS3 ?_
 rotate_left
 ·(intro w _; go_simp; try with_reducible rfl)
 refine wpAnyH_take (i := 9) (v := ?_) rfl (by kernel_rfl) (by kernel_rfl) (by kernel_rfl) (fun _ _ _ h => h) (Or.inl ⟨by rfl, ?_⟩) hS3 ?_
 rotate_left
 ·(intro w _; go_simp; try with_reducible rfl)
 refine wpAnyH_take (i := 10) (v := ?_) rfl (by kernel_rfl) (by kernel_rfl) (by kernel_rfl) (fun _ _ _ h => h) (Or.inl ⟨by rfl, ?_⟩) hS3 ?_
 rotate_left
 ·(intro w _; go_simp; try with_reducible rfl)
 refine wpAnyH_ready (rs := [11]) (by kernel_rfl) (by simp) (AllReadyH.cons rfl (fun K hK => ?_) AllReadyH.nil)
 have q1 : Y3.cell? ⟨w0.heap.size + 1, 1, none⟩ = some (.slice none 0 0) := HT8.out.cell 1
 have r1 : Y3.frozen? ⟨w0.heap.size + 1, 1, none⟩ = false := HT8.out.frozen 1
 go_simp
 have hcs : Ch [w0.heap.size + 1] Y3 (Y3.setCell ⟨w0.heap.size + 1, 1, none⟩ (.slice B (paysL s.lock wv nv).length d)) := Ch.set_ (by simp) _ _ _
 have HT9 : Hid (Blk (Y3.setCell ⟨w0.heap.size + 1, 1, none⟩ (.slice B (paysL s.lock wv nv).length d)) (w0.heap.size + 1) 53 #[.slice A4 (1 + s.tops.length) c4, .slice B (paysL s.lock wv nv).length d, .int .u64 (s.am : Nat), .string s.sig, .string s.tok, .slice PA s.wins.length pc]) := Lib.hid (HT8.out.set_ 1 (.slice B (paysL s.lock wv nv).length d))
 replace HO8 := Lib.hid (own_chT HO8.out hcs HT8.out.kdT (by decide))
 replace HP8 := Lib.hid (own_chT HP8.out hcs HT8.out.kdT (by decide))
 replace HOB := Lib.hid (own_chT HOB.out hcs HT8.out.kdT (by decide))
 replace HE8 := Lib.hid (HE8.out.ch hcs (by simp))
 replace HB8 : Hid (Below w0.heap.size w0 (Y3.setCell ⟨w0.heap.size + 1, 1, none⟩ (.slice B (paysL s.lock wv nv).length d))) := Lib.hid (HB8.out.trans (hcs.below HB8.out.size (by simp)))
 have hS4 : Hid (Blk (Y3.setCell ⟨w0.heap.size + 1, 1, none⟩ (.slice B (paysL s.lock wv nv).length d)) w0.heap.size 103 s.cs) := Lib.hid (hS3.out.ch hcs (by simp))
 refine hK.out _ _ hS4 (fun _ => ?_)
 clear hK K hS3 hcs q1 r1 HT8
 generalize Y3.setCell ⟨w0.heap.size + 1, 1, none⟩ (.slice B (paysL s.lock wv nv).length d) = Y4 at HT9 HO8 HP8 HOB HE8 HB8 hS4 ⊢
 refine wpAnyH_ready (rs := [12]) (by kernel_rfl) (by simp) (AllReadyH.cons rfl (fun K hK => ?_) AllReadyH.nil)
 have q2 : Y4.cell? ⟨w0.heap.size + 2, 0, none⟩ = some (.int .i64 0) := HE8.out.cell 0
 have r2 : Y4.frozen? ⟨w0.heap.size + 2, 0, none⟩ = false := HE8.out.frozen 0
 go_simp
 have hcs : Ch [w0.heap.size + 2] Y4 (Y4.setCell ⟨w0.heap.size + 2, 0, none⟩ (.int .i64 (paysF wv nv))) := Ch.set_ (by simp) _ _ _
 have HEX : Hid (Blk (Y4.setCell ⟨w0.heap.size + 2, 0, none⟩ (.int .i64 (paysF wv nv))) (w0.heap.size + 2) 28 #[.int .i64 (paysF wv nv)]) := Lib.hid (HE8.out.set_ 0 (.int .i64 (paysF wv nv)))
 replace HO8 := Lib.hid (own_chT HO8.out hcs HE8.out.kdT (by decide))
 replace HP8 := Lib.hid (own_chT HP8.out hcs HE8.out.kdT (by decide))
 replace HOB := Lib.hid (own_chT HOB.out hcs HE8.out.kdT (by decide))
 replace HT9 := Lib.hid (HT9.out.ch hcs (by simp))
 replace HB8 : Hid (Below w0.heap.size w0 (Y4.setCell ⟨w0.heap.size + 2, 0, none⟩ (.int .i64 (paysF wv nv)))) := Lib.hid (HB8.out.trans (hcs.below HB8.out.size (by simp)))
 have hS5 : Hid (Blk (Y4.setCell ⟨w0.heap.size + 2, 0, none⟩ (.int .i64 (paysF wv nv))) w0.heap.size 103 s.cs) := Lib.hid (hS4.out.ch hcs (by simp))
 refine hK.out _ _ hS5 (fun _ => ?_)
 clear hK K hS4 hcs q2 r2 HE8 hS5
 generalize Y4.setCell ⟨w0.heap.size + 2, 0, none⟩ (.int .i64 (paysF wv nv)) = Y5 at HT9 HO8 HP8 HOB HEX HB8 ⊢
 refine wpAnyH_done (by kernel_rfl) ?_ _
 have HKX : Hid (LkS w0 (w0.heap.size + 1) (w0.heap.size + 2) (buildX s A4 c4 B d PA pc) (paysF wv nv) Y5) := Lib.hid ⟨by
  rw [HBX A4 c4 B d PA pc]
  show Blk _ _ _ #[.slice A4 (insOf (s.lock :: s.tops) 2 ByteArray.empty).length c4, _, _, _, _, _]
  rw [insOf_len, List.length_cons, Nat.add_comm s.tops.length 1]
  exact HT9.out, HEX.out, HB8.out, by omega, by omega⟩
 have HRX : Hid (TxRows w0.heap.size Y5 (buildX s A4 c4 B d PA pc)) := Lib.hid (by
  rw [HBX A4 c4 B d PA pc]
  refine ⟨?_, HOB.out, HP8.out, ⟨HN4.out, HNB.out, HNP.out⟩⟩
  show World.ownsRow _ _ _ _ (.slice A4 (insOf (s.lock :: s.tops) 2 ByteArray.empty).length c4) (insOf (s.lock :: s.tops) 2 ByteArray.empty).length _
  rw [insOf_len, List.length_cons, Nat.add_comm s.tops.length 1]
  exact HO8.out)
 clear HT9 HEX HB8 HO8 HP8 HOB HN4 HNB HNP
 have e0 : Y5.cell? ⟨w0.heap.size + 2, 0, none⟩ = some (.int .i64 (paysF wv nv)) := HKX.out.no.cell 0
 go_wp2_with (first
  | (refine wpList_load_blk rfl 53 (.tmp 2) rfl (w0.heap.size + 1) 0 6 HKX.out.hd (buildX s A4 c4 B d PA pc).cs (by rfl) (txn_ext _) Tryz.underlying53 infoTx (Nat.le_refl 6) ?_)
  | (refine wpList_store_part rfl 53 (.tmp 2) (.tmp 33) rfl (w0.heap.size + 1) 0 HKX.out.hd (buildX s A4 c4 B d PA pc).cs (buildX s A4 c4 B d PA pc).cs (by rfl) (by rfl) (Nat.le_refl 6) infoTx (txncs_one _) (txn_over _ rfl) ?_; intro W8 hb8 hc8; have HK8 := Lib.hid (HKX.out.to (t' := buildX s A4 c4 B d PA pc) hc8 hb8); have HR8 : Hid (TxRows w0.heap.size W8 (buildX s A4 c4 B d PA pc)) := Lib.hid (HRX.out.ch hc8 HKX.out.hd.kdT (by decide) (by decide) (by decide)); have y0 : W8.cell? ⟨w0.heap.size + 2, 0, none⟩ = some (.int .i64 (paysF wv nv)) := HK8.out.no.cell 0; have z0 : W8.frozen? ⟨w0.heap.size + 2, 0, none⟩ = false := HK8.out.no.frozen 0; clear hb8 hc8))
 have HKZ := Lib.hid (HK8.out.no_ (paysF wv nv))
 have HR5 : Hid (TxRows w0.heap.size (W8.setCell ⟨w0.heap.size + 2, 0, none⟩ (.int .i64 (paysF wv nv))) (buildX s A4 c4 B d PA pc)) := Lib.hid (HR8.out.ch (Ch.set_ (b := w0.heap.size + 2) (by simp) _ _ _) HK8.out.no.kdT (by decide) (by decide) (by decide))
 refine leaves_cons (f := 101) (args := #[.pointer (some ⟨w0.heap.size + 1, 0, none⟩), .pointer (some ⟨w0.heap.size + 2, 0, none⟩)]) (by simp) (by simp [go_sem]) ?_
 refine (clook_gen (w0.heap.size + 1) (w0.heap.size + 2) (buildX s A4 c4 B d PA pc) (paysF wv nv) .returning _ HKZ.out.hd HKZ.out.no HR5.out.mem (by rw [HBX A4 c4 B d PA pc]; show (insOf (s.lock :: s.tops) 2 ByteArray.empty).length ≤ 1000; rw [insOf_len, List.length_cons]; have := HTL9.out; omega) (by rw [HBX A4 c4 B d PA pc]; have := HPL.out; exact Nat.le_trans this (by omega)) (by rw [HBX A4 c4 B d PA pc]; exact HWL.out)).mono ?_
 rintro e u' w9 ⟨rfl, rfl, hT9, hE9, hc9⟩
 rw [HBL A4 c4 B d PA pc] at hE9 hT9
 have HB9 : Below w0.heap.size w0 w9 := HKZ.out.bel.trans (hc9.below HKZ.out.bel.size (by simp))
 have v0 : w9.cell? ⟨w0.heap.size + 2, 0, none⟩ = some (.int .i64 (buildE s)) := hE9.cell 0
 have HR9 : TxRows w0.heap.size w9 (buildX s A4 c4 B d PA pc) := by
  have hT := HKZ.out.hd.kdT
  have hE := HKZ.out.no.kdT
  exact ⟨own_ch2 HR5.out.r1 hc9 hT hE (by decide) (by decide), own_ch2 HR5.out.r2 hc9 hT hE (by decide) (by decide), own_ch2 HR5.out.r3 hc9 hT hE (by decide) (by decide), HR5.out.nz⟩
 by_cases hbz : buildE s = 0
 ·rw [if_pos hbz] at hT9
  exact ⟨_, results_cells2 (ty2 := 28) rfl _ hT9 rfl Tryz.underlying53 infoTx (a2 := ⟨w0.heap.size + 2, 0, none⟩) (v := .int .i64 (buildE s)) rfl (by simp [go_sem, v0]), _, rfl, (fun _ => ⟨HR9, A4, c4, B, d, PA, pc, rfl⟩), (fun h => absurd hbz h), HB9⟩
 ·rw [if_neg hbz] at hT9
  exact ⟨_, results_cells2 (ty2 := 28) rfl _ hT9 rfl Tryz.underlying53 infoTx (a2 := ⟨w0.heap.size + 2, 0, none⟩) (v := .int .i64 (buildE s)) rfl (by simp [go_sem, v0]), zT, rfl, (fun h => absurd h hbz), (fun _ => rfl), HB9⟩
end
end Go.Proofs.YtjcinncphffgaaaGreat
