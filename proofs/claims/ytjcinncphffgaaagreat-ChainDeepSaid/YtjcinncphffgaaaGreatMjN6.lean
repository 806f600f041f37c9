/- A region that draws its order: operations that are taken first, under a condition on the world that need not hold behind the last one. law08's Cut of a proof: of any wins. -/
import Derived.Deep.RegionHeld3
import Derived.WalkKit
import Derived.Outline
import Derived.Deep.DeepCutAuto
import Derived.Deep.CutBlock
import Derived.Deep.AppendLies
import Derived.Test.YtjcinncphffgaaaGreatMjEqE
set_option linter.unusedVariables false
set_option linter.unusedSimpArgs false
namespace Go.Proofs.YtjcinncphffgaaaGreat
open Go.RowKit
section
variable {P : Program} {ops : Array Oper} {Q : Exit → Act → World → Prop} {md : Region.Mode} {S : World → Prop} {zs : List Nat}
theorem gd_set {l : Array Bool} {j k : Nat} (h : j ≠ k) (d : Bool) : (l.setIfInBounds j true).getD k d = l.getD k d := by
  simp [Array.getD_eq_getD_getElem?, Array.getElem?_setIfInBounds_ne h]
theorem gd_tf {l : Array Bool} {k : Nat} (h : l.getD k true = false) : l.getD k false = false := by
  rw [Array.getD_eq_getD_getElem?] at h ⊢
  cases hq : l[k]? with
  | none => rfl
  | some b => rw [hq] at h; exact h
/-- operation j waits for operation i -/
def upB (md : Region.Mode) (ops : Array Oper) (i : Nat) : Nat → Nat → Bool
  | 0, j => j == i
  | n + 1, j => j == i || (match ops[j]? with | some o => o.after.any fun e => Region.binds md e && upB md ops i n e.on | none => false)
/-- what is listed waits for nothing that is not -/
def closedB (md : Region.Mode) (ops : Array Oper) (listed : Array Bool) : Bool :=
  (List.range listed.size).all fun j => !listed.getD j false || (match ops[j]? with | some o => o.after.all fun e => !Region.binds md e || listed.getD e.on false | none => true)
def Closed (md : Region.Mode) (ops : Array Oper) (listed : Array Bool) : Prop :=
  ∀ j o, ops[j]? = some o → listed.getD j false = true → ∀ e ∈ o.after, Region.binds md e = true → listed.getD e.on false = true
theorem closed_of {listed : Array Bool} (h : closedB md ops listed = true) : Closed md ops listed := by
  intro j o ho hl e he hb
  have hj : j < listed.size := by
    rcases Nat.lt_or_ge j listed.size with h' | h'
    · exact h'
    · rw [Array.getD_eq_getD_getElem?, Array.getElem?_eq_none h'] at hl; cases hl
  have h1 := List.all_eq_true.1 h j (List.mem_range.2 hj)
  rw [hl, ho] at h1
  simp only [Bool.not_true, Bool.false_or] at h1
  have h2 := Array.all_eq_true_iff_forall_mem.1 h1 e he
  rw [hb] at h2
  simpa using h2
theorem Closed.set {listed : Array Bool} (h : Closed md ops listed) {j : Nat} (hj : j ∈ Region.ready md ops listed) : Closed md ops (listed.setIfInBounds j true) := by
  intro k o ho hl e he hb
  obtain ⟨_, oj, hoj, hall⟩ := mem_ready.1 hj
  have h1 : listed.getD e.on false = true := by
    by_cases hjk : j = k
    · subst hjk
      obtain rfl : oj = o := Option.some.inj (hoj.symm.trans ho)
      exact hall e he hb
    · rw [gd_set hjk] at hl
      exact h k o ho hl e he hb
  by_cases hje : j = e.on
  · subst hje
    have hlt : e.on < listed.size := by
      rcases Nat.lt_or_ge e.on listed.size with h' | h'
      · exact h'
      · rw [Array.getD_eq_getD_getElem?, Array.getElem?_eq_none h'] at h1; cases h1
    rw [Array.getD_eq_getD_getElem?, Array.getElem?_setIfInBounds_self_of_lt hlt]; rfl
  · rw [gd_set hje]; exact h1
theorem up_listed {listed : Array Bool} (hc : Closed md ops listed) {i : Nat} : ∀ (n j : Nat), listed.getD j false = true → upB md ops i n j = true → listed.getD i false = true
  | 0, j, hl, hu => by
    have e : j = i := by simpa [upB] using hu
    rw [← e]; exact hl
  | n + 1, j, hl, hu => by
    by_cases e : j = i
    · rw [← e]; exact hl
    · unfold upB at hu
      cases ho : ops[j]? with
      | none => rw [ho] at hu; simp [e] at hu
      | some o =>
        rw [ho] at hu
        have e' : (j == i) = false := by simpa using e
        rw [e', Bool.false_or] at hu
        obtain ⟨x, hx, hb⟩ := Array.any_eq_true'.1 hu
        simp only [Bool.and_eq_true] at hb
        exact up_listed hc n x.on (hc j o ho hl x hx hb.1) hb.2
theorem up_ready {listed : Array Bool} (hc : Closed md ops listed) {i n j : Nat} (hne : j ≠ i) (hj : j ∈ Region.ready md ops listed) (hu : upB md ops i n j = true) : listed.getD i false = true := by
  cases n with
  | zero => exact absurd (by simpa [upB] using hu) hne
  | succ n =>
    obtain ⟨_, o, ho, hall⟩ := mem_ready.1 hj
    unfold upB at hu
    rw [ho] at hu
    have e' : (j == i) = false := by simpa using hne
    rw [e', Bool.false_or] at hu
    obtain ⟨x, hx, hb⟩ := Array.any_eq_true'.1 hu
    simp only [Bool.and_eq_true] at hb
    exact up_listed hc n x.on (hall x hx hb.1) hb.2
/-- whatever order is picked from here on; behind each operation but those of zs the condition holds -/
def wpAnyZ (P : Program) (md : Region.Mode) (ops : Array Oper) (Q : Exit → Act → World → Prop) (S : World → Prop) (zs : List Nat) : Nat → Array Bool → Act → World → Prop
  | 0, listed, a, w => Region.ready md ops listed = [] ∧ Q .normal a w
  | fuel + 1, listed, a, w => (Region.ready md ops listed = [] → Q .normal a w) ∧
    ∀ i ∈ Region.ready md ops listed, wpOp P ops Q i (fun a' w' => (i ∉ zs → S w') ∧ wpAnyZ P md ops Q S zs fuel (listed.setIfInBounds i true) a' w') a w
theorem wpAny_of_z : ∀ (fuel : Nat) (listed : Array Bool) (a : Act) (w : World), wpAnyZ P md ops Q S zs fuel listed a w → wpAny P md ops Q fuel listed a w
  | 0, _, _, _, h => h
  | fuel + 1, _, _, _, h => ⟨h.1, fun i hi => wpOp_mono (fun a' w' k => wpAny_of_z fuel _ a' w' k.2) (h.2 i hi)⟩
theorem wpAnyZ_first {i n : Nat} {oi : Oper} {v : Value} (hi : ops[i]? = some oi) (hsel : ∀ (j : Nat) (o : Oper) cs b, ops[j]? = some o → o.op ≠ .select cs b)
    (hQ : ∀ c a w, Q (.panic c) (a.put oi.dst v) w → Q (.panic c) a w) (hz : zs.all (fun z => upB md ops i n z) = true) (hiz : i ∉ zs) :
    ∀ (fuel : Nat) (listed : Array Bool) (a : Act) (w : World), Closed md ops listed →
      (∀ j oj, ops[j]? = some oj → j ≠ i → listed.getD j true = false → (∀ e ∈ oj.after, Region.binds md e = true → e.on ≠ i) → oi.apart ops oj = true) →
      i ∈ Region.ready md ops listed → YieldsIf P ops S oi v a → S w →
      wpAnyZ P md ops Q S zs fuel (listed.setIfInBounds i true) (a.put oi.dst v) w → wpAnyZ P md ops Q S zs (fuel + 1) listed a w
  | 0, listed, a, w, _, _, hr, hy, hS, H => by
    refine ⟨fun h => (by rw [h] at hr; cases hr), fun j hj => ?_⟩
    by_cases hji : j = i
    · subst hji; exact hy.wpOp hi hS ⟨fun _ => hS, H⟩
    · have hm := ready_mono hj hji
      rw [H.1] at hm; cases hm
  | fuel + 1, listed, a, w, hc, hfree, hr, hy, hS, H => by
    refine ⟨fun h => (by rw [h] at hr; cases hr), fun j hj => ?_⟩
    by_cases hji : j = i
    · subst hji; exact hy.wpOp hi hS ⟨fun _ => hS, H⟩
    · have hun := gd_tf (mem_ready.1 hr).1
      have hjz : j ∉ zs := fun e => by
        have hz' := List.all_eq_true.1 hz j e
        rw [up_ready hc hji hj hz'] at hun; cases hun
      obtain ⟨hju, oj, hoj, hall⟩ := mem_ready.1 hj
      have hno : ∀ e ∈ oj.after, Region.binds md e = true → e.on ≠ i := fun e he hb q => by
        have h1 := hall e he hb
        rw [q, hun] at h1; cases h1
      have h2 := wpOp_putIf hoj (hfree j oj hoj hji hju hno) (fun cs b => hsel i oi cs b hi) (fun cs b => hsel j oj cs b hoj) hQ hy (H.2 j (ready_mono hj hji))
      refine wpOp_mono (fun a' w' k => ⟨k.2.1, ?_⟩) h2
      refine wpAnyZ_first hi hsel hQ hz hiz fuel (listed.setIfInBounds j true) a' w' (hc.set hj) (fun k ok hk hki hku hkn => hfree k ok hk hki ?_ hkn) (ready_mono hr (Ne.symm hji)) k.1 (k.2.1 hjz) ?_
      · by_cases hjk : j = k
        · rw [← hjk]; exact hju
        · rwa [gd_set hjk] at hku
      · rw [Array.setIfInBounds_comm _ _ hji]; exact k.2.2
/-- take number i first: the operations zs wait for it -/
theorem wpAnyZ_take {i : Nat} {oi : Oper} {v : Value} {fuel : Nat} {listed : Array Bool} {a : Act} {w : World} (hi : ops[i]? = some oi)
    (hs : Region.noSelect ops = true) (hf : Region.free md ops listed i = true) (hr : (Region.ready md ops listed).contains i = true) (hc : closedB md ops listed = true) (hz : zs.all (fun z => upB md ops i ops.size z) = true) (hiz : i ∉ zs)
    (hQ : ∀ c a w, Q (.panic c) (a.put oi.dst v) w → Q (.panic c) a w) (hy : YieldsIf P ops S oi v a) (hS : S w)
    (h : wpAnyZ P md ops Q S zs fuel (listed.setIfInBounds i true) (a.put oi.dst v) w) : wpAnyZ P md ops Q S zs (fuel + 1) listed a w :=
  wpAnyZ_first hi (Region.noSelect_spec hs) hQ hz hiz fuel listed a w (closed_of hc) (Region.free_spec hi hf) (by simpa using hr) hy hS h
def AllReadyZ (P : Program) (md : Region.Mode) (ops : Array Oper) (Q : Exit → Act → World → Prop) (S : World → Prop) (zs : List Nat) (fuel : Nat) (listed : Array Bool) (a : Act) (w : World) (rs : List Nat) : Prop :=
  ∀ i ∈ rs, wpOp P ops Q i (fun a' w' => (i ∉ zs → S w') ∧ wpAnyZ P md ops Q S zs fuel (listed.setIfInBounds i true) a' w') a w
theorem AllReadyZ.nil {fuel : Nat} {listed : Array Bool} {a : Act} {w : World} : AllReadyZ P md ops Q S zs fuel listed a w [] := fun _ h => by cases h
theorem AllReadyZ.cons {fuel : Nat} {listed : Array Bool} {a : Act} {w : World} {i : Nat} {o : Oper} {rs : List Nat} (ho : ops[i]? = some o)
    (h : ∀ K : Act → World → Prop, Shut (∀ a w, (i ∉ zs → S w) → wpAnyZ P md ops Q S zs fuel (listed.setIfInBounds i true) a w → K a w) → if Region.wanted o (yielded ops a.tmps) = true then Oper.wp P o a w K Q else K (a.put o.dst undef) w)
    (hs : AllReadyZ P md ops Q S zs fuel listed a w rs) : AllReadyZ P md ops Q S zs fuel listed a w (i :: rs) := fun j hj => by
  rcases List.mem_cons.1 hj with rfl | hj
  · exact wpOp_step ho (fun K hK => h K (fun a w hS hW => hK a w ⟨hS, hW⟩))
  · exact hs j hj
theorem wpAnyZ_ready {rs : List Nat} {fuel : Nat} {listed : Array Bool} {a : Act} {w : World} (hr : Region.ready md ops listed = rs) (hne : rs ≠ [])
    (h : AllReadyZ P md ops Q S zs fuel listed a w rs) : wpAnyZ P md ops Q S zs (fuel + 1) listed a w := ⟨fun h0 => absurd (hr ▸ h0) hne, hr ▸ h⟩
theorem wpAnyZ_done {listed : Array Bool} {a : Act} {w : World} (hr : Region.ready md ops listed = []) (h : Q .normal a w) : ∀ fuel, wpAnyZ P md ops Q S zs fuel listed a w
  | 0 => ⟨hr, h⟩
  | _ + 1 => ⟨fun _ => h, by rw [hr]; simp⟩
theorem wpAnyZ_gen {fuel : Nat} {listed : Array Bool} {a : Act} {w : World} (h : ∀ W, W = w → wpAnyZ P md ops Q S zs fuel listed a W) : wpAnyZ P md ops Q S zs fuel listed a w := h w rfl
/-- the beginning: zs are the operations behind which the condition need not hold -/
theorem wp_region_z (S : World → Prop) {id : Nat} {a : Act} {w : World} (zs : List Nat) (hm : P.follows .mixedOrders = true) (hS : S w.drew)
    (h : S w.drew → wpAnyZ P .any ops Q S zs ops.size (Array.replicate ops.size false) a w.drew) : (Code.region id ops true).wp P Q a w :=
  wp_region_any hm (wpAny_of_z _ _ _ _ (h hS))
theorem yields_rowz {op : Oper} {a : Act} (hw : Region.wanted op (yielded ops a.tmps) = true) (ty : TypeId) (x : Operand) (ho : op.op = .load ty x)
    (b o : Nat) {fs : Array Field} (cl : List Value) (hS : ∀ w, S w → ∀ j v, cl[j]? = some v → w.cell? ⟨b, o + j, none⟩ = some v) (part : Array Value) (hx : a.eval x = .pointer (some ⟨b, o, none⟩)) (hp : cl.toArray = part)
    (hu : P.underlying ty = some (.struct fs)) (hi : (P.info? ty).map (·.size) = some cl.length) : YieldsIf P ops S op (.agg part) a := by
  subst hp
  exact yieldsIf_load_mid (P := P) (ops := ops) (S := S) hw ty x ho b o hx cl _ hS hu rfl hi
end
end Go.Proofs.YtjcinncphffgaaaGreat
namespace Go.Proofs.YtjcinncphffgaaaGreat
open Go.RowKit Go.Maps
theorem cutN_minH (s : ByteArray) (n : Nat) : min (s.size : Int) (n : Int) = (cutN s n : Int) := by unfold cutN; split <;> omega
theorem cutN_minH40 (s : ByteArray) : min (s.size : Int) 40 = (cutN s 40 : Int) := cutN_minH s 40
theorem cutN_minH450 (s : ByteArray) : min (s.size : Int) 450 = (cutN s 450 : Int) := cutN_minH s 450
def cutWs (p : Pf) (k : Nat) : List Wn := (p.l.take k).map cutW
theorem cutWs_snoc (p : Pf) (k : Nat) (h : k < p.l.length) : (cutWs p (k + 1)).flatMap Wn.cl = (cutWs p k).flatMap Wn.cl ++ (cutW p.l[k]).cl := by
  unfold cutWs
  rw [List.take_succ_eq_append_getElem h, List.map_append, List.flatMap_append]; simp
/-- a proof that is being cut -/
def pfK (p : Pf) (A : Option Addr) (k c : Nat) : Array Value := #[.int .u64 (p.am : Nat), .string (cutT p.sig 450), .string (cutT p.tok 40), .slice A k c]
theorem pfK_one (p : Pf) (A : Option Addr) (k c : Nat) : (pfK p A k c).all (·.oneCell') = true := by
  rw [Array.all_eq_true']
  intro x hx
  simp only [pfK, List.mem_toArray, List.mem_cons, List.not_mem_nil, or_false] at hx
  rcases hx with rfl | rfl | rfl | rfl <;> rfl
theorem pfK_over (p : Pf) (A : Option Addr) (k c : Nat) {cs : Array Value} (h : cs.size = 4) : over cs 0 (pfK p A k c).toList = pfK p A k c := (over_full (pfK p A k c).toList cs (by rw [h]; rfl)).trans (Array.toArray_toList ..)
theorem blk_far {W : World} {B base size n : Nat} {t e : TypeId} {cs : Array Value} {v : Value} {xs : List Value} (h : Blk W B t cs) (hr : W.ownsRow base e size v n xs) (hte : t ≠ e) : some B ≠ v.ownBlock := fun q => h.kdT.own_ne hr hte B q.symm (by simp)
set_option maxRecDepth 100000 in
set_option maxHeartbeats 2000000 in
theorem lcut_any (p : Pf) (w0 : World) (hsl : Sl w0 w0.heap.size 10 Wn.cl p.A p.l) (hpl : p.l.length ≤ maxLen) :
    Calls Tryz.prog 74 #[.agg p.cs] w0 fun e w' => ∃ (A : Option Addr) (k c : Nat), e = .returned (.agg #[.int .u64 (p.am : Nat), .string (cutT p.sig 450), .string (cutT p.tok 40), .slice A k c]) ∧ k = ((p.l.take 6).map cutW).length ∧ w'.ownsRow w0.heap.size 122 10 (.slice A k c) k (((p.l.take 6).map cutW).flatMap Wn.cl) ∧ Below w0.heap.size w0 w' := by
  unfold maxLen at hpl
  have HX : Hid (Blk ((w0.alloc (.cells p.cs 51)).alloc (.cells zPf.cs 51)) w0.heap.size 51 p.cs) := Lib.hid ((Blk.new _ _ _).alloc _)
  have HR : Hid (Blk ((w0.alloc (.cells p.cs 51)).alloc (.cells zPf.cs 51)) (w0.heap.size + 1) 51 zPf.cs) := Blk.newAt (by simp)
  have HB : Hid (Below w0.heap.size w0 ((w0.alloc (.cells p.cs 51)).alloc (.cells zPf.cs 51))) := ((Below.refl _ _).alloc (Nat.le_refl _) _).alloc (by simp) _
  have s1 := (cutN_le p.sig 450).1
  have s2 := (cutN_le p.tok 40).1
  have HSL0 := Lib.hid hsl
  clear hsl
  obtain ⟨n0, hni, hw0, hw1, hw2⟩ := info_parts Tryz.infoWnC
  have Hnz := Lib.hid hw0
  clear hw0
  go_enter Tryz.func74, Tryz.ntmps74
  go_upto_region 1 with fail
  refine wp_gen fun X0 hX => ?_
  replace HX : Hid (Blk X0 w0.heap.size 51 p.cs) := Lib.hid (by rw [hX]; exact HX.out)
  replace HR : Hid (Blk X0 (w0.heap.size + 1) 51 zPf.cs) := Lib.hid (by rw [hX]; exact HR.out)
  replace HB : Hid (Below w0.heap.size w0 X0) := Lib.hid (by rw [hX]; exact HB.out)
  clear hX
  refine wp_region_held_drew (S := fun W => Hid (Blk W w0.heap.size 51 p.cs)) (by kernel_rfl) (Lib.hid (HX.out.drewN 1)) (fun hS => ?_)
  replace HX : Hid (Blk X0.drew w0.heap.size 51 p.cs) := Lib.hid (HX.out.drewN 1)
  replace HR : Hid (Blk X0.drew (w0.heap.size + 1) 51 zPf.cs) := Lib.hid (HR.out.drewN 1)
  replace HB : Hid (Below w0.heap.size w0 X0.drew) := HB.out.drew
  refine wpAnyH_genT fun X hX => ?_
  rw [← hX] at HX HR HB hS
  clear hX
  refine wpAnyH_take (i := 0) (v := ?_) rfl (by kernel_rfl) (by kernel_rfl) (by kernel_rfl) (fun _ _ _ h => h) (Or.inl ⟨by rfl, ?_⟩) hS ?_
  rotate_left
  · (intro w _; go_simp; try with_reducible rfl)
  refine wpAnyH_take (i := 1) (v := ?_) rfl (by kernel_rfl) (by kernel_rfl) (by kernel_rfl) (fun _ _ _ h => h) (Or.inl ⟨by rfl, ?_⟩) hS ?_
  rotate_left
  · (intro w hS'; have hcell := (show World.cell? _ ⟨w0.heap.size, 0, none⟩ = some (.int .u64 p.am) from Blk.cell hS'.out 0); go_simp; try with_reducible rfl)
  refine wpAnyH_take (i := 2) (v := ?_) rfl (by kernel_rfl) (by kernel_rfl) (by kernel_rfl) (fun _ _ _ h => h) (Or.inl ⟨by rfl, ?_⟩) hS ?_
  rotate_left
  · (intro w _; go_simp; try with_reducible rfl)
  refine wpAnyH_take (i := 3) (v := ?_) rfl (by kernel_rfl) (by kernel_rfl) (by kernel_rfl) (fun _ _ _ h => h) (Or.inl ⟨by rfl, ?_⟩) hS ?_
  rotate_left
  · (intro w hS'; have hcell := (show World.cell? _ ⟨w0.heap.size, 1, none⟩ = some (.string p.sig) from Blk.cell hS'.out 1); go_simp; try with_reducible rfl)
  refine wpAnyH_take (i := 4) (v := ?_) rfl (by kernel_rfl) (by kernel_rfl) (by kernel_rfl) (fun _ _ _ h => h) (Or.inl ⟨by rfl, ?_⟩) hS ?_
  rotate_left
  · (intro w _; go_simp; try with_reducible rfl)
  refine wpAnyH_take (i := 5) (v := ?_) rfl (by kernel_rfl) (by kernel_rfl) (by kernel_rfl) (fun _ _ _ h => h) (Or.inl ⟨by rfl, ?_⟩) hS ?_
  rotate_left
  · (intro w hS'; have hcell := (show World.cell? _ ⟨w0.heap.size, 1, none⟩ = some (.string p.sig) from Blk.cell hS'.out 1); go_simp; try with_reducible rfl)
  refine wpAnyH_take (i := 6) (v := ?_) rfl (by kernel_rfl) (by kernel_rfl) (by kernel_rfl) (fun _ _ _ h => h) (Or.inl ⟨by rfl, ?_⟩) hS ?_
  rotate_left
  · (intro w _; go_simp; try with_reducible rfl)
  refine wpAnyH_take (i := 7) (v := .int .i64 ((cutN p.sig 450 : Nat) : Int)) rfl (by kernel_rfl) (by kernel_rfl) (by kernel_rfl) (fun _ _ _ h => h) (Or.inl ⟨by rfl, ?_⟩) hS ?_
  · intro w _
    go_simp
    first | rw [cutN_if450] | rw [cutN_minH450]
  refine wpAnyH_take (i := 8) (v := ?_) rfl (by kernel_rfl) (by kernel_rfl) (by kernel_rfl) (fun _ _ _ h => h) (Or.inl ⟨by rfl, ?_⟩) hS ?_
  rotate_left
  · (intro w _; go_simp; try with_reducible rfl)
  refine wpAnyH_take (i := 9) (v := ?_) rfl (by kernel_rfl) (by kernel_rfl) (by kernel_rfl) (fun _ _ _ h => h) (Or.inl ⟨by rfl, ?_⟩) hS ?_
  rotate_left
  · (intro w _; go_simp; try with_reducible rfl)
  refine wpAnyH_take (i := 10) (v := ?_) rfl (by kernel_rfl) (by kernel_rfl) (by kernel_rfl) (fun _ _ _ h => h) (Or.inl ⟨by rfl, ?_⟩) hS ?_
  rotate_left
  · (intro w hS'; have hcell := (show World.cell? _ ⟨w0.heap.size, 2, none⟩ = some (.string p.tok) from Blk.cell hS'.out 2); go_simp; try with_reducible rfl)
  refine wpAnyH_take (i := 11) (v := ?_) rfl (by kernel_rfl) (by kernel_rfl) (by kernel_rfl) (fun _ _ _ h => h) (Or.inl ⟨by rfl, ?_⟩) hS ?_
  rotate_left
  · (intro w _; go_simp; try with_reducible rfl)
  refine wpAnyH_take (i := 12) (v := ?_) rfl (by kernel_rfl) (by kernel_rfl) (by kernel_rfl) (fun _ _ _ h => h) (Or.inl ⟨by rfl, ?_⟩) hS ?_
  rotate_left
  · (intro w hS'; have hcell := (show World.cell? _ ⟨w0.heap.size, 2, none⟩ = some (.string p.tok) from Blk.cell hS'.out 2); go_simp; try with_reducible rfl)
  refine wpAnyH_take (i := 13) (v := ?_) rfl (by kernel_rfl) (by kernel_rfl) (by kernel_rfl) (fun _ _ _ h => h) (Or.inl ⟨by rfl, ?_⟩) hS ?_
  rotate_left
  · (intro w _; go_simp; try with_reducible rfl)
  refine wpAnyH_take (i := 14) (v := .int .i64 ((cutN p.tok 40 : Nat) : Int)) rfl (by kernel_rfl) (by kernel_rfl) (by kernel_rfl) (fun _ _ _ h => h) (Or.inl ⟨by rfl, ?_⟩) hS ?_
  · intro w _
    go_simp
    first | rw [cutN_if40] | rw [cutN_minH40]
  refine wpAnyH_take (i := 15) (v := ?_) rfl (by kernel_rfl) (by kernel_rfl) (by kernel_rfl) (fun _ _ _ h => h) (Or.inl ⟨by rfl, ?_⟩) hS ?_
  rotate_left
  · (intro w _; go_simp; try with_reducible rfl)
  refine wpAnyH_take (i := 16) (v := ?_) rfl (by kernel_rfl) (by kernel_rfl) (by kernel_rfl) (fun _ _ _ h => h) (Or.inl ⟨by rfl, ?_⟩) hS ?_
  rotate_left
  · (intro w _; go_simp; try with_reducible rfl)
  clear hS
  refine wpAnyH_ready (rs := [17]) (by kernel_rfl) (by simp) (AllReadyH.cons rfl (fun K hK => ?_) AllReadyH.nil)
  go_simp
  refine hK.out _ _ (Lib.hid (HX.out.alloc _)) (fun _ => ?_)
  clear hK K
  have HZ : Hid (Blk (X.alloc (.cells zPf.cs 51)) X.heap.size 51 zPf.cs) := Blk.new _ _ _
  replace HX := Lib.hid (HX.out.alloc (.cells zPf.cs 51))
  have hgl := HR.out.lt
  replace HR := Lib.hid (HR.out.alloc (.cells zPf.cs 51))
  replace HB := Lib.hid (HB.out.alloc HB.out.size (.cells zPf.cs 51))
  refine wpAnyH_ready (rs := [18]) (by kernel_rfl) (by simp) (AllReadyH.cons rfl (fun K hK => ?_) AllReadyH.nil)
  refine step_store_part (by rfl) 51 (.tmp 3) (.tmp 21) (by rfl) X.heap.size 0 HZ.out (cutP p).cs (cutP p).cs (by rfl) (by rfl) (Nat.le_refl 4) infoPf (pfcs_one _) (pf_over _ rfl) ?_
  intro W1 hb1 hc1
  have HT := Lib.hid hb1
  replace HX := Lib.hid (HX.out.ch hc1 (by simp <;> omega))
  replace HR := Lib.hid (HR.out.ch hc1 (by simp <;> omega))
  have hzz := HB.out.size
  replace HB := Lib.hid (HB.out.trans (hc1.below HB.out.size (by simp <;> omega)))
  clear hb1 hc1 HZ
  refine hK.out _ _ HX (fun _ => ?_)
  clear hK K
  refine wpAnyH_done (by kernel_rfl) ?_ _
  have HO0 : Hid (W1.ownsRow w0.heap.size 122 10 (.slice none 0 0) 0 []) := Lib.hid (own_nil0 _ _ _ _)
  have hgX : w0.heap.size + 1 < X.heap.size := hgl
  generalize X.heap.size = g at HT hgX ⊢
  have HT0 : Hid (Blk W1 g 51 (pfK p none 0 0)) := HT
  have c3 : W1.cell? ⟨w0.heap.size, 3, none⟩ = some (.slice p.A p.l.length p.c) := Blk.cell HX.out 3
  clear HT s1 s2
  go_wp2_with fail
  clear c3
  go_loopw [4] (fun i wr => ∃ (k : Nat) (A : Option Addr) (c : Nat), k ≤ p.l.length ∧ k ≤ 6 ∧ i = .int .i64 k ∧ Hid (Blk wr w0.heap.size 51 p.cs) ∧ Hid (Blk wr (w0.heap.size + 1) 51 zPf.cs) ∧ Hid (Blk wr g 51 (pfK p A k c)) ∧ Hid (wr.ownsRow w0.heap.size 122 10 (.slice A k c) k ((cutWs p k).flatMap Wn.cl)) ∧ Hid (Below w0.heap.size w0 wr)) (fun i _ => 6 - (intOf i).toNat)
  case atStart => exact ⟨0, none, 0, Nat.zero_le _, Nat.zero_le _, rfl, HX, HR, HT0, HO0, HB⟩
  case round =>
    clear HX HR HT0 HO0 HB
    obtain ⟨k, A, c, hk, hk6, rfl, HX, HR, HT, HO, HB⟩ := hrel
    have c3 : wr.cell? ⟨w0.heap.size, 3, none⟩ = some (.slice p.A p.l.length p.c) := Blk.cell HX.out 3
    by_cases hlt : k < p.l.length ∧ k < 6
    · obtain ⟨hlt, h6⟩ := hlt
      have HSN := Lib.hid (cutWs_snoc p k hlt)
      obtain ⟨ab, off, hA, hab, hc⟩ := HSL0.out.at_ hlt
      rw [hA] at c3
      have HA := Lib.hid hA
      have HC := Lib.hid (fun (W : World) (hW : Below w0.heap.size w0 W) (j : Nat) (u : Value) (hu : (p.l[k]).cl[j]? = some u) => (hW.cell (p := ⟨ab, off + k * 10 + j, none⟩) hab).trans (hc j u hu))
      clear hA hc
      generalize p.l[k] = x at HC HSN
      have d1 : decide ((k : Int) < (p.l.length : Int)) = true := decide_eq_true (by omega)
      have d2 : decide ((k : Int) < 6) = true := decide_eq_true (by omega)
      have d3 : decide (k < p.l.length) = true := decide_eq_true hlt
      go_upto_region 5 with fail
      refine wp_region_z (fun W => Hid (Blk W w0.heap.size 51 p.cs ∧ Blk W g 51 (pfK p A k c) ∧ ∀ j u, x.cl[j]? = some u → W.cell? ⟨ab, off + k * 10 + j, none⟩ = some u)) [11] (by kernel_rfl) (Lib.hid ⟨HX.out.drewN 1, HT.out.drewN 1, HC.out _ HB.out.drew⟩) (fun hS => ?_)
      replace HX : Hid (Blk wr.drew w0.heap.size 51 p.cs) := Lib.hid (HX.out.drewN 1)
      replace HR : Hid (Blk wr.drew (w0.heap.size + 1) 51 zPf.cs) := Lib.hid (HR.out.drewN 1)
      replace HT : Hid (Blk wr.drew g 51 (pfK p A k c)) := Lib.hid (HT.out.drewN 1)
      replace HO : Hid (wr.drew.ownsRow w0.heap.size 122 10 (.slice A k c) k ((cutWs p k).flatMap Wn.cl)) := Lib.hid HO.out.drew
      replace HB : Hid (Below w0.heap.size w0 wr.drew) := HB.out.drew
      have hk0 : (0 : Int) ≤ (k : Int) := by omega
      have hkl : (k : Int) < (p.l.length : Int) := by omega
      clear c3
      refine wpAnyZ_gen fun X2 hX => ?_
      rw [← hX] at HX HR HB HT HO hS
      clear hX
      refine wpAnyZ_take (i := 0) (v := ?_) rfl (by kernel_rfl) (by kernel_rfl) (by kernel_rfl) (by kernel_rfl) (by kernel_rfl) (by decide) (fun _ _ _ h => h) (Or.inl ⟨by rfl, ?_⟩) hS ?_
      rotate_left
      · (intro w _; go_simp; try with_reducible rfl)
      refine wpAnyZ_take (i := 1) (v := ?_) rfl (by kernel_rfl) (by kernel_rfl) (by kernel_rfl) (by kernel_rfl) (by kernel_rfl) (by decide) (fun _ _ _ h => h) (Or.inl ⟨by rfl, ?_⟩) hS ?_
      rotate_left
      · (intro w hS'; have hcell := (show World.cell? _ ⟨g, 3, none⟩ = some (.slice A k c) from Blk.cell hS'.out.2.1 3); go_simp; try with_reducible rfl)
      refine wpAnyZ_take (i := 2) (v := ?_) rfl (by kernel_rfl) (by kernel_rfl) (by kernel_rfl) (by kernel_rfl) (by kernel_rfl) (by decide) (fun _ _ _ h => h) (Or.inl ⟨by rfl, ?_⟩) hS ?_
      rotate_left
      · (intro w _; go_simp; try with_reducible rfl)
      refine wpAnyZ_take (i := 3) (v := ?_) rfl (by kernel_rfl) (by kernel_rfl) (by kernel_rfl) (by kernel_rfl) (by kernel_rfl) (by decide) (fun _ _ _ h => h) (Or.inl ⟨by rfl, ?_⟩) hS ?_
      rotate_left
      · (intro w hS'; have hcell := (show World.cell? _ ⟨w0.heap.size, 3, none⟩ = some (.slice (some ⟨ab, off, none⟩) p.l.length p.c) from (Blk.cell hS'.out.1 3).trans (by rw [← HA.out]; rfl)); go_simp; try with_reducible rfl)
      refine wpAnyZ_take (i := 4) (v := ?_) rfl (by kernel_rfl) (by kernel_rfl) (by kernel_rfl) (by kernel_rfl) (by kernel_rfl) (by decide) (fun _ _ _ h => h) (Or.inl ⟨by rfl, ?_⟩) hS ?_
      rotate_left
      · (intro w _; go_simp; try with_reducible rfl)
      refine wpAnyZ_take (i := 5) (v := ?_) rfl (by kernel_rfl) (by kernel_rfl) (by kernel_rfl) (by kernel_rfl) (by kernel_rfl) (by decide) (fun _ _ _ h => h) (Or.inl ⟨by rfl, ?_⟩) hS ?_
      rotate_left
      · (intro w _; go_simp; try with_reducible rfl)
      refine wpAnyZ_take (i := 6) (v := .agg x.cs) rfl (by kernel_rfl) (by kernel_rfl) (by kernel_rfl) (by kernel_rfl) (by kernel_rfl) (by decide) (fun _ _ _ h => h) ((yields_rowz (by rfl) 122 (.tmp 38) (by rfl) ab (off + k * 10) x.cl (fun W h => h.out.2.2) x.cs (by rfl) (Array.toArray_toList ..) Tryz.underlying122 infoWn)) hS ?_
      refine wpAnyZ_ready (rs := [7]) (by kernel_rfl) (by simp) (AllReadyZ.cons rfl (fun K hK => ?_) AllReadyZ.nil)
      go_simp
      refine (cutwin_x x _).mono ?_
      rintro e W ⟨rfl, hb⟩
      have HBX := Lib.hid hb
      clear hb
      go_simp
      have hSW := Lib.hid (And.intro (hS.out.1.bel HBX.out) (And.intro (hS.out.2.1.bel HBX.out) (HC.out _ (HB.out.trans (HBX.out.mono HB.out.size)))))
      refine hK.out _ _ (fun _ => hSW) ?_
      clear hK K
      clear hS
      refine wpAnyZ_ready (rs := [8]) (by kernel_rfl) (by simp) (AllReadyZ.cons rfl (fun K hK => ?_) AllReadyZ.nil)
      go_simp
      have hHW := HBX.out.size
      replace HBX := Lib.hid (HBX.out.alloc HBX.out.size (.cells (cutW x).cs 122))
      have HNB : Hid (Blk (W.alloc (.cells (cutW x).cs 122)) W.heap.size 122 (cutW x).cs) := Blk.new _ _ _
      refine hK.out _ _ (fun _ => Lib.hid ⟨hSW.out.1.alloc _, hSW.out.2.1.alloc _, HC.out _ (HB.out.trans (HBX.out.mono HB.out.size))⟩) ?_
      clear hK K hSW
      refine wpAnyZ_gen fun X1 hX1 => ?_
      replace hX1 : X1 = W.alloc (.cells (cutW x).cs 122) := hX1
      rw [← hX1] at HBX HNB
      clear hX1
      have HNW := Lib.hid (World.news_of_block HNB.out)
      have HO1 := Lib.hid (own_belT HO.out HBX.out)
      refine wpAnyZ_ready (rs := [9]) (by kernel_rfl) (by simp) (AllReadyZ.cons rfl (fun K hK => ?_) AllReadyZ.nil)
      refine step_append_lies _ (by rfl) (.tmp 34) (.tmp 41) 49 (by rfl) w0.heap.size 122 n0 _ 10 112 Tryz.underlying49 hni Hnz.out hw1 hw2 rfl (by omega) (.slice A k c) k ((cutWs p k).flatMap Wn.cl) (by rfl) HO1.out ⟨W.heap.size, 0, none⟩ 1 1 (cutW x).cl (by rfl) (by rfl) HNW.out (wncl_one (cutW x)) (by omega) (by simp only [maxLen]; omega) (by omega) (Nat.le_trans HB.out.size HBX.out.size) _ rfl ?_
      intro gg cap W4 hown4 hgrow hat hlt4
      rw [← HSN.out] at hown4
      have HO4 := Lib.hid hown4
      have HX4 := Lib.hid ((HX.out.bel HBX.out).grown hgrow (blk_far (HX.out.bel HBX.out) HO1.out (by decide)))
      have HR4 := Lib.hid ((HR.out.bel HBX.out).grown hgrow (blk_far (HR.out.bel HBX.out) HO1.out (by decide)))
      have HT4 := Lib.hid ((HT.out.bel HBX.out).grown hgrow (blk_far (HT.out.bel HBX.out) HO1.out (by decide)))
      have HB4 : Hid (Below w0.heap.size w0 W4) := Lib.hid ((HB.out.trans (HBX.out.mono HB.out.size)).grown hgrow (Nat.le_trans HB.out.size HBX.out.size) (fun j hj => own_base HO1.out j hj))
      have hSC := Lib.hid (HC.out _ HB4.out)
      clear hown4 hgrow hat hlt4 HNB HNW HO1
      refine hK.out _ _ (fun _ => Lib.hid ⟨HX4.out, HT4.out, hSC.out⟩) ?_
      clear hK K
      have hS4 := Lib.hid (And.intro HX4.out (And.intro HT4.out hSC.out))
      refine wpAnyZ_take (i := 10) (v := ?_) rfl (by kernel_rfl) (by kernel_rfl) (by kernel_rfl) (by kernel_rfl) (by kernel_rfl) (by decide) (fun _ _ _ h => h) (Or.inl ⟨by rfl, ?_⟩) hS4 ?_
      rotate_left
      · (intro w _; go_simp; try with_reducible rfl)
      refine wpAnyZ_ready (rs := [11]) (by kernel_rfl) (by simp) (AllReadyZ.cons rfl (fun K hK => ?_) AllReadyZ.nil)
      have u3 : W4.cell? ⟨g, 3, none⟩ = some (.slice A k c) := HT4.out.cell 3
      have z3 : W4.frozen? ⟨g, 3, none⟩ = false := HT4.out.frozen 3
      go_simp
      refine hK.out _ _ (fun h => absurd (by decide) h) ?_
      clear hK K
      refine wpAnyZ_done (by kernel_rfl) ?_ _
      clear u3 z3 hS4 hSC HX HR HT HB HO HBX
      have HX5 : Hid (Blk (W4.setCell ⟨g, 3, none⟩ (.slice (some ⟨gg, 0, none⟩) (k + 1) cap)) w0.heap.size 51 p.cs) := Lib.hid (HX4.out.far (p := ⟨g, 3, none⟩) (by simp <;> omega) _)
      have HR5 : Hid (Blk (W4.setCell ⟨g, 3, none⟩ (.slice (some ⟨gg, 0, none⟩) (k + 1) cap)) (w0.heap.size + 1) 51 zPf.cs) := Lib.hid (HR4.out.far (p := ⟨g, 3, none⟩) (by simp <;> omega) _)
      have HT5 : Hid (Blk (W4.setCell ⟨g, 3, none⟩ (.slice (some ⟨gg, 0, none⟩) (k + 1) cap)) g 51 (pfK p (some ⟨gg, 0, none⟩) (k + 1) cap)) := Lib.hid (HT4.out.set_ 3 (.slice (some ⟨gg, 0, none⟩) (k + 1) cap))
      have HB5 : Hid (Below w0.heap.size w0 (W4.setCell ⟨g, 3, none⟩ (.slice (some ⟨gg, 0, none⟩) (k + 1) cap))) := Lib.hid (HB4.out.setCell (by simp <;> omega) _)
      have HO5 := Lib.hid (own_chT HO4.out (Ch.set_ (S := [g]) (b := g) (by simp) W4 3 (.slice (some ⟨gg, 0, none⟩) (k + 1) cap)) HT4.out.kdT (by decide))
      generalize (W4.setCell ⟨g, 3, none⟩ (.slice (some ⟨gg, 0, none⟩) (k + 1) cap)) = W5 at HX5 HR5 HT5 HB5 HO5 ⊢
      clear HX4 HR4 HT4 HB4 HO4
      go_wp2_with fail
      go_roundw
      case rel => exact ⟨k + 1, _, _, by omega, by omega, by go_num, HX5, HR5, HT5, HO5, HB5⟩
      case measure => simp [intOf]; omega
    · have d1 : k < p.l.length → decide ((k : Int) < 6) = false := fun h => decide_eq_false (by omega)
      have hk2 : k = ((p.l.take 6).map cutW).length := by rw [List.length_map, List.length_take]; omega
      have hcw : cutWs p k = (p.l.take 6).map cutW := by
        unfold cutWs
        by_cases h6 : k = 6
        · rw [h6]
        · rw [List.take_of_length_le (show p.l.length ≤ k by omega), List.take_of_length_le (show p.l.length ≤ 6 by omega)]
      rw [hcw] at HO
      have HO6 := fun (W6 : World) (hc : Ch [w0.heap.size + 1] wr W6) => Lib.hid (own_chT HO.out hc HR.out.kdT (by decide))
      have HK2 := Lib.hid hk2
      clear hcw hk2
      by_cases hkl : k < p.l.length
      · have d2 := d1 hkl
        have d3 : decide (k < p.l.length) = true := decide_eq_true hkl
        clear d1 hlt
        go_wp2_with (first
          | (refine wpList_load_blk rfl 51 (.tmp 3) rfl g 0 4 HT.out (pfK p A k c) (by rfl) (by rfl) Tryz.underlying51 infoPf (by show 4 ≤ 4; omega) ?_)
          | (refine wpList_store_part rfl 51 (.tmp 2) (.tmp 44) rfl (w0.heap.size + 1) 0 HR.out (pfK p A k c) (pfK p A k c) (by rfl) (by rfl) (Nat.le_refl 4) infoPf (pfK_one _ _ _ _) (pfK_over _ _ _ _ rfl) ?_; intro W6 hb6 hc6; have HR6 := Lib.hid hb6; have HC6 := Lib.hid hc6; clear hb6 hc6))
        exact bodyPost_ret (results_cell_row rfl _ _ (w0.heap.size + 1) 51 _ (0, 0) _ rfl HR6.out Tryz.underlying51 rfl infoPf) rfl ⟨A, k, c, rfl, HK2.out, (HO6 _ HC6.out).out, HB.out.trans (HC6.out.below HB.out.size (by simp))⟩
      · have d3 : decide (k < p.l.length) = false := decide_eq_false hkl
        clear d1 hlt
        go_wp2_with (first
          | (refine wpList_load_blk rfl 51 (.tmp 3) rfl g 0 4 HT.out (pfK p A k c) (by rfl) (by rfl) Tryz.underlying51 infoPf (by show 4 ≤ 4; omega) ?_)
          | (refine wpList_store_part rfl 51 (.tmp 2) (.tmp 44) rfl (w0.heap.size + 1) 0 HR.out (pfK p A k c) (pfK p A k c) (by rfl) (by rfl) (Nat.le_refl 4) infoPf (pfK_one _ _ _ _) (pfK_over _ _ _ _ rfl) ?_; intro W6 hb6 hc6; have HR6 := Lib.hid hb6; have HC6 := Lib.hid hc6; clear hb6 hc6))
        exact bodyPost_ret (results_cell_row rfl _ _ (w0.heap.size + 1) 51 _ (0, 0) _ rfl HR6.out Tryz.underlying51 rfl infoPf) rfl ⟨A, k, c, rfl, HK2.out, (HO6 _ HC6.out).out, HB.out.trans (HC6.out.below HB.out.size (by simp))⟩
end Go.Proofs.YtjcinncphffgaaaGreat
