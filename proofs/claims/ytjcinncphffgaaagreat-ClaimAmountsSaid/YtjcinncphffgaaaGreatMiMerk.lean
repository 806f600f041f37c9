/- merkle: the small ones. merkle.rows. merkle.rows, Root, Path, Up. merkle.Path, Up. merkle.New. merkle: Key.Sign, Root, Left. merkle.Leaf, Verify. -/
import Derived.Lib.OwnKind
import Derived.Outline
import Derived.Deep.RegionHeld3
import Derived.Deep.AppendLies
import Derived.Deep.Onto
import Derived.Laws.EntriesVeiled
import Derived.Lib.SliceRun
import Derived.Deep.RegionLaw
import Derived.Test.YtjcinncphffgaaaGreatMiWots
set_option linter.unusedVariables false
set_option linter.unusedSimpArgs false
namespace Go.Proofs.YtjcinncphffgaaaGreat
section
open Go.RowKit
theorem one_any (n : Nat) (w : World) (hn : n < 256) : Calls Tryz.prog 114 #[.int .i64 n] w fun e w' => e = .returned (.string (oneB n)) ∧ Below w.heap.size w w' := by
 have kc := conv1
 have hn2 : (n : Int) < 256 := by omega
 go_enter Tryz.func114, Tryz.ntmps114
 go_wp2_with fail
 go_ret
 exact ⟨rfl, (Below.refl _ _).alloc (Nat.le_refl _) _⟩
theorem odd_no (s : ByteArray) (w : World) (hs : s.size = 16) : Calls Tryz.prog 92 #[.string s] w fun e w' => e = .returned (.bool false) ∧ w = w' := by
 have h1 : ((s.size : Int) != 16) = false := by rw [hs]; rfl
 clear hs
 go_enter Tryz.func92, Tryz.ntmps92
 go_wp2_with fail
 go_ret
 exact ⟨rfl, rfl⟩
theorem node_any (a b : ByteArray) (w : World) (ha : a.size ≤ 1000000) (hb : b.size ≤ 1000000) : Calls Tryz.prog 156 #[.string a, .string b] w fun e w' => e = .returned (.string (nodeB a b)) ∧ Below w.heap.size w w' := by
 go_enter Tryz.func156, Tryz.ntmps156
 go_wp2_with fail
 refine (tag2 _ a b _ _ rfl (by decide) ha hb).mono ?_
 rintro e w' ⟨rfl, hb'⟩
 go_wp2_with fail
 go_ret
 exact ⟨rfl, hb'⟩
theorem topped_any (h : Nat) (x : ByteArray) (w : World) (hh : h < 256) (hx : x.size ≤ 1000000) : Calls Tryz.prog 147 #[.int .i64 h, .string x] w fun e w' => e = .returned (.string (topB h x)) ∧ Below w.heap.size w w' := by
 have z1 : (oneB h).size ≤ 1000000 := by rw [oneB_size]; omega
 go_enter Tryz.func147, Tryz.ntmps147
 go_wp2_with fail
 refine (one_any h _ hh).mono ?_
 rintro e w1 ⟨rfl, hb1⟩
 go_wp2_with fail
 refine (tag2 _ (oneB h) x _ _ rfl (by decide) z1 hx).mono ?_
 rintro e w' ⟨rfl, hb'⟩
 go_wp2_with fail
 go_ret
 exact ⟨rfl, hb1.trans (hb'.mono hb1.size)⟩
theorem seeded_any (seed : ByteArray) (i : Nat) (w : World) (hi : i < 256) (hx : seed.size ≤ 1000000) : Calls Tryz.prog 76 #[.string seed, .int .i64 i] w fun e w' => e = .returned (.string (seedB seed i)) ∧ Below w.heap.size w w' := by
 have z1 : (oneB i).size ≤ 1000000 := by rw [oneB_size]; omega
 go_enter Tryz.func76, Tryz.ntmps76
 go_wp2_with fail
 refine (one_any i _ hi).mono ?_
 rintro e w1 ⟨rfl, hb1⟩
 go_wp2_with fail
 refine (tag2 _ seed (oneB i) _ _ rfl (by decide) hx z1).mono ?_
 rintro e w' ⟨rfl, hb'⟩
 go_wp2_with fail
 go_ret
 exact ⟨rfl, hb1.trans (hb'.mono hb1.size)⟩
theorem about_any (root msg : ByteArray) (i : Nat) (w : World) (hi : i < 256) (hx : root.size ≤ 1000000) (hm : msg.size ≤ 1000000) : Calls Tryz.prog 94 #[.string root, .int .i64 i, .string msg] w fun e w' => e = .returned (.string (aboutB root i msg)) ∧ Below w.heap.size w w' := by
 have z1 : (oneB i).size ≤ 1 := by rw [oneB_size]; omega
 have z2 : (root ++ oneB i).size ≤ 1000001 := by rw [ByteArray.size_append, oneB_size]; omega
 go_enter Tryz.func94, Tryz.ntmps94
 go_wp2_with fail
 refine (one_any i _ hi).mono ?_
 rintro e w1 ⟨rfl, hb1⟩
 go_wp2_with fail
 go_ret
 exact ⟨rfl, hb1⟩
/-- a text's list of 16 bytes each, in a row of strings -/
def SR (w : World) (v : Value) (l : List ByteArray) : Prop := w.ownsRow 0 9 1 v l.length (l.map Value.string)
theorem SR.form {w : World} {v : Value} {l : List ByteArray} (h : SR w v l) : ∃ A c, v = .slice A l.length c := own_form h
theorem SR.cell {w : World} {A : Option Addr} {n c : Nat} {l : List ByteArray} (h : SR w (.slice A n c) l) {i : Nat} (hi : i < l.length) : ∃ g, A = some ⟨g, 0, none⟩ ∧ g < w.heap.size ∧ (∃ cs fr, w.heap[g]? = some (Obj.cells cs 9 fr)) ∧ w.cell? ⟨g, i, none⟩ = some (.string l[i]) := by
 obtain ⟨g, cap, hv, _, hlt⟩ := World.ownsRow.form h (by omega)
 injection hv with h1 h2 h3
 subst h1
 obtain ⟨cs, fr, hk⟩ := Lib.ownsRow_kind h g rfl
 refine ⟨g, rfl, hlt, ⟨cs, fr, hk⟩, ?_⟩
 have := World.ownsRow.cells h (g := g) rfl i (.string l[i]) (by simp [hi])
 rwa [addr_add0] at this
/-- strings stay as they were, and all below B -/
structure KS (B : Nat) (w w' : World) : Prop where
 bel : Below B w w'
 size : w.heap.size ≤ w'.heap.size
 str : ∀ (g : Nat) (cs : Array Value) (fr : Nat × Nat), w.heap[g]? = some (Obj.cells cs 9 fr) → w'.heap[g]? = some (Obj.cells cs 9 fr)
theorem KS.trans {B : Nat} {a b c : World} (h : KS B a b) (k : KS B b c) : KS B a c := ⟨h.bel.trans k.bel, Nat.le_trans h.size k.size, fun g cs fr hg => k.str g cs fr (h.str g cs fr hg)⟩
theorem KS.of_below {B : Nat} {w w' : World} (h : Below w.heap.size w w') (hB : B ≤ w.heap.size) : KS B w w' := ⟨h.mono hB, h.size, fun g _ _ hg => (h.block g (Array.getElem?_eq_some_iff.1 hg).1).trans hg⟩
theorem KS.of_ch {B : Nat} {S : List Nat} {w w' : World} (h : Ch S w w') (hB : B ≤ w.heap.size) (hS : ∀ g ∈ S, B ≤ g ∧ ∀ cs fr, w.heap[g]? ≠ some (Obj.cells cs 9 fr)) : KS B w w' :=
 ⟨h.below hB (fun g hg => (hS g hg).1), h.size, fun g cs fr hg => h.heap hg (fun hm => (hS g hm).2 cs fr hg)⟩
theorem KS.sr {B : Nat} {w w' : World} {v : Value} {l : List ByteArray} (h : KS B w w') (hs : SR w v l) : SR w' v l := by
 obtain ⟨h1, h2⟩ := hs
 refine ⟨h1, ?_⟩
 rcases h2 with h2 | ⟨g, cap, cur, hv, hb, hg, r⟩
 ·exact .inl h2
 ·exact .inr ⟨g, cap, cur, hv, hb, h.str g _ _ hg, r⟩
set_option maxRecDepth 100000 in
set_option maxHeartbeats 400000 in
theorem indexOdd_any (v : Value) (l : List ByteArray) (w : World) (h : SR w v l) (hl : ∀ x ∈ l, x.size = 16) (hn : l.length ≤ 1000) :
  Calls Tryz.prog 188 #[v, .func (.func 92) #[] #[]] w fun e w' => e = .returned (.int .i64 (-1)) ∧ w = w' := by
 obtain ⟨A, c, rfl⟩ := h.form
 have H := Lib.hid h
 have HL := Lib.hid hl
 clear h hl
 go_enter Tryz.func188, Tryz.ntmps188
 go_wp2_with fail
 go_loop [8] (fun i => ∃ k : Nat, k ≤ l.length ∧ i = .int .i64 k) (fun i => l.length - (intOf i).toNat)
 case atStart => exact ⟨0, by omega, rfl⟩
 case round =>
  obtain ⟨k, hk, rfl⟩ := hrel
  by_cases hkl : k < l.length
  ·obtain ⟨g, rfl, _, _, hc⟩ := H.out.cell hkl
   have hx := HL.out _ (List.getElem_mem hkl)
   generalize l[k] = x at hc hx
   have HX := Lib.hid hx
   clear hx
   go_wp2_with fail
   refine (odd_no x _ HX.out).mono ?_
   rintro e w' ⟨rfl, rfl⟩
   go_wp2_with fail
   go_round
   case rel => exact ⟨k + 1, by omega, by go_num⟩
   case measure => simp [intOf]; omega
  ·go_wp2_with fail
   go_ret
   exact ⟨rfl, rfl⟩
theorem hasOdd_any (v : Value) (l : List ByteArray) (w : World) (h : SR w v l) (hl : ∀ x ∈ l, x.size = 16) (hn : l.length ≤ 1000) :
  Calls Tryz.prog 155 #[v, .func (.func 92) #[] #[]] w fun e w' => e = .returned (.bool false) ∧ w = w' := by
 go_enter Tryz.func155, Tryz.ntmps155
 go_wp2_with fail
 refine (indexOdd_any v l _ h hl hn).mono ?_
 rintro e w' ⟨rfl, rfl⟩
 go_wp2_with fail
 go_ret
 exact ⟨rfl, rfl⟩
end
section
open Go.RowKit
theorem Tryz.infoRows : (Tryz.prog.info? 66).map (fun i => (i.zero, i.size, i.bytes)) = some (some (.slice none 0 0), 1, 24) := by kernel_rfl
theorem Blk.ne_own {w : World} {g base size n : Nat} {t e : TypeId} {cs : Array Value} {v : Value} {xs : List Value} (h : Blk w g t cs) (ho : w.ownsRow base e size v n xs) (hne : t ≠ e) : some g ≠ v.ownBlock := fun e' => by
 obtain ⟨c, fz, hk⟩ := Lib.ownsRow_kind ho g e'.symm
 unfold Blk at h
 rw [h] at hk
 injection hk with hk
 injection hk with _ hk
 exact hne hk
theorem KS.of_grown {B : Nat} {w w' : World} {row : Option Nat} (h : w.grownBy w' row) (hB : B ≤ w.heap.size) (hr : ∀ g, row = some g → B ≤ g ∧ ∀ cs fr, w.heap[g]? ≠ some (Obj.cells cs 9 fr)) : KS B w w' :=
 ⟨(Below.refl _ _).grown h hB (fun g e => (hr g e).1), h.size, fun g cs fr hg => (h.block g (Array.getElem?_eq_some_iff.1 hg).1 (fun e => (hr g e.symm).2 cs fr hg)).trans hg⟩
theorem KS.mono_base {B B' : Nat} {w w' : World} (h : KS B w w') (hB : B' ≤ B) : KS B' w w' := ⟨h.bel.mono hB, h.size, h.str⟩
theorem own_kinds {w : World} {base n size : Nat} {e : TypeId} {v : Value} {xs : List Value} (h : w.ownsRow base e size v n xs) (hne : e ≠ 9) : ∀ g, v.ownBlock = some g → base ≤ g ∧ ∀ cs fr, w.heap[g]? ≠ some (Obj.cells cs 9 fr) := fun g hg => by
 obtain ⟨c, fz, hk⟩ := Lib.ownsRow_kind h g hg
 refine ⟨(h.lt g hg).1, fun cs fr hh => ?_⟩
 rw [hk] at hh
 injection hh with hh
 injection hh with _ hh
 exact hne hh
/-- the rows from one on -/
def rowsR : Nat → List ByteArray → List (List ByteArray)
 | 0, l => [l]
 | h + 1, l => l :: rowsR h (above l)
def All2 {α β : Type} (R : α → β → Prop) : List α → List β → Prop
 | [], [] => True
 | a :: l, b :: m => R a b ∧ All2 R l m
 | _, _ => False
def upF (bo bu : Nat) : Value := .func (.func 185) #[] #[.pointer (some ⟨bo, 0, none⟩), .pointer (some ⟨bu, 0, none⟩)]
def UpC (base bo bu h : Nat) : Prop := ∀ (row : List ByteArray) (v : Value) (vs : List Value) (o : Value) (w : World), row.length = 2 ^ h → h ≤ 4 → (∀ x ∈ row, x.size = 16) → SR w v row →
 Blk w bo 249 #[o] → w.ownsRow base 66 1 o vs.length vs → Blk w bu 289 #[upF bo bu] → base ≤ bo → base ≤ bu → base ≤ w.heap.size → vs.length + h ≤ 10 →
 Calls Tryz.prog 185 #[v, .pointer (some ⟨bo, 0, none⟩), .pointer (some ⟨bu, 0, none⟩)] w fun e w' => e = .returned (.tuple #[]) ∧ ∃ (o' : Value) (us : List Value), Blk w' bo 249 #[o'] ∧ w'.ownsRow base 66 1 o' (vs.length + (h + 1)) (vs ++ us) ∧ All2 (SR w') us (rowsR h row) ∧ Blk w' bu 289 #[upF bo bu] ∧ KS base w w'
theorem take_above (l : List ByteArray) (k : Nat) (hk : 2 * k + 1 < l.length) : ((above l).take (k + 1)).map Value.string = ((above l).take k).map Value.string ++ [.string (nodeB (l.getD (2 * k) ByteArray.empty) (l.getD (2 * k + 1) ByteArray.empty))] := by
 have hl : k < (above l).length := by rw [above_length]; omega
 have := above_get l k hk
 rw [List.getD_eq_getElem?_getD, List.getElem?_eq_getElem hl] at this
 rw [List.take_succ_eq_append_getElem hl, List.map_append, ← this]; rfl
set_option maxRecDepth 100000 in
set_option maxHeartbeats 1000000 in
theorem up_step (base bo bu h : Nat) (ih : 1 ≤ h → UpC base bo bu (h - 1)) : UpC base bo bu h := by
 intro row v vs o w hrow hh hall hsr hbo hown hbu hb1 hb2 hbw hvs
 obtain ⟨i0, hi, hz0, hz1, hz2⟩ := info_parts Tryz.infoRows
 have Hz := Lib.hid hz0
 have HR := Lib.hid hrow
 obtain ⟨Ao, co, rfl⟩ := own_form hown
 have co0 : w.cell? ⟨bo, 0, none⟩ = some (.slice Ao vs.length co) := hbo.cell 0
 have fo0 : w.frozen? ⟨bo, 0, none⟩ = false := hbo.frozen 0
 obtain ⟨Av, cv, rfl⟩ := hsr.form
 have hOV : (Value.slice Av row.length cv).oneCell' = true := rfl
 have hne1 := hbo.ne_own hown (by decide)
 have hne2 := hbu.ne_own hown (by decide)
 have hnb : bu ≠ bo := (hbo.ne_ hbu (by decide)).symm
 have hk := own_kinds hown (by decide)
 have HSR := Lib.hid hsr
 have HBO := Lib.hid hbo
 have HBU := Lib.hid hbu
 have HOWN := Lib.hid hown
 have HALL := Lib.hid hall
 have hlo := hbo.lt
 have hlu := hbu.lt
 have HK := Lib.hid hk
 clear hz0 hrow hsr hbo hbu hown hall hk
 go_enter Tryz.func185, Tryz.ntmps185
 go_wp2_with (first | (at_builtin; go_must (refine wpList_append_own _ rfl (.tmp 6) (.tmp 8) _ rfl base 66 i0 _ 1 24 Tryz.underlying249 hi Hz.out hz1 hz2 rfl (by decide) _ vs.length _ rfl (HOWN.out.alloc _) ⟨w.heap.size, 0, none⟩ 1 1 _ rfl rfl (news_alloc _ _ _ _ _ rfl rfl) (by intro u hu; simp at hu; subst hu; rfl) (by simp only [maxLen]; omega) (by omega) (by simp; omega) ?_); intro v' w1 hown1 hg1 _; have hbo1 := Lib.hid ((HBO.out.alloc _).grown hg1 hne1); have hbu1 := Lib.hid ((HBU.out.alloc _).grown hg1 hne2); obtain ⟨A', c', rfl⟩ := own_form hown1; have hc1 : w1.cell? ⟨bo, 0, none⟩ = some (.slice Ao vs.length co) := hbo1.out.cell 0; have hf1 : w1.frozen? ⟨bo, 0, none⟩ = false := hbo1.out.frozen 0; have HG1 := Lib.hid hg1; have HO1 := Lib.hid hown1; clear hg1 hown1))
 have HKS2 : Hid (KS base w (w1.setCell ⟨bo, 0, none⟩ (.slice A' (vs.length + 1) c'))) := ((KS.of_below ((Below.refl _ _).alloc (Nat.le_refl _) _) hbw).trans (KS.of_grown HG1.out (by simp; omega) (fun g e => by
   have := HK.out g e
   refine ⟨this.1, fun cs fr hh => ?_⟩
   have hlt := (HOWN.out.lt g e).2
   rw [Below.heap_alloc _ _ _ hlt] at hh
   exact this.2 cs fr hh))).trans (KS.of_ch (S := [bo]) (Ch.set_ (by simp) _ _ _) (by have := HG1.out.size; simp at this; omega) (fun g hg => by
   simp at hg; subst hg
   refine ⟨hb1, fun cs fr hh => ?_⟩
   have := hbo1.out
   unfold Blk at this
   rw [this] at hh
   injection hh with hh
   injection hh with _ hh
   exact absurd hh (by decide)))
 have HBO2 : Hid (Blk (w1.setCell ⟨bo, 0, none⟩ (.slice A' (vs.length + 1) c')) bo 249 #[.slice A' (vs.length + 1) c']) := hbo1.out.set_ 0 _
 have HBU2 : Hid (Blk (w1.setCell ⟨bo, 0, none⟩ (.slice A' (vs.length + 1) c')) bu 289 #[upF bo bu]) := hbu1.out.far hnb _
 have HO2 : Hid ((w1.setCell ⟨bo, 0, none⟩ (.slice A' (vs.length + 1) c')).ownsRow base 66 1 (.slice A' (vs.length + 1) c') (vs.length + 1) (vs ++ [.slice Av row.length cv])) :=
  Ch.owns (S := [bo]) (Ch.set_ (by simp) _ _ _) HO1.out (fun b e hm => by simp at hm; subst hm; exact hbo1.out.ne_own HO1.out (by decide) e.symm)
 clear hc1 hf1 HG1 HO1 hbo1 hbu1 hne1 hne2 HK
 generalize w1.setCell ⟨bo, 0, none⟩ (.slice A' (vs.length + 1) c') = W2 at HKS2 HBO2 HBU2 HO2 ⊢
 have HSR2 := Lib.hid (HKS2.out.sr HSR.out)
 have hz2 := HKS2.out.size
 have hp : row.length ≤ 16 := by rw [HR.out]; exact Nat.pow_le_pow_right (by omega) hh
 obtain ⟨j0, hj, hy0, hy1, hy2⟩ := info_parts Tryz.infoStr
 have Hy := Lib.hid hy0
 clear hy0
 go_loopw [4, 5] (fun nx i wr => ∃ k : Nat, 2 * k ≤ row.length ∧ i = .int .i64 (2 * (k : Int) + 1) ∧ Hid (wr.ownsRow W2.heap.size 9 1 nx k (((above row).take k).map Value.string)) ∧ Hid (Below W2.heap.size W2 wr)) (fun _ i _ => row.length + 1 - (intOf i).toNat)
 case atStart => exact ⟨0, by omega, rfl, World.ownsRow_nil _ _ _ _, Below.refl _ _⟩
 case round =>
  obtain ⟨k, hk, rfl, HN, HB⟩ := hrel
  obtain ⟨An, cn, rfl⟩ := own_form HN.out
  have hzr := HB.out.size
  have HSRr := Lib.hid ((KS.of_below HB.out (Nat.le_refl _)).sr HSR2.out)
  by_cases hlt : 2 * k + 1 < row.length
  ·obtain ⟨g, hA, hgl, ⟨cs, fr, hgk⟩, c0⟩ := HSRr.out.cell (i := 2 * k) (by omega)
   obtain ⟨g', hA', _, _, c1⟩ := HSRr.out.cell (i := 2 * k + 1) hlt
   rw [hA] at hA'
   injection hA' with hA'
   injection hA' with hA'
   subst hA'
   subst hA
   have hx := HALL.out _ (List.getElem_mem (show 2 * k < row.length by omega))
   have hy := HALL.out _ (List.getElem_mem hlt)
   have HT := Lib.hid (take_above row k hlt)
   have e0 : row.getD (2 * k) ByteArray.empty = row[2 * k] := by rw [List.getD_eq_getElem?_getD, List.getElem?_eq_getElem]; rfl
   have e1 : row.getD (2 * k + 1) ByteArray.empty = row[2 * k + 1] := by rw [List.getD_eq_getElem?_getD, List.getElem?_eq_getElem hlt]; rfl
   rw [e0, e1] at HT
   generalize row[2 * k] = x at c0 hx HT
   generalize row[2 * k + 1] = y at c1 hy HT
   have hxz : x.size ≤ 1000000 := by omega
   have hyz : y.size ≤ 1000000 := by omega
   clear e0 e1 hx hy
   have q1 : IntKind.i64.wrap (2 * (k : Int) + 1 - 1) = 2 * (k : Int) := by rw [show 2 * (k : Int) + 1 - 1 = 2 * (k : Int) by omega]; exact IntWalk.i64_in _ (by omega)
   have qa : IntKind.i64.wrap (2 * (k : Int)) = 2 * (k : Int) := IntWalk.i64_in _ (by omega)
   have qb : 2 * k < row.length := by omega
   have q2 : (0 : Int) ≤ 2 * (k : Int) := by omega
   have q3 : (0 : Int) ≤ 2 * (k : Int) + 1 := by omega
   have q4 : (2 * (k : Int)).toNat = 2 * k := by omega
   have q5 : (2 * (k : Int) + 1).toNat = 2 * k + 1 := by omega
   have q6 : 2 * (k : Int) < row.length := by omega
   have q7 : 2 * (k : Int) + 1 < row.length := by omega
   have hg2 : g < W2.heap.size := by
    obtain ⟨g2, hA2, hl2, _, _⟩ := HSR2.out.cell (i := 2 * k) (by omega)
    injection hA2 with hA2
    injection hA2 with hA2
    omega
   have HNE : Hid (some g ≠ (Value.slice An k cn).ownBlock) := fun e => by have := (HN.out.lt g e.symm).1; omega
   go_wp2_with fail
   go_region_held3 (fun w' => w'.cell? ⟨g, 2 * k, none⟩ = some (.string x) ∧ w'.cell? ⟨g, 2 * k + 1, none⟩ = some (.string y))
    (first
     | go_keep
     | (go_split_ands
        refine ⟨?_, ?_⟩
        ·(rw [hX.cell (by simp <;> omega)]; assumption)
        ·(rw [hX.cell (by simp <;> omega)]; assumption)))
    ((first
     | (go_at_call 156; refine (node_any x y _ hxz hyz).mono ?_; rintro e w3 ⟨rfl, hX⟩; have HX3 : Hid (Below wr.heap.size wr w3) := ((Below.refl wr.heap.size wr).drew).trans hX; have HN3 : Hid (w3.ownsRow W2.heap.size 9 1 (.slice An k cn) k (((above row).take k).map Value.string)) := Ch.owns (Ch.of_below HX3.out []) HN.out (by simp); have hz3 := HX3.out.size)
     | (refine step_append_lies _ (by rfl) (.tmp 16) (.tmp 27) 66 (by rfl) W2.heap.size 9 j0 _ 1 16 Tryz.underlying66 hj Hy.out hy1 hy2 rfl (by omega) (.slice An k cn) k _ (by rfl) (HN3.out.alloc _) ⟨w3.heap.size, 0, none⟩ 1 1 [.string (nodeB x y)] (by rfl) (by rfl) (World.news_of_block (cs := #[.string (nodeB x y)]) (t := 9) (fr := (0, 0)) (heap_alloc_new w3 _)) (one_str _) (by omega) (by simp only [maxLen]; omega) (by omega) (by simp; omega) (w3.heap.size + 1) (by simp) ?_; intro gg cap w4 hown4 hgrow hat hlt4; have HG4 := Lib.hid hgrow; have hX : Below W2.heap.size (w3.alloc (.cells #[.string (nodeB x y)] 9)) w4 := (Below.refl _ _).grown hgrow (by simp; omega) (fun r e => (HN3.out.lt r e).1); have HO4 := Lib.hid hown4; clear hown4)))
   go_wp2_with fail
   go_roundw
   case rel =>
    refine ⟨k + 1, by omega, congrArg (Value.int .i64) (by omega), ?_, ((HB.out.trans (HX3.out.mono hzr)).alloc (by omega) _).grown HG4.out (by simp; omega) (fun r e => (HN3.out.lt r e).1)⟩
    show World.ownsRow _ _ _ _ _ _ _
    rw [HT.out]
    exact HO4.out
   case measure => simp [intOf]; omega
  ·have HKr : Hid (KS base w wr) := HKS2.out.trans (KS.of_below HB.out (Nat.le_refl _) |>.mono_base (by omega))
   have HOr : Hid (wr.ownsRow base 66 1 (.slice A' (vs.length + 1) c') (vs.length + 1) (vs ++ [.slice Av row.length cv])) := Ch.owns (Ch.of_below HB.out []) HO2.out (by simp)
   have HBOr : Hid (Blk wr bo 249 #[.slice A' (vs.length + 1) c']) := HBO2.out.bel HB.out
   have HBUr : Hid (Blk wr bu 289 #[upF bo bu]) := HBU2.out.bel HB.out
   have hbr : base ≤ wr.heap.size := by omega
   rcases Nat.eq_zero_or_pos h with h0 | h0
   ·subst h0
    have hr1 : row.length = 1 := HR.out
    obtain rfl : k = 0 := by omega
    have HE : Hid (rowsR 0 row = [row]) := rfl
    go_wp2_with fail
    go_end0
    refine ⟨rfl, .slice A' (vs.length + 1) c', [.slice Av row.length cv], HBOr.out, HOr.out, ?_, HBUr.out, HKr.out⟩
    exact ⟨HSRr.out, trivial⟩
   ·obtain ⟨h', rfl⟩ : ∃ h', h = h' + 1 := ⟨h - 1, by omega⟩
    have hr2 : row.length = 2 * 2 ^ h' := by rw [HR.out, Nat.pow_succ]; omega
    have hpos : 0 < 2 ^ h' := Nat.pow_pos (by omega)
    have hkr : k = 2 ^ h' := by omega
    have hal : (above row).length = 2 ^ h' := by rw [above_length]; omega
    have HSN : Hid (SR wr (.slice An k cn) (above row)) := by
     have h0' : wr.ownsRow W2.heap.size 9 1 (.slice An k cn) k (((above row).take k).map Value.string) := HN.out
     have h1 := World.ownsRow.mono (base' := 0) h0' (by omega)
     have h2 : (above row).take k = above row := List.take_of_length_le (by omega)
     rw [h2] at h1
     have h3 : (above row).length = k := by omega
     show World.ownsRow _ _ _ _ _ _ _
     rw [h3]
     exact h1
    have HAL := Lib.hid hal
    have cu : wr.cell? ⟨bu, 0, none⟩ = some (.func (.func 185) #[] #[.pointer (some ⟨bo, 0, none⟩), .pointer (some ⟨bu, 0, none⟩)]) := HBUr.out.cell 0
    have hkp : 0 < k := by omega
    have HIH : Hid _ := Lib.hid (ih (by omega) (above row) (.slice An k cn) (vs ++ [.slice Av row.length cv]) (.slice A' (vs.length + 1) c') wr)
    clear hr2 hpos hkr hal
    go_wp2_with fail
    refine (HIH.out HAL.out (by omega) (fun x hx => above_all row x hx) HSN.out HBOr.out (by rw [List.length_append]; exact HOr.out) HBUr.out hb1 hb2 hbr (by rw [List.length_append]; simp; omega)).mono ?_
    rintro e w5 ⟨rfl, o', us, h1, h2, h3, h4, h5⟩
    have HFin : Hid (w5.ownsRow base 66 1 o' (vs.length + (h' + 1 + 1)) (vs ++ (.slice Av row.length cv :: us))) := by
     show World.ownsRow _ _ _ _ _ _ _
     rw [List.length_append, List.length_singleton, List.append_assoc, List.singleton_append] at h2
     rw [show vs.length + (h' + 1 + 1) = vs.length + 1 + (h' + 1) by omega]
     exact h2
    have HSF := Lib.hid (h5.sr HSRr.out)
    have H1 := Lib.hid h1
    have H3 := Lib.hid h3
    have H4 := Lib.hid h4
    have H5 := Lib.hid (HKr.out.trans h5)
    clear h1 h2 h3 h4 h5
    go_wp2_with fail
    go_end0
    exact ⟨rfl, o', .slice Av row.length cv :: us, H1.out, HFin.out, ⟨HSF.out, H3.out⟩, H4.out, H5.out⟩
theorem up_any (base bo bu : Nat) : ∀ h, UpC base bo bu h
 | 0 => up_step base bo bu 0 (fun h => absurd h (by omega))
 | h + 1 => up_step base bo bu (h + 1) (fun _ => up_any base bo bu h)
end
section
open Go.RowKit
theorem pow_and (h : Nat) (hh : h ≤ 4) (n : Nat) (hn : n = 2 ^ h) : bits .and .i64 (n : Int) ((n : Int) - 1) = 0 := by
 subst hn
 match h, hh with
 | 0, _ => rfl
 | 1, _ => rfl
 | 2, _ => rfl
 | 3, _ => rfl
 | 4, _ => rfl
theorem pow_le16 (h : Nat) (hh : h ≤ 4) : 1 ≤ 2 ^ h ∧ 2 ^ h ≤ 16 := ⟨Nat.pow_pos (by omega), Nat.pow_le_pow_right (by omega) hh⟩
set_option maxRecDepth 100000 in
set_option maxHeartbeats 1000000 in
theorem rows_any (h : Nat) (l : List ByteArray) (v : Value) (w : World) (hl : l.length = 2 ^ h) (hh : h ≤ 4) (ha : ∀ x ∈ l, x.size = 16) (hs : SR w v l) :
  Calls Tryz.prog 146 #[v] w fun e w' => ∃ o us, e = .returned o ∧ w'.ownsRow w.heap.size 66 1 o (h + 1) us ∧ All2 (SR w') us (rowsR h l) ∧ Below w.heap.size w w' := by
 obtain ⟨A, c, rfl⟩ := hs.form
 obtain ⟨p1, p2⟩ := pow_le16 h hh
 have b1 : 1 ≤ l.length := by omega
 have b2 : l.length ≤ 16 := by omega
 have g1 : decide ((l.length : Int) < 1) = false := decide_eq_false (by omega)
 have g2 : decide ((16 : Int) < l.length) = false := decide_eq_false (by omega)
 have g3 : (bits .and .i64 (l.length : Int) ((l.length : Int) - 1) != 0) = false := by rw [pow_and h hh _ hl]; rfl
 have HL := Lib.hid hl
 have HA := Lib.hid ha
 have HS := Lib.hid hs
 clear hl ha hs p1 p2
 have hmf : ∀ (fn : Fn) (first cap : Array Value) (w : World), (Instr.makeFunc fn first cap).run Tryz.prog w = .ok (.func fn first cap) w := fun _ _ _ _ => rfl
 go_enter Tryz.func146, Tryz.ntmps146
 go_wp2_with fail
 refine (hasOdd_any _ l _ HS.out HA.out (by omega)).mono ?_
 rintro e w' ⟨rfl, rfl⟩
 go_wp2_with fail
 have HBU : Hid (Blk ((w.alloc (.cells #[.slice none 0 0] 249)).alloc (.cells #[upF w.heap.size (w.heap.size + 1)] 289)) (w.heap.size + 1) 289 #[upF w.heap.size (w.heap.size + 1)]) := by
  have := Blk.new (w.alloc (.cells #[.slice none 0 0] 249)) 289 #[upF w.heap.size (w.heap.size + 1)]
  rwa [World.size_alloc] at this
 have HB : Hid (Below w.heap.size w ((w.alloc (.cells #[.slice none 0 0] 249)).alloc (.cells #[upF w.heap.size (w.heap.size + 1)] 289))) := ((Below.refl _ _).alloc (Nat.le_refl _) _).alloc (by simp) _
 refine (up_any w.heap.size w.heap.size (w.heap.size + 1) h l _ [] (.slice none 0 0) _ HL.out hh HA.out ((KS.of_below HB.out (Nat.le_refl _)).sr HS.out) ((Blk.new _ _ _).alloc _) (World.ownsRow_nil _ _ _ _) HBU.out (Nat.le_refl _) (by omega) (by simp; omega) (by simp; omega)).mono ?_
 rintro e w5 ⟨rfl, o', us, h1, h2, h3, h4, h5⟩
 obtain ⟨Ao, co, rfl⟩ := own_form h2
 have c0 : w5.cell? ⟨w.heap.size, 0, none⟩ = some (.slice Ao ([].length + (h + 1)) co) := h1.cell 0
 simp only [List.length_nil, Nat.zero_add, List.nil_append] at h2 c0
 have H2 := Lib.hid h2
 have H3 := Lib.hid h3
 have H5 := Lib.hid (HB.out.trans h5.bel)
 clear h1 h2 h3 h4 h5
 go_wp2_with fail
 go_ret
 exact ⟨.slice Ao (h + 1) co, us, rfl, H2.out, H3.out, H5.out⟩
/-- n rows up -/
def aboveN : Nat → List ByteArray → List ByteArray
 | 0, l => l
 | n + 1, l => aboveN n (above l)
theorem rowsR_get : ∀ (h i : Nat) (l : List ByteArray), i ≤ h → (rowsR h l)[i]? = some (aboveN i l)
 | 0, 0, _, _ => rfl
 | 0, i + 1, _, h => by omega
 | _ + 1, 0, _, _ => rfl
 | h + 1, i + 1, l, hi => by rw [rowsR, List.getElem?_cons_succ, rowsR_get h i (above l) (by omega)]; rfl
theorem aboveN_length : ∀ (h i : Nat) (l : List ByteArray), i ≤ h → l.length = 2 ^ h → (aboveN i l).length = 2 ^ (h - i)
 | _, 0, _, _, hl => hl
 | 0, i + 1, _, hi, _ => by omega
 | h + 1, i + 1, l, hi, hl => by
  rw [aboveN, aboveN_length h i (above l) (by omega) (by rw [above_length, hl, Nat.pow_succ]; omega)]
  congr 1; omega
theorem topR_eq : ∀ (h : Nat) (l : List ByteArray), topR h l = (aboveN h l).getD 0 ByteArray.empty
 | 0, _ => rfl
 | h + 1, l => topR_eq h (above l)
theorem all2_get {α β : Type} {R : α → β → Prop} : ∀ {l : List α} {m : List β}, All2 R l m → ∀ {i : Nat} {b : β}, m[i]? = some b → ∃ a, l[i]? = some a ∧ R a b
 | [], [], _, i, b, h => by simp at h
 | [], _ :: _, h, _, _, _ => h.elim
 | _ :: _, [], h, _, _, _ => h.elim
 | x :: l, y :: m, ⟨h1, h2⟩, 0, b, h => by
  simp at h; subst h
  exact ⟨x, rfl, h1⟩
 | x :: l, y :: m, ⟨h1, h2⟩, i + 1, b, h => all2_get h2 (i := i) (by simpa using h)
/-- a row of the rows -/
theorem row_at {w : World} {base h : Nat} {g c : Nat} {us : List Value} {l : List ByteArray} (ho : w.ownsRow base 66 1 (.slice (some ⟨g, 0, none⟩) (h + 1) c) (h + 1) us) (h2 : All2 (SR w) us (rowsR h l)) (i : Nat) (hi : i ≤ h) :
  ∃ A' c', w.cell? ⟨g, i, none⟩ = some (.slice A' (aboveN i l).length c') ∧ SR w (.slice A' (aboveN i l).length c') (aboveN i l) := by
 obtain ⟨u, hu, hs⟩ := all2_get h2 (rowsR_get h i l hi)
 obtain ⟨A', c', rfl⟩ := hs.form
 refine ⟨A', c', ?_, hs⟩
 have := World.ownsRow.cells ho (g := g) rfl i _ hu
 rwa [addr_add0] at this
set_option maxRecDepth 100000 in
set_option maxHeartbeats 1000000 in
theorem root_any (h : Nat) (l : List ByteArray) (v : Value) (w : World) (hl : l.length = 2 ^ h) (hh : h ≤ 4) (ha : ∀ x ∈ l, x.size = 16) (hs : SR w v l) :
  Calls Tryz.prog 77 #[v] w fun e w' => e = .returned (.tuple #[.string (topB h (topR h l)), .int .i64 0]) ∧ Below w.heap.size w w' := by
 have HE := Lib.hid (topR_eq h l)
 have HLN := Lib.hid (aboveN_length h h l (Nat.le_refl _) hl)
 have hts : (topR h l).size ≤ 1000000 := by
  cases h with
  | zero =>
   show (l.getD 0 ByteArray.empty).size ≤ _
   have hl1 : l.length = 1 := hl
   rw [List.getD_eq_getElem?_getD, List.getElem?_eq_getElem (by omega)]
   have := ha _ (List.getElem_mem (show 0 < l.length by omega))
   show (l[0]).size ≤ _
   omega
  | succ h =>
   have h2 : ∀ (h : Nat) (m : List ByteArray), m.length = 2 ^ h → (∀ x ∈ m, x.size = 16) → (topR h m).size = 16 := by
    intro h
    induction h with
    | zero =>
     intro m hm hx
     show (m.getD 0 ByteArray.empty).size = _
     have hm1 : m.length = 1 := hm
     rw [List.getD_eq_getElem?_getD, List.getElem?_eq_getElem (by omega)]
     exact hx _ (List.getElem_mem (show 0 < m.length by omega))
    | succ h ih => intro m hm hx; exact ih (above m) (by rw [above_length, hm, Nat.pow_succ]; omega) (above_all m)
   rw [h2 (h + 1) l hl ha]; omega
 go_enter Tryz.func77, Tryz.ntmps77
 go_wp2_with fail
 refine (rows_any h l v _ hl hh ha hs).mono ?_
 rintro e w1 ⟨o, us, rfl, ho, h2, hb⟩
 obtain ⟨g, c, rfl, _, _⟩ := World.ownsRow.form ho (by omega)
 obtain ⟨A', c', hc1, hs1⟩ := row_at ho h2 h (Nat.le_refl _)
 rw [HLN.out, Nat.sub_self, Nat.pow_zero] at hc1 hs1
 have h1l : (aboveN h l).length = 1 := by rw [HLN.out, Nat.sub_self, Nat.pow_zero]
 obtain ⟨g2, rfl, _, _, hc2⟩ := hs1.cell (i := 0) (by omega)
 have e0 : (aboveN h l)[0] = topR h l := by rw [HE.out, List.getD_eq_getElem?_getD, List.getElem?_eq_getElem (by omega)]; rfl
 rw [e0] at hc2
 have ke := fun W => Lib.run_eql_slice_nil (P := Tryz.prog) W 249 66 (some ⟨g, 0, none⟩) (h + 1) c 0 0 Tryz.underlying249
 have HB := Lib.hid hb
 have hq1 : (0 : Int) ≤ h := by omega
 clear e0 h1l hs1 ho h2 hb hl ha hs
 generalize hx : topR h l = x at hts hc2
 have HX := Lib.hid hx
 clear hx
 go_wp2_with fail
 refine (topped_any h x _ (by omega) hts).mono ?_
 rintro e w2 ⟨rfl, hb2⟩
 go_wp2_with fail
 go_ret2
 exact ⟨by rw [HX.out]; rfl, HB.out.trans (hb2.mono HB.out.size)⟩
end
section
open Go.RowKit
theorem lt16 (n : Nat) (h : n < 16) : n = 0 ∨ n = 1 ∨ n = 2 ∨ n = 3 ∨ n = 4 ∨ n = 5 ∨ n = 6 ∨ n = 7 ∨ n = 8 ∨ n = 9 ∨ n = 10 ∨ n = 11 ∨ n = 12 ∨ n = 13 ∨ n = 14 ∨ n = 15 := by omega
theorem xor1 (n : Nat) (h : n < 16) : bits .xor .i64 (n : Int) 1 = (mate n : Nat) := by
 rcases lt16 n h with rfl | rfl | rfl | rfl | rfl | rfl | rfl | rfl | rfl | rfl | rfl | rfl | rfl | rfl | rfl | rfl <;> rfl
theorem and1 (n : Nat) (h : n < 16) : bits .and .i64 (n : Int) 1 = ((n % 2 : Nat) : Int) := by
 rcases lt16 n h with rfl | rfl | rfl | rfl | rfl | rfl | rfl | rfl | rfl | rfl | rfl | rfl | rfl | rfl | rfl | rfl <;> rfl
theorem pathR_get : ∀ (h k : Nat) (l : List ByteArray) (i : Nat), k < h → (pathR h l i)[k]? = some ((aboveN k l).getD (mate (i / 2 ^ k)) ByteArray.empty)
 | 0, _, _, _, h => by omega
 | h + 1, 0, l, i, _ => by rw [pathR, Nat.pow_zero, Nat.div_one]; rfl
 | h + 1, k + 1, l, i, hk => by
  rw [pathR, List.getElem?_cons_succ, pathR_get h k (above l) (i / 2) (by omega), Nat.div_div_eq_div_mul, ← Nat.pow_succ']; rfl
theorem path_next (h k : Nat) (l : List ByteArray) (i : Nat) (hk : k < h) : ((pathR h l i).take (k + 1)).map Value.string = ((pathR h l i).take k).map Value.string ++ [.string ((aboveN k l).getD (mate (i / 2 ^ k)) ByteArray.empty)] := by
 have hl : k < (pathR h l i).length := by rw [pathR_length]; exact hk
 have := pathR_get h k l i hk
 rw [List.getElem?_eq_getElem hl] at this
 injection this with this
 rw [List.take_succ_eq_append_getElem hl, List.map_append, this]; rfl
theorem upR_snoc : ∀ (p : List ByteArray) (x y : ByteArray) (i : Nat), upR x i (p ++ [y]) = if (i / 2 ^ p.length) % 2 = 0 then nodeB (upR x i p) y else nodeB y (upR x i p)
 | [], x, y, i => by simp [upR]
 | z :: p, x, y, i => by
  rw [List.cons_append, upR, upR_snoc p _ y (i / 2), upR, Nat.div_div_eq_div_mul, ← Nat.pow_succ', List.length_cons]
theorem half_lt {i h k : Nat} (hi : i < 2 ^ h) (hk : k < h) : i / 2 ^ k < 2 ^ (h - k) := by
 rw [Nat.div_lt_iff_lt_mul (Nat.pow_pos (by omega)), ← Nat.pow_add, Nat.sub_add_cancel (by omega)]; exact hi
theorem half_next (i k : Nat) : ((i / 2 ^ k : Nat) : Int) / 2 = ((i / 2 ^ (k + 1) : Nat) : Int) := by
 rw [Nat.pow_succ, ← Nat.div_div_eq_div_mul]; omega
set_option maxRecDepth 100000 in
set_option maxHeartbeats 400000 in
theorem path_any (h : Nat) (l : List ByteArray) (v : Value) (i : Nat) (w : World) (hl : l.length = 2 ^ h) (hh : h ≤ 4) (hi : i < 2 ^ h) (ha : ∀ x ∈ l, x.size = 16) (hs : SR w v l) :
  Calls Tryz.prog 116 #[v, .int .i64 i] w fun e w' => ∃ v', e = .returned (.tuple #[v', .int .i64 0]) ∧ SR w' v' (pathR h l i) ∧ Below w.heap.size w w' := by
 obtain ⟨Al, cl, rfl⟩ := hs.form
 have HL := Lib.hid hl
 obtain ⟨p1, p2⟩ := pow_le16 h hh
 have b2 : l.length ≤ 16 := by omega
 have b3 : i < l.length := by omega
 have g1 : decide ((i : Int) < 0) = false := decide_eq_false (by omega)
 have g2 : decide ((l.length : Int) ≤ i) = false := decide_eq_false (by omega)
 have g3 : decide (l.length ≤ i) = false := decide_eq_false (by omega)
 obtain ⟨j0, hj, hy0, hy1, hy2⟩ := info_parts Tryz.infoStr
 have Hy := Lib.hid hy0
 have HA := Lib.hid ha
 have HS := Lib.hid hs
 have HI := Lib.hid hi
 clear hy0 hl ha hs hi p1 p2
 go_enter Tryz.func116, Tryz.ntmps116
 go_wp2_with fail
 refine (rows_any h l _ _ HL.out hh HA.out HS.out).mono ?_
 rintro e w1 ⟨o, us, rfl, ho, h2, hb⟩
 obtain ⟨g, c, rfl, _, hgl⟩ := World.ownsRow.form ho (by omega)
 have HB := Lib.hid hb
 have HO := Lib.hid ho
 have H2 := Lib.hid h2
 have ke := fun W => Lib.run_eql_slice_nil (P := Tryz.prog) W 249 66 (some ⟨g, 0, none⟩) (h + 1) c 0 0 Tryz.underlying249
 have hcap : h ≤ c := by obtain ⟨_, hx | ⟨_, _, _, hv, _, _, hle, _⟩⟩ := ho
                         ·exact absurd hx.1 (by simp)
                         ·injection hv with _ _ hv; omega
 clear ho h2 hb
 go_wp2_with fail
 clear ke
 go_loopw [1, 7, 30] (fun ii o k wr => ∃ m : Nat, m ≤ h ∧ k = .int .i64 m ∧ ii = .int .i64 (i / 2 ^ m : Nat) ∧ Hid (wr.ownsRow w1.heap.size 9 1 o m (((pathR h l i).take m).map Value.string)) ∧ Hid (Below w1.heap.size w1 wr)) (fun _ _ k _ => h - (intOf k).toNat)
 case atStart => exact ⟨0, by omega, rfl, by rw [Nat.pow_zero, Nat.div_one], World.ownsRow_nil _ _ _ _, Below.refl _ _⟩
 case round =>
  obtain ⟨m, hm, rfl, rfl, HN, HBr⟩ := hrel
  obtain ⟨An, cn, rfl⟩ := own_form HN.out
  have hzr := HBr.out.size
  by_cases hmh : m < h
  ·obtain ⟨A', c', hc1, hs1⟩ := row_at HO.out H2.out m (by omega)
   have hrl := aboveN_length h m l (by omega) HL.out
   have hlt := half_lt HI.out hmh
   have hp16 : 2 ^ (h - m) ≤ 16 := (pow_le16 (h - m) (by omega)).2
   have hm2 := mate_lt (i := i / 2 ^ m) (h := h - m - 1) (by rw [show h - m - 1 + 1 = h - m by omega]; exact hlt)
   rw [show h - m - 1 + 1 = h - m by omega] at hm2
   have hx1 := xor1 (i / 2 ^ m) (by omega)
   have hhn := Lib.hid (half_next i m)
   have HT := Lib.hid (path_next h m l i hmh)
   obtain ⟨g2, rfl, hg2, _, hc2⟩ := hs1.cell (i := mate (i / 2 ^ m)) (by omega)
   have e0 : (aboveN m l).getD (mate (i / 2 ^ m)) ByteArray.empty = (aboveN m l)[mate (i / 2 ^ m)]'(by omega) := by rw [List.getD_eq_getElem?_getD, List.getElem?_eq_getElem (by omega)]; rfl
   rw [← e0] at hc2
   generalize (aboveN m l).getD (mate (i / 2 ^ m)) ByteArray.empty = y at hc2 HT
   have hc1' : wr.cell? ⟨g, m, none⟩ = some (.slice (some ⟨g2, 0, none⟩) (aboveN m l).length c') := (HBr.out.cell (p := ⟨g, m, none⟩) hgl).trans hc1
   have hc2' : wr.cell? ⟨g2, mate (i / 2 ^ m), none⟩ = some (.string y) := (HBr.out.cell (p := ⟨g2, mate (i / 2 ^ m), none⟩) hg2).trans hc2
   have hbn : mate (i / 2 ^ m) < (aboveN m l).length := by omega
   clear hrl hm2 hp16 e0 hs1 hc1 hc2
   generalize i / 2 ^ m = ik at hx1 hlt hc2' hbn hhn
   generalize mate ik = mk at hx1 hc2' hbn
   generalize (aboveN m l).length = rl at hc1' hbn
   have hbi : (mk : Int) < rl := by omega
   have hb0 : (0 : Int) ≤ mk := by omega
   go_wp2_with (first | (at_builtin; go_must (refine wpList_append_own _ rfl (.tmp 34) (.tmp 40) _ rfl w1.heap.size 9 j0 _ 1 16 Tryz.underlying66 hj Hy.out hy1 hy2 rfl (by decide) _ m _ rfl (HN.out.alloc _) ⟨wr.heap.size, 0, none⟩ 1 1 [.string y] rfl rfl (news_alloc _ _ _ _ _ rfl rfl) (one_str _) (by simp only [maxLen]; omega) (by omega) (by simp; omega) ?_); intro v' w2 hown1 hg1 _))
   obtain ⟨A3, c3, rfl⟩ := own_form hown1
   go_roundw
   case rel =>
    refine ⟨m + 1, by omega, by go_num, congrArg (Value.int .i64) hhn.out, ?_, (HBr.out.alloc hzr _).grown hg1 (by simp; omega) (fun r hr => (HN.out.lt r hr).1)⟩
    show World.ownsRow _ _ _ _ _ _ _
    rw [HT.out]
    exact hown1
   case measure => simp [intOf]; omega
  ·obtain rfl : m = h := by omega
   have HF : Hid (SR wr (.slice An m cn) (pathR m l i)) := by
    have h1 : wr.ownsRow w1.heap.size 9 1 (.slice An m cn) m (((pathR m l i).take m).map Value.string) := HN.out
    rw [List.take_of_length_le (by rw [pathR_length]; exact Nat.le_refl _)] at h1
    show World.ownsRow _ _ _ _ _ _ _
    rw [pathR_length]
    exact World.ownsRow.mono (base' := 0) h1 (by omega)
   go_wp2_with fail
   go_ret2
   exact ⟨_, rfl, HF.out, HB.out.trans (HBr.out.mono HB.out.size)⟩
def upPre (leaf : ByteArray) (i : Nat) (p : List ByteArray) (k : Nat) : ByteArray := upR leaf i (p.take k)
theorem upPre_next (leaf : ByteArray) (i : Nat) (p : List ByteArray) (k : Nat) (hk : k < p.length) : upPre leaf i p (k + 1) = if (i / 2 ^ k) % 2 = 0 then nodeB (upPre leaf i p k) p[k] else nodeB p[k] (upPre leaf i p k) := by
 unfold upPre
 rw [List.take_succ_eq_append_getElem hk, upR_snoc, List.length_take, Nat.min_eq_left (by omega)]
theorem upPre_size (leaf : ByteArray) (i : Nat) (p : List ByteArray) (hl : leaf.size = 16) : ∀ k, k ≤ p.length → (upPre leaf i p k).size = 16
 | 0, _ => hl
 | k + 1, hk => by
  rw [upPre_next leaf i p k (by omega)]
  split <;> exact tagB_size _ _
set_option maxRecDepth 100000 in
set_option maxHeartbeats 1000000 in
theorem mup_any (leaf : ByteArray) (i : Nat) (v : Value) (p : List ByteArray) (w : World) (hleaf : leaf.size = 16) (hp : p.length ≤ 4) (hi : i < 2 ^ p.length) (ha : ∀ x ∈ p, x.size = 16) (hs : SR w v p) :
  Calls Tryz.prog 95 #[.string leaf, .int .i64 i, v] w fun e w' => e = .returned (.tuple #[.string (topB p.length (upR leaf i p)), .int .i64 0]) ∧ Below w.heap.size w w' := by
 obtain ⟨Al, cl, rfl⟩ := hs.form
 obtain ⟨p1, p2⟩ := pow_le16 p.length hp
 have g1 : decide ((4 : Int) < p.length) = false := decide_eq_false (by omega)
 have g2 : decide ((i : Int) < 0) = false := decide_eq_false (by omega)
 have gw : wrap64 ((2 : Int) ^ p.length) = ((2 ^ p.length : Nat) : Int) := by
  rw [show ((2 : Int) ^ p.length) = ((2 ^ p.length : Nat) : Int) by simp]
  exact IntWalk.wrap64_in _ ⟨by omega, by omega⟩
 have g3 : decide (wrap64 ((2 : Int) ^ p.length) ≤ (i : Int)) = false := by rw [gw]; exact decide_eq_false (by omega)
 clear gw
 have HI := Lib.hid hi
 have HA := Lib.hid ha
 have HS := Lib.hid hs
 have HLF := Lib.hid hleaf
 have HP2 := Lib.hid p2
 clear hi ha hs p2 p1 hleaf
 go_enter Tryz.func95, Tryz.ntmps95
 go_wp2_with fail
 refine (odd_no leaf _ HLF.out).mono ?_
 rintro e w1 ⟨rfl, rfl⟩
 go_wp2_with fail
 refine (hasOdd_any _ p _ HS.out HA.out (by omega)).mono ?_
 rintro e w1 ⟨rfl, rfl⟩
 go_wp2_with fail
 go_loopw [1, 8, 36] (fun ii x k wr => ∃ m : Nat, m ≤ p.length ∧ k = .int .i64 m ∧ ii = .int .i64 (i / 2 ^ m : Nat) ∧ x = .string (upPre leaf i p m) ∧ Hid (Below w.heap.size w wr)) (fun _ _ k _ => p.length - (intOf k).toNat)
 case atStart => exact ⟨0, by omega, rfl, by rw [Nat.pow_zero, Nat.div_one], rfl, Below.refl _ _⟩
 case round =>
  obtain ⟨m, hm, rfl, rfl, rfl, HB⟩ := hrel
  have hz := upPre_size leaf i p HLF.out m hm
  have hzr := HB.out.size
  by_cases hmp : m < p.length
  ·have HSr := Lib.hid ((KS.of_below HB.out (Nat.le_refl _)).sr HS.out)
   obtain ⟨g, rfl, _, _, hc⟩ := HSr.out.cell hmp
   have hy := HA.out _ (List.getElem_mem hmp)
   have HN := Lib.hid (upPre_next leaf i p m hmp)
   have hlt := half_lt HI.out hmp
   have hp16 : 2 ^ (p.length - m) ≤ 16 := (pow_le16 (p.length - m) (by omega)).2
   have ha1 := and1 (i / 2 ^ m) (by omega)
   have hhn := Lib.hid (half_next i m)
   generalize p[m] = y at hc hy HN
   generalize upPre leaf i p m = x at hz HN
   have hxz : x.size ≤ 1000000 := by omega
   have hyz : y.size ≤ 1000000 := by omega
   clear hz hy
   by_cases hev : (i / 2 ^ m) % 2 = 0
   ·rw [if_pos hev] at HN
    rw [hev] at ha1
    have ha2 : (bits .and .i64 ((i / 2 ^ m : Nat) : Int) 1 == 0) = true := by rw [ha1]; rfl
    clear ha1 hev hlt hp16
    generalize i / 2 ^ m = ik at ha2 hhn
    go_wp2_with fail
    refine (node_any x y _ hxz hyz).mono ?_
    rintro e w2 ⟨rfl, hb2⟩
    go_wp2_with fail
    go_roundw
    case rel => exact ⟨m + 1, by omega, by go_num, congrArg (Value.int .i64) hhn.out, by rw [HN.out], HB.out.trans (hb2.mono hzr)⟩
    case measure => simp [intOf]; omega
   ·rw [if_neg hev] at HN
    have hev1 : (i / 2 ^ m) % 2 = 1 := by omega
    rw [hev1] at ha1
    have ha2 : (bits .and .i64 ((i / 2 ^ m : Nat) : Int) 1 == 0) = false := by rw [ha1]; rfl
    clear ha1 hev hev1 hlt hp16
    generalize i / 2 ^ m = ik at ha2 hhn
    go_wp2_with fail
    refine (node_any y x _ hyz hxz).mono ?_
    rintro e w2 ⟨rfl, hb2⟩
    go_wp2_with fail
    go_roundw
    case rel => exact ⟨m + 1, by omega, by go_num, congrArg (Value.int .i64) hhn.out, by rw [HN.out], HB.out.trans (hb2.mono hzr)⟩
    case measure => simp [intOf]; omega
  ·obtain rfl : m = p.length := by omega
   have HF : Hid (upPre leaf i p p.length = upR leaf i p) := by show _ = _; rw [upPre, List.take_length]
   have hxz : (upPre leaf i p p.length).size ≤ 1000000 := by omega
   clear hz
   generalize upPre leaf i p p.length = x at HF hxz
   go_wp2_with fail
   refine (topped_any p.length x _ (by omega) hxz).mono ?_
   rintro e w2 ⟨rfl, hb2⟩
   go_wp2_with fail
   go_ret2
   exact ⟨by rw [← HF.out]; rfl, HB.out.trans (hb2.mono hzr)⟩
end
section
open Go.RowKit
def keyC (cb : Nat) (seed : ByteArray) (vl : Value) (root : ByteArray) : Array Value := #[.pointer (some ⟨cb, 0, none⟩), .string seed, vl, .string root]
/-- a key in memory: its block, its counter's -/
def KeyAt (w : World) (kb cb : Nat) (seed : ByteArray) (h next : Nat) : Prop :=
 ∃ vl, Blk w kb 68 (keyC cb seed vl (rootB seed h)) ∧ Blk w cb 160 #[.int .i64 next, .int .i64 (2 ^ h : Nat)] ∧ SR w vl (leavesB seed (2 ^ h))
theorem leavesB_next (seed : ByteArray) (m : Nat) : (leavesB seed (m + 1)).map Value.string = (leavesB seed m).map Value.string ++ [.string (pubB (seedB seed m))] := by
 simp [leavesB, List.range_succ]
theorem seedB_size (seed : ByteArray) (i : Nat) : (seedB seed i).size = 16 := tagB_size _ _
set_option maxRecDepth 100000 in
set_option maxHeartbeats 2000000 in
theorem mnew_any (seed : ByteArray) (h : Nat) (w : World) (hh : h ≤ 4) (hs : seed.size ≤ 1000000) :
  Calls Tryz.prog 20 #[.string seed, .int .i64 h] w fun e w' => ∃ kb cb, e = .returned (.tuple #[.pointer (some ⟨kb, 0, none⟩), .int .i64 0]) ∧ w.heap.size ≤ kb ∧ w.heap.size ≤ cb ∧ KeyAt w' kb cb seed h 0 ∧ Below w.heap.size w w' := by
 obtain ⟨p1, p2⟩ := pow_le16 h hh
 obtain ⟨N, hN⟩ : ∃ N, N = 2 ^ h := ⟨_, rfl⟩
 have gw : wrap64 ((2 : Int) ^ h) = (N : Int) := by
  rw [show ((2 : Int) ^ h) = ((2 ^ h : Nat) : Int) by simp, hN]
  exact IntWalk.wrap64_in _ ⟨by omega, by omega⟩
 have hN1 : 1 ≤ N := by omega
 have hN2 : N ≤ 16 := by omega
 have g1 : decide ((4 : Int) < h) = false := decide_eq_false (by omega)
 have g2 : decide ((h : Int) < 0) = false := decide_eq_false (by omega)
 have HN := Lib.hid hN
 clear hN p1 p2
 obtain ⟨j0, hj, hy0, hy1, hy2⟩ := info_parts Tryz.infoStr
 have Hy := Lib.hid hy0
 clear hy0
 go_enter Tryz.func20, Tryz.ntmps20
 go_wp2_with fail
 have HK0 : Hid (Blk ((w.alloc (.cells #[.int .i64 0, .int .i64 N] 160)).alloc (.cells (keyC w.heap.size seed (.slice none 0 0) ⟨#[]⟩) 68)) (w.heap.size + 1) 68 (keyC w.heap.size seed (.slice none 0 0) ⟨#[]⟩)) := by
  have := Blk.new (w.alloc (.cells #[.int .i64 0, .int .i64 N] 160)) 68 (keyC w.heap.size seed (.slice none 0 0) ⟨#[]⟩)
  rwa [World.size_alloc] at this
 have HC0 : Hid (Blk ((w.alloc (.cells #[.int .i64 0, .int .i64 N] 160)).alloc (.cells (keyC w.heap.size seed (.slice none 0 0) ⟨#[]⟩) 68)) w.heap.size 160 #[.int .i64 0, .int .i64 N]) := (Blk.new _ _ _).alloc _
 have HB0 : Hid (Below w.heap.size w ((w.alloc (.cells #[.int .i64 0, .int .i64 N] 160)).alloc (.cells (keyC w.heap.size seed (.slice none 0 0) ⟨#[]⟩) 68))) := ((Below.refl _ _).alloc (Nat.le_refl _) _).alloc (by simp) _
 have hz0 : ((w.alloc (.cells #[.int .i64 0, .int .i64 N] 160)).alloc (.cells (keyC w.heap.size seed (.slice none 0 0) ⟨#[]⟩) 68)).heap.size = w.heap.size + 2 := by simp
 obtain ⟨W0, hW0⟩ : ∃ W0, (w.alloc (.cells #[.int .i64 0, .int .i64 N] 160)).alloc (.cells (keyC w.heap.size seed (.slice none 0 0) ⟨#[]⟩) 68) = W0 := ⟨_, rfl⟩
 rw [hW0] at HK0 HC0 HB0 hz0
 change Code.wp _ _ _ _ ((w.alloc (.cells #[.int .i64 0, .int .i64 N] 160)).alloc (.cells (keyC w.heap.size seed (.slice none 0 0) ⟨#[]⟩) 68))
 rw [hW0]
 clear hW0 gw
 have hz0' : w.heap.size + 2 ≤ W0.heap.size := by omega
 clear hz0
 go_loopw [28] (fun i wr => ∃ (m : Nat) (vl : Value), m ≤ N ∧ i = .int .i64 m ∧ Hid (Blk wr (w.heap.size + 1) 68 (keyC w.heap.size seed vl ⟨#[]⟩)) ∧ Hid (Blk wr w.heap.size 160 #[.int .i64 0, .int .i64 N]) ∧ Hid (wr.ownsRow W0.heap.size 9 1 vl m ((leavesB seed m).map Value.string)) ∧ Hid (Below w.heap.size w wr) ∧ W0.heap.size ≤ wr.heap.size) (fun i _ => N - (intOf i).toNat)
 case atStart => exact ⟨0, .slice none 0 0, by omega, rfl, HK0, HC0, World.ownsRow_nil _ _ _ _, HB0, Nat.le_refl _⟩
 case round =>
  obtain ⟨m, vl, hm, rfl, HK, HC, HO, HB, hzr⟩ := hrel
  obtain ⟨An, cn, rfl⟩ := own_form HO.out
  have ck : wr.cell? ⟨w.heap.size + 1, 2, none⟩ = some (.slice An m cn) := HK.out.cell 2
  have fk : wr.frozen? ⟨w.heap.size + 1, 2, none⟩ = false := HK.out.frozen 2
  by_cases hmN : m < N
  ·have hm256 : m < 256 := by omega
   have HSZ : Hid ((seedB seed m).size ≤ 1000000) := by show _ ≤ _; rw [seedB_size]; omega
   have HT := Lib.hid (leavesB_next seed m)
   have hkl : w.heap.size + 1 < wr.heap.size := by omega
   have tok1 : True := trivial
   go_wp2_with fail
   go_region_law (first
    | (go_simp; go_at_call 76; refine (seeded_any seed m _ hm256 hs).mono ?_; rintro e wa ⟨rfl, hba⟩; have HBA : Hid (Below wr.heap.size wr wa) := ((Below.refl wr.heap.size wr).drew).trans hba; have ca : wa.cell? ⟨w.heap.size + 1, 2, none⟩ = some (.slice An m cn) := (HBA.out.cell (p := ⟨w.heap.size + 1, 2, none⟩) hkl).trans ck; clear hba)
    | (go_simp; go_at_call 75; refine (public_any (seedB seed m) _ HSZ.out).mono ?_; rintro e wb ⟨rfl, hbb⟩; have HBB : Hid (Below wr.heap.size wr wb) := HBA.out.trans (hbb.mono HBA.out.size); have cb' : wb.cell? ⟨w.heap.size + 1, 2, none⟩ = some (.slice An m cn) := (HBB.out.cell (p := ⟨w.heap.size + 1, 2, none⟩) hkl).trans ck; have hzb := HBB.out.size; have cba : (wb.alloc (.cells #[.string (pubB (seedB seed m))] 9)).cell? ⟨w.heap.size + 1, 2, none⟩ = some (.slice An m cn) := (World.cell?_alloc_lt wb _ ⟨w.heap.size + 1, 2, none⟩ (Nat.lt_of_lt_of_le hkl hzb)).trans cb'; have HOB : Hid (wb.ownsRow W0.heap.size 9 1 (.slice An m cn) m ((leavesB seed m).map Value.string)) := Ch.owns (Ch.of_below HBB.out []) HO.out (by simp); clear hbb)
    | (refine step_append_lies _ (by rfl) (.tmp 35) (.tmp 40) 66 (by rfl) W0.heap.size 9 j0 _ 1 16 Tryz.underlying66 hj Hy.out hy1 hy2 rfl (by omega) (.slice An m cn) m _ (by rfl) (HOB.out.alloc _) ⟨wb.heap.size, 0, none⟩ 1 1 [.string (pubB (seedB seed m))] (by rfl) (by rfl) (World.news_of_block (cs := #[.string (pubB (seedB seed m))]) (t := 9) (fr := (0, 0)) (heap_alloc_new wb _)) (one_str _) (by omega) (by simp only [maxLen]; omega) (by omega) (by simp; omega) (wb.heap.size + 1) (by simp) ?_; intro gg cap w4 hown4 hgrow hat hlt4; have HG4 := Lib.hid hgrow; have HO4 := Lib.hid hown4; have hne4 : some (w.heap.size + 1) ≠ (Value.slice An m cn).ownBlock := (fun e => by have := (HOB.out.lt _ e.symm).1; omega); have hK4 : Blk w4 (w.heap.size + 1) 68 (keyC w.heap.size seed (.slice An m cn) ⟨#[]⟩) := ((HK.out.bel HBB.out).alloc _).grown hgrow hne4; have c4 : w4.cell? ⟨w.heap.size + 1, 2, none⟩ = some (.slice An m cn) := hK4.cell 2; have f4 : w4.frozen? ⟨w.heap.size + 1, 2, none⟩ = false := hK4.frozen 2; have HK4 := Lib.hid hK4; clear hown4 hgrow hK4))
   all_goals
    go_wp2_with fail
    go_roundw
    case rel =>
     have hzw := HB.out.size
     have hnC : some w.heap.size ≠ (Value.slice An m cn).ownBlock := fun e => by have := (HOB.out.lt _ e.symm).1; omega
     refine ⟨m + 1, .slice (some ⟨gg, 0, none⟩) (m + 1) cap, by omega, by go_num, HK4.out.set_ 2 _, (((HC.out.bel HBB.out).alloc _).grown HG4.out hnC).far (by simp) _, ?_, (((HB.out.trans (HBB.out.mono hzw)).alloc (by omega) _).grown HG4.out (by simp; omega) (fun r e => by have := (HOB.out.lt r e).1; omega)).setCell (by simp) _, by have := HG4.out.size; simp at this ⊢; omega⟩
     show World.ownsRow _ _ _ _ _ _ _
     rw [HT.out]
     exact Ch.owns (S := [w.heap.size + 1]) (Ch.set_ (by simp) _ _ _) HO4.out (fun b e hm' => by simp at hm'; subst hm'; exact HK4.out.ne_own HO4.out (by decide) e.symm)
    case measure => simp [intOf]; omega
  ·obtain rfl : m = N := by omega
   have HSR : Hid (SR wr (.slice An m cn) (leavesB seed m)) := by
    show World.ownsRow _ _ _ _ _ _ _
    rw [leavesB_length]
    exact World.ownsRow.mono (base' := 0) (show wr.ownsRow W0.heap.size 9 1 (.slice An m cn) m ((leavesB seed m).map Value.string) from HO.out) (by omega)
   have HRB : Hid (topB h (topR h (leavesB seed m)) = rootB seed h) := by show _ = _; rw [rootB, HN.out]
   have hkl : w.heap.size + 1 < wr.heap.size := by omega
   go_wp2_with fail
   refine (root_any h (leavesB seed m) _ _ (by rw [leavesB_length, HN.out]) hh (leavesB_all seed m) HSR.out).mono ?_
   rintro e w5 ⟨rfl, hb5⟩
   have HK5 : Hid (Blk w5 (w.heap.size + 1) 68 (keyC w.heap.size seed (.slice An m cn) ⟨#[]⟩)) := HK.out.bel hb5
   have c3 : w5.cell? ⟨w.heap.size + 1, 3, none⟩ = some (.string ⟨#[]⟩) := HK5.out.cell 3
   have f3 : w5.frozen? ⟨w.heap.size + 1, 3, none⟩ = false := HK5.out.frozen 3
   have HC5 := Lib.hid (HC.out.bel hb5)
   have HS5 := Lib.hid ((KS.of_below hb5 (Nat.le_refl _)).sr HSR.out)
   have HB5 := Lib.hid (HB.out.trans (hb5.mono HB.out.size))
   clear hb5
   generalize topB h (topR h (leavesB seed m)) = rt at HRB ⊢
   go_wp2_with fail
   go_ret2
   refine ⟨w.heap.size + 1, w.heap.size, rfl, by omega, Nat.le_refl _, ⟨.slice An m cn, ?_, ?_, ?_⟩, HB5.out.setCell (by simp) _⟩
   ·rw [← HRB.out]
    exact HK5.out.set_ 3 _
   ·rw [← HN.out]
    exact HC5.out.far (by simp) _
   ·rw [← HN.out]
    refine (KS.of_ch (B := 0) (S := [w.heap.size + 1]) (Ch.set_ (by simp) _ _ _) (Nat.zero_le _) (fun g hg => ?_)).sr HS5.out
    simp at hg; subst hg
    refine ⟨Nat.zero_le _, fun cs fr hh' => ?_⟩
    have := HK5.out
    unfold Blk at this
    rw [this] at hh'
    injection hh' with hh'
    injection hh' with _ hh'
    exact absurd hh' (by decide)
end
section
open Go.RowKit
theorem KeyAt.ch {S : List Nat} {w w' : World} {kb cb : Nat} {seed : ByteArray} {h next : Nat} (hk : KeyAt w kb cb seed h next) (hc : Ch S w w') (h1 : kb ∉ S) (h2 : cb ∉ S) (h3 : ∀ g ∈ S, ∀ cs fr, w.heap[g]? ≠ some (Obj.cells cs 9 fr)) : KeyAt w' kb cb seed h next := by
 obtain ⟨vl, k1, k2, k3⟩ := hk
 exact ⟨vl, k1.ch hc h1, k2.ch hc h2, (KS.of_ch (B := 0) hc (Nat.zero_le _) (fun g hg => ⟨Nat.zero_le _, h3 g hg⟩)).sr k3⟩
theorem KeyAt.bel {w w' : World} {kb cb : Nat} {seed : ByteArray} {h next : Nat} (hk : KeyAt w kb cb seed h next) (hb : Below w.heap.size w w') : KeyAt w' kb cb seed h next :=
 hk.ch (Ch.of_below hb []) (by simp) (by simp) (by simp)
theorem kroot_any (kb cb : Nat) (seed : ByteArray) (h next : Nat) (w : World) (hk : KeyAt w kb cb seed h next) :
  Calls Tryz.prog 27 #[.pointer (some ⟨kb, 0, none⟩)] w fun e w' => e = .returned (.string (rootB seed h)) ∧ w = w' := by
 obtain ⟨vl, k1, k2, k3⟩ := hk
 have c3 : w.cell? ⟨kb, 3, none⟩ = some (.string (rootB seed h)) := k1.cell 3
 clear k1 k2 k3
 go_enter Tryz.func27, Tryz.ntmps27
 go_wp2
 go_ret
 exact ⟨rfl, rfl⟩
set_option maxRecDepth 100000 in
set_option maxHeartbeats 1000000 in
theorem ksign_used (kb cb : Nat) (seed msg : ByteArray) (h i : Nat) (w : World) (hh : h ≤ 4) (hi : 2 ^ h ≤ i) (hi2 : i ≤ 1000) (hk : KeyAt w kb cb seed h i) :
  Calls Tryz.prog 41 #[.pointer (some ⟨kb, 0, none⟩), .string msg] w fun e w' => e = .returned (.tuple #[.string ByteArray.empty, .int .i64 14]) ∧ w = w' := by
 obtain ⟨vl, k1, k2, k3⟩ := hk
 obtain ⟨p1, p2⟩ := pow_le16 h hh
 have c0 : w.cell? ⟨cb, 0, none⟩ = some (.int .i64 i) := k2.cell 0
 have c1 : w.cell? ⟨cb, 1, none⟩ = some (.int .i64 (2 ^ h : Nat)) := k2.cell 1
 have d0 : w.cell? ⟨kb, 0, none⟩ = some (.pointer (some ⟨cb, 0, none⟩)) := k1.cell 0
 clear k1 k2 k3
 generalize 2 ^ h = N at c1 p1 p2 hi
 have g1 : decide ((N : Int) ≤ i) = true := decide_eq_true (by omega)
 go_enter Tryz.func41, Tryz.ntmps41
 go_wp2
 go_ret2
 exact ⟨rfl, rfl⟩
set_option maxRecDepth 100000 in
set_option maxHeartbeats 2000000 in
theorem ksign_ok (kb cb : Nat) (seed msg : ByteArray) (h i : Nat) (w : World) (hh : h ≤ 4) (hi : i < 2 ^ h) (hs : seed.size ≤ 1000000) (hm : msg.size ≤ 900000) (hk : KeyAt w kb cb seed h i) :
  Calls Tryz.prog 41 #[.pointer (some ⟨kb, 0, none⟩), .string msg] w fun e w' => e = .returned (.tuple #[.string (signB seed h i msg), .int .i64 0]) ∧ KeyAt w' kb cb seed h (i + 1) ∧ Ch [cb] w w' := by
 obtain ⟨vl, k1, k2, k3⟩ := hk
 obtain ⟨p1, p2⟩ := pow_le16 h hh
 have c0 : w.cell? ⟨cb, 0, none⟩ = some (.int .i64 i) := k2.cell 0
 have f0 : w.frozen? ⟨cb, 0, none⟩ = false := k2.frozen 0
 have c1 : w.cell? ⟨cb, 1, none⟩ = some (.int .i64 (2 ^ h : Nat)) := k2.cell 1
 have d0 : w.cell? ⟨kb, 0, none⟩ = some (.pointer (some ⟨cb, 0, none⟩)) := k1.cell 0
 have hne : kb ≠ cb := k1.ne_ k2 (by decide)
 have HK1 := Lib.hid k1
 have HK2 := Lib.hid k2
 have HK3 := Lib.hid k3
 have HI := Lib.hid hi
 have hi16 : i < 16 := by omega
 have HM : Hid ((aboutB (rootB seed h) i msg).size ≤ 1000000) := by show _ ≤ _; rw [aboutB, ByteArray.size_append, ByteArray.size_append, rootB_size, oneB_size]; omega
 have hrz : (rootB seed h).size ≤ 1000000 := by rw [rootB_size]; omega
 have HSD : Hid ((seedB seed i).size ≤ 1000000) := by show _ ≤ _; rw [seedB_size]; omega
 generalize hN : 2 ^ h = N at c1 p1 p2 hi
 have HN := Lib.hid hN
 have g1 : decide ((N : Int) ≤ i) = false := decide_eq_false (by omega)
 clear hN k1 k2 k3
 go_enter Tryz.func41, Tryz.ntmps41
 go_wp2_with fail
 have HW1 : Hid (Ch [cb] w (w.setCell ⟨cb, 0, none⟩ (.int .i64 ((i : Int) + 1)))) := Ch.set_ (by simp) _ _ _
 have HK1a : Hid (Blk (w.setCell ⟨cb, 0, none⟩ (.int .i64 ((i : Int) + 1))) kb 68 (keyC cb seed vl (rootB seed h))) := HK1.out.far hne _
 have HK2a : Hid (Blk (w.setCell ⟨cb, 0, none⟩ (.int .i64 ((i : Int) + 1))) cb 160 #[.int .i64 ((i : Int) + 1), .int .i64 N]) := by rw [← HN.out]; exact HK2.out.set_ 0 _
 have HKS : Hid (KS 0 w (w.setCell ⟨cb, 0, none⟩ (.int .i64 ((i : Int) + 1)))) := KS.of_ch (B := 0) HW1.out (Nat.zero_le _) (fun g hg => by
  simp at hg; subst hg
  refine ⟨Nat.zero_le _, fun cs fr hh' => ?_⟩
  have := HK2.out
  unfold Blk at this
  rw [this] at hh'
  injection hh' with hh'
  injection hh' with _ hh'
  exact absurd hh' (by decide))
 generalize w.setCell ⟨cb, 0, none⟩ (.int .i64 ((i : Int) + 1)) = W1 at HW1 HK1a HK2a HKS ⊢
 have HS1 := Lib.hid (HKS.out.sr HK3.out)
 have e1 : W1.cell? ⟨kb, 1, none⟩ = some (.string seed) := HK1a.out.cell 1
 have e2 : W1.cell? ⟨kb, 2, none⟩ = some vl := HK1a.out.cell 2
 have e3 : W1.cell? ⟨kb, 3, none⟩ = some (.string (rootB seed h)) := HK1a.out.cell 3
 have hkl := HK1a.out.lt
 have z1 : (oneB i).size ≤ 1 := by rw [oneB_size]; omega
 have z2 : (sigB (seedB seed i) (aboutB (rootB seed h) i msg)).size ≤ 288 := by rw [sigB_size]; omega
 have zz : ¬ 9223372036854775807 < (oneB i).size + (sigB (seedB seed i) (aboutB (rootB seed h) i msg)).size := by omega
 go_region_held3 (fun w' => w'.cell? ⟨kb, 1, none⟩ = some (.string seed) ∧ w'.cell? ⟨kb, 3, none⟩ = some (.string (rootB seed h)))
  (first
   | go_keep
   | (go_split_ands
      refine ⟨?_, ?_⟩
      ·(rw [hX.cell hkl]; assumption)
      ·(rw [hX.cell hkl]; assumption)))
  ((first
   | (go_at_call 114; refine (one_any i _ (by omega)).mono ?_; rintro e wa ⟨rfl, hb⟩; have hX : Below W1.heap.size W1 wa := ((Below.refl W1.heap.size W1).drew).trans hb; have HA := Lib.hid hX; have hza := hX.size)
   | (go_at_call 76; refine (seeded_any seed i _ (by omega) hs).mono ?_; rintro e wb ⟨rfl, hb⟩; have hX : Below W1.heap.size W1 wb := HA.out.trans (hb.mono hza); have HB := Lib.hid hX; have hzb := hX.size)
   | (go_at_call 94; refine (about_any (rootB seed h) msg i _ (by omega) hrz (by omega)).mono ?_; rintro e wc ⟨rfl, hb⟩; have hX : Below W1.heap.size W1 wc := HB.out.trans (hb.mono hzb); have HC := Lib.hid hX; have hzc := hX.size)
   | (go_at_call 115; refine (wsign_any (seedB seed i) (aboutB (rootB seed h) i msg) _ HSD.out HM.out).mono ?_; rintro e wd ⟨rfl, hb⟩; have hX : Below W1.heap.size W1 wd := HC.out.trans (hb.mono hzc); have HD := Lib.hid hX; have hzd := hX.size)))
 have e2d : wd.cell? ⟨kb, 2, none⟩ = some vl := (HD.out.cell (p := ⟨kb, 2, none⟩) hkl).trans e2
 have HSd := Lib.hid ((KS.of_below HD.out (Nat.le_refl _)).sr HS1.out)
 have HKd := Lib.hid (HK1a.out.bel HD.out)
 have HCd := Lib.hid (HK2a.out.bel HD.out)
 have HBd : Hid (sigB (seedB seed i) (aboutB (rootB seed h) i msg) = sigB (seedB seed i) (aboutB (rootB seed h) i msg)) := rfl
 clear e1 e2 e3 c0 f0 c1 d0
 have zb : (oneB i ++ sigB (seedB seed i) (aboutB (rootB seed h) i msg)).size = 289 := by rw [ByteArray.size_append, oneB_size, sigB_size]
 have HF : Hid (signB seed h i msg = oneB i ++ sigB (seedB seed i) (aboutB (rootB seed h) i msg) ++ joinB (pathR h (leavesB seed (2 ^ h)) i)) := rfl
 generalize oneB i ++ sigB (seedB seed i) (aboutB (rootB seed h) i msg) = b0 at zb HF ⊢
 have HZB := Lib.hid zb
 clear zb zz z1 z2
 have hPA := pathR_all h (leavesB seed (2 ^ h)) i (leavesB_length _ _) HI.out (leavesB_all _ _)
 have HPL := Lib.hid (pathR_length h (leavesB seed (2 ^ h)) i)
 go_wp2_with fail
 refine (path_any h (leavesB seed (2 ^ h)) vl i _ (leavesB_length _ _) hh HI.out (leavesB_all _ _) HSd.out).mono ?_
 rintro e w6 ⟨v', rfl, hs6, hb6⟩
 obtain ⟨A6, c6, rfl⟩ := hs6.form
 have HS6 := Lib.hid hs6
 have HK6 := Lib.hid (HKd.out.bel hb6)
 have HC6 := Lib.hid (HCd.out.bel hb6)
 have HL6 := Lib.hid ((KS.of_below hb6 (Nat.le_refl _)).sr HSd.out)
 have HW6 := Lib.hid ((HW1.out.trans (Ch.of_below HD.out [cb])).trans (Ch.of_below hb6 [cb]))
 have HPA := Lib.hid hPA
 clear hs6 hb6 hPA
 generalize pathR h (leavesB seed (2 ^ h)) i = pl at HF HPL HS6 HPA ⊢
 have hpl : pl.length ≤ 4 := by rw [HPL.out]; exact hh
 go_wp2_with fail
 go_loop [7, 66] (fun s j => ∃ k : Nat, k ≤ pl.length ∧ j = .int .i64 k ∧ s = .string (b0 ++ joinB (pl.take k))) (fun _ j => pl.length - (intOf j).toNat)
 case atStart => exact ⟨0, by omega, rfl, by rw [List.take_zero, joinB, ba_append_empty]⟩
 case round =>
  obtain ⟨k, hk, rfl, rfl⟩ := hrel
  by_cases hkl2 : k < pl.length
  ·obtain ⟨g, rfl, _, _, hc⟩ := HS6.out.cell hkl2
   have hx := HPA.out _ (List.getElem_mem hkl2)
   have hsz : (b0 ++ joinB (pl.take k)).size ≤ 1000 := by
    rw [ByteArray.size_append, HZB.out, joinB_size _ (fun x hx => HPA.out x (List.mem_of_mem_take hx)), List.length_take]; omega
   have HT : Hid (b0 ++ joinB (pl.take (k + 1)) = b0 ++ joinB (pl.take k) ++ pl[k]) := by
    show _ = _
    rw [List.take_succ_eq_append_getElem hkl2, joinB_snoc, ba_append_assoc]
   generalize pl[k] = x at hc hx HT
   have hxz : x.size ≤ 1000 := by omega
   clear hx
   generalize b0 ++ joinB (pl.take k) = s at hsz HT
   go_wp2_with fail
   go_round
   case rel => exact ⟨k + 1, by omega, by go_num, by rw [HT.out]⟩
   case measure => simp [intOf]; omega
  ·obtain rfl : k = pl.length := by omega
   rw [List.take_length]
   go_wp2_with fail
   go_ret2
   refine ⟨by rw [HF.out]; rfl, ⟨vl, HK6.out, ?_, HL6.out⟩, HW6.out⟩
   rw [HN.out]
   exact HC6.out
end
section
open Go.RowKit
theorem toList_beq (s t : ByteArray) : (s.toList == t.toList) = decide (s = t) := by
 rw [Bool.eq_iff_iff, beq_iff_eq, decide_eq_true_eq]
 constructor
 ·intro h
  exact ba_ext' (by rw [← Lib.toList_data, ← Lib.toList_data, h])
 ·rintro rfl; rfl
theorem atB_at (s : ByteArray) (h : 0 < s.size) : (s[0].toNat : Int) = (atB s 0 : Int) := by
 unfold atB
 rw [List.getD_eq_getElem?_getD, List.getElem?_eq_getElem (by simpa using h)]
 rfl
theorem atB_lt (s : ByteArray) (i : Nat) : atB s i < 256 := UInt8.toNat_lt _
set_option maxRecDepth 100000 in
set_option maxHeartbeats 1000000 in
theorem leaf_a (sig : ByteArray) (w : World) (h : sig.size < 289) :
  Calls Tryz.prog 91 #[.string sig] w fun e w' => e = .returned (.tuple #[.int .i64 0, .int .i64 4]) ∧ ∃ n, w' = w.drewN n := by
 have g1 : decide ((sig.size : Int) - 288 - 1 < 0) = true := decide_eq_true (by omega)
 go_enter Tryz.func91, Tryz.ntmps91
 go_wp2_with fail
 go_quiet (fail)
 go_wp2_with fail
 go_ret2
 exact ⟨rfl, _, rfl⟩
set_option maxRecDepth 100000 in
set_option maxHeartbeats 1000000 in
theorem leaf_e (sig : ByteArray) (w : World) (n : Nat) (h : sig.size = 289 + 16 * n) (hn : n ≤ 4) (hb : atB sig 0 < 2 ^ n) :
  Calls Tryz.prog 91 #[.string sig] w fun e w' => e = .returned (.tuple #[.int .i64 (atB sig 0), .int .i64 0]) ∧ ∃ n, w' = w.drewN n := by
 have hz : sig.size ≤ 1000 := by omega
 have hz0 : 0 < sig.size := by omega
 have g1 : decide ((sig.size : Int) - 288 - 1 < 0) = false := decide_eq_false (by omega)
 have g2 : decide (0 < ((sig.size : Int) - 288 - 1) % 16) = false := decide_eq_false (by omega)
 have g3 : decide (64 < (sig.size : Int) - 288 - 1) = false := decide_eq_false (by omega)
 have h16 : ((sig.size : Int) - 288 - 1) / 16 = n := by omega
 have hge : 0 ≤ (sig.size : Int) - 288 - 1 := by omega
 have e1 : wrap64 ((2 : Int) ^ n) = ((2 ^ n : Nat) : Int) := by
  rw [show ((2 : Int) ^ n) = ((2 ^ n : Nat) : Int) by simp]
  obtain ⟨q1, q2⟩ := pow_le16 n hn
  exact IntWalk.wrap64_in _ ⟨by omega, by omega⟩
 have e2 : wrap64 (sig[0].toNat : Int) = atB sig 0 := by
  rw [atB_at sig hz0]
  have := atB_lt sig 0
  exact IntWalk.wrap64_in _ ⟨by omega, by omega⟩
 have g4 : decide (wrap64 ((2 : Int) ^ n) ≤ wrap64 (sig[0].toNat : Int)) = false := by rw [e1, e2]; exact decide_eq_false (by omega)
 have E2 := Lib.hid e2
 clear h e1 e2 hb
 go_enter Tryz.func91, Tryz.ntmps91
 go_wp2_with fail
 go_quiet (fail)
 go_wp2_with fail
 go_ret2
 exact ⟨ret_ii E2.out rfl, _, rfl⟩
set_option maxRecDepth 100000 in
set_option maxHeartbeats 1000000 in
theorem leaf_b (sig : ByteArray) (w : World) (hz : sig.size ≤ 1000000) (h1 : 289 ≤ sig.size) (h : (sig.size - 289) % 16 ≠ 0) :
  Calls Tryz.prog 91 #[.string sig] w fun e w' => e = .returned (.tuple #[.int .i64 0, .int .i64 4]) ∧ ∃ n, w' = w.drewN n := by
 have g1 : decide ((sig.size : Int) - 288 - 1 < 0) = false := decide_eq_false (by omega)
 have g2 : decide (0 < ((sig.size : Int) - 288 - 1) % 16) = true := decide_eq_true (by omega)
 have hge : 0 ≤ (sig.size : Int) - 288 - 1 := by omega
 clear h
 go_enter Tryz.func91, Tryz.ntmps91
 go_wp2_with fail
 go_quiet (fail)
 go_wp2_with fail
 go_ret2
 exact ⟨rfl, _, rfl⟩
set_option maxRecDepth 100000 in
set_option maxHeartbeats 1000000 in
theorem leaf_c (sig : ByteArray) (w : World) (hz : sig.size ≤ 1000000) (h1 : 289 ≤ sig.size) (h : (sig.size - 289) % 16 = 0) (h2 : 64 < sig.size - 289) :
  Calls Tryz.prog 91 #[.string sig] w fun e w' => e = .returned (.tuple #[.int .i64 0, .int .i64 4]) ∧ ∃ n, w' = w.drewN n := by
 have g1 : decide ((sig.size : Int) - 288 - 1 < 0) = false := decide_eq_false (by omega)
 have g2 : decide (0 < ((sig.size : Int) - 288 - 1) % 16) = false := decide_eq_false (by omega)
 have g3 : decide (64 < (sig.size : Int) - 288 - 1) = true := decide_eq_true (by omega)
 have hge : 0 ≤ (sig.size : Int) - 288 - 1 := by omega
 clear h
 go_enter Tryz.func91, Tryz.ntmps91
 go_wp2_with fail
 go_quiet (fail)
 go_wp2_with fail
 go_ret2
 exact ⟨rfl, _, rfl⟩
set_option maxRecDepth 100000 in
set_option maxHeartbeats 1000000 in
theorem leaf_d (sig : ByteArray) (w : World) (n : Nat) (h : sig.size = 289 + 16 * n) (hn : n ≤ 4) (hb : ¬ atB sig 0 < 2 ^ n) :
  Calls Tryz.prog 91 #[.string sig] w fun e w' => e = .returned (.tuple #[.int .i64 0, .int .i64 4]) ∧ ∃ n, w' = w.drewN n := by
 have hz : sig.size ≤ 1000 := by omega
 have hz0 : 0 < sig.size := by omega
 have g1 : decide ((sig.size : Int) - 288 - 1 < 0) = false := decide_eq_false (by omega)
 have g2 : decide (0 < ((sig.size : Int) - 288 - 1) % 16) = false := decide_eq_false (by omega)
 have g3 : decide (64 < (sig.size : Int) - 288 - 1) = false := decide_eq_false (by omega)
 have h16 : ((sig.size : Int) - 288 - 1) / 16 = n := by omega
 have hge : 0 ≤ (sig.size : Int) - 288 - 1 := by omega
 have e1 : wrap64 ((2 : Int) ^ n) = ((2 ^ n : Nat) : Int) := by
  rw [show ((2 : Int) ^ n) = ((2 ^ n : Nat) : Int) by simp]
  obtain ⟨q1, q2⟩ := pow_le16 n hn
  exact IntWalk.wrap64_in _ ⟨by omega, by omega⟩
 have e2 : wrap64 (sig[0].toNat : Int) = atB sig 0 := by
  rw [atB_at sig hz0]
  have := atB_lt sig 0
  exact IntWalk.wrap64_in _ ⟨by omega, by omega⟩
 have g4 : decide (wrap64 ((2 : Int) ^ n) ≤ wrap64 (sig[0].toNat : Int)) = true := by rw [e1, e2]; exact decide_eq_true (by omega)
 clear h e1 e2 hb
 go_enter Tryz.func91, Tryz.ntmps91
 go_wp2_with fail
 go_quiet (fail)
 go_wp2_with fail
 go_ret2
 exact ⟨rfl, _, rfl⟩
theorem leafOk_form {sig : ByteArray} (h : leafOk sig = true) : ∃ n, n ≤ 4 ∧ sig.size = 289 + 16 * n ∧ atB sig 0 < 2 ^ n := by
 unfold leafOk at h
 simp only [Bool.and_eq_true, decide_eq_true_eq] at h
 obtain ⟨⟨⟨h1, h2⟩, h3⟩, h4⟩ := h
 exact ⟨(sig.size - 289) / 16, by omega, by omega, h4⟩
theorem leaf_no (sig : ByteArray) (w : World) (hz : sig.size ≤ 1000000) (h : leafOk sig = false) :
  Calls Tryz.prog 91 #[.string sig] w fun e w' => e = .returned (.tuple #[.int .i64 0, .int .i64 4]) ∧ ∃ n, w' = w.drewN n := by
 by_cases h1 : 289 ≤ sig.size
 ·by_cases h2 : (sig.size - 289) % 16 = 0
  ·by_cases h3 : sig.size - 289 ≤ 64
   ·refine leaf_d sig w ((sig.size - 289) / 16) (by omega) (by omega) (fun h4 => ?_)
    unfold leafOk at h
    simp [h1, h2, h3, h4] at h
   ·exact leaf_c sig w hz h1 h2 (by omega)
  ·exact leaf_b sig w hz h1 h2
 ·exact leaf_a sig w (by omega)
theorem odd_yes (s : ByteArray) (w : World) (hs : s.size ≠ 16) : Calls Tryz.prog 92 #[.string s] w fun e w' => e = .returned (.bool true) ∧ w = w' := by
 have h1 : ((s.size : Int) != 16) = true := by rw [bne_iff_ne]; omega
 clear hs
 go_enter Tryz.func92, Tryz.ntmps92
 go_wp2_with fail
 go_ret
 exact ⟨rfl, rfl⟩
theorem pieces_next (s : ByteArray) (at_ k : Nat) : (pieces s at_ (k + 1)).map Value.string = (pieces s at_ k).map Value.string ++ [.string (s.extract (at_ + 16 * k) (at_ + 16 * k + 16))] := by
 rw [pieces, List.map_append]; rfl
theorem pieces_length (s : ByteArray) (at_ : Nat) : ∀ n, (pieces s at_ n).length = n
 | 0 => rfl
 | n + 1 => by rw [pieces, List.length_append, pieces_length s at_ n]; rfl
theorem pieces_all (s : ByteArray) (at_ : Nat) : ∀ n, at_ + 16 * n ≤ s.size → ∀ x ∈ pieces s at_ n, x.size = 16
 | 0, _, x, hx => by simp [pieces] at hx
 | n + 1, h, x, hx => by
  rw [pieces, List.mem_append] at hx
  rcases hx with hx | hx
  ·exact pieces_all s at_ n (by omega) x hx
  ·simp at hx; subst hx
   rw [ByteArray.size_extract]; omega
set_option maxRecDepth 100000 in
set_option maxHeartbeats 1000000 in
theorem verify_a (root msg sig : ByteArray) (w : World) (hz : sig.size ≤ 1000000) (h : leafOk sig = false) :
  Calls Tryz.prog 26 #[.string root, .string msg, .string sig] w fun e w' => e = .returned (.bool false) ∧ Below w.heap.size w w' := by
 go_enter Tryz.func26, Tryz.ntmps26
 go_wp2_with fail
 refine (leaf_no sig _ hz h).mono ?_
 rintro e w1 ⟨rfl, n, rfl⟩
 go_wp2_with fail
 go_ret
 exact ⟨rfl, below_drewN (Below.refl _ _) n⟩
set_option maxRecDepth 100000 in
set_option maxHeartbeats 1000000 in
theorem verify_b (root msg sig : ByteArray) (w : World) (n : Nat) (h : sig.size = 289 + 16 * n) (hn : n ≤ 4) (hb : atB sig 0 < 2 ^ n) (hr : root.size ≠ 16) :
  Calls Tryz.prog 26 #[.string root, .string msg, .string sig] w fun e w' => e = .returned (.bool false) ∧ Below w.heap.size w w' := by
 go_enter Tryz.func26, Tryz.ntmps26
 go_wp2_with fail
 refine (leaf_e sig _ n h hn hb).mono ?_
 rintro e w1 ⟨rfl, q, rfl⟩
 clear h
 go_wp2_with fail
 refine (odd_yes root _ hr).mono ?_
 rintro e w1 ⟨rfl, rfl⟩
 go_wp2_with fail
 go_ret
 exact ⟨rfl, below_drewN (Below.refl _ _) q⟩
set_option maxRecDepth 100000 in
set_option maxHeartbeats 2000000 in
theorem verify_c (root msg sig : ByteArray) (w : World) (n : Nat) (h : sig.size = 289 + 16 * n) (hn : n ≤ 4) (hb : atB sig 0 < 2 ^ n) (hr : root.size = 16) (hm : msg.size ≤ 900000) :
  Calls Tryz.prog 26 #[.string root, .string msg, .string sig] w fun e w' => e = .returned (.bool (decide (topB n (upR (fromB (aboutB root (atB sig 0) msg) (sig.extract 1 289)) (atB sig 0) (pieces sig 289 n)) = root))) ∧ Below w.heap.size w w' := by
 have HH := Lib.hid h
 have HR := Lib.hid hr
 have HB := Lib.hid hb
 have hz : sig.size ≤ 1000 := by omega
 obtain ⟨j0, hj, hy0, hy1, hy2⟩ := info_parts Tryz.infoStr
 have Hy := Lib.hid hy0
 have p16 := (pow_le16 n hn).2
 have hat : atB sig 0 < 16 := by omega
 clear hy0 h hr hb p16
 go_enter Tryz.func26, Tryz.ntmps26
 go_wp2_with fail
 refine (leaf_e sig _ n HH.out hn HB.out).mono ?_
 rintro e w1 ⟨rfl, q, rfl⟩
 go_wp2_with fail
 refine (odd_no root _ HR.out).mono ?_
 rintro e w1 ⟨rfl, rfl⟩
 have HW1 := Lib.hid (below_drewN (Below.refl w.heap.size w) q)
 generalize w.drewN q = w1 at HW1 ⊢
 go_wp2_with fail
 go_loopw [9, 10] (fun p a wr => ∃ k : Nat, k ≤ n ∧ a = .int .i64 (289 + 16 * (k : Int)) ∧ Hid (wr.ownsRow w1.heap.size 9 1 p k ((pieces sig 289 k).map Value.string)) ∧ Hid (Below w1.heap.size w1 wr)) (fun _ a _ => sig.size - (intOf a).toNat)
 case atStart => exact ⟨0, by omega, rfl, World.ownsRow_nil _ _ _ _, Below.refl _ _⟩
 case round =>
  obtain ⟨k, hk, rfl, HO, HBr⟩ := hrel
  obtain ⟨An, cn, rfl⟩ := own_form HO.out
  have hzr := HBr.out.size
  by_cases hkn : k < n
  ·have hs1 : 289 + 16 * k + 16 ≤ sig.size := by rw [HH.out]; omega
   have g1 : decide (289 + 16 * (k : Int) < sig.size) = true := decide_eq_true (by omega)
   have HT := Lib.hid (pieces_next sig 289 k)
   have b1 : 289 + 16 * (k : Int) + 16 ≤ sig.size := by omega
   have t1 : (289 + 16 * (k : Int)).toNat = 289 + 16 * k := by omega
   have t2 : (289 + 16 * (k : Int) + 16).toNat = 289 + 16 * k + 16 := by omega
   go_wp2_with (first | (at_builtin; go_must (refine wpList_append_own _ rfl (.tmp 31) (.tmp 37) _ rfl w1.heap.size 9 j0 _ 1 16 Tryz.underlying66 hj Hy.out hy1 hy2 rfl (by decide) _ k _ rfl (HO.out.alloc _) ⟨wr.heap.size, 0, none⟩ 1 1 [.string (sig.extract (289 + 16 * k) (289 + 16 * k + 16))] rfl rfl (news_alloc _ _ _ _ _ rfl rfl) (one_str _) (by simp only [maxLen]; omega) (by omega) (by simp; omega) ?_); intro v' w2 hown1 hg1 _))
   obtain ⟨A3, c3, rfl⟩ := own_form hown1
   go_roundw
   case rel =>
    refine ⟨k + 1, by omega, congrArg (Value.int .i64) (by omega), ?_, (HBr.out.alloc hzr _).grown hg1 (by simp; omega) (fun r hr => (HO.out.lt r hr).1)⟩
    show World.ownsRow _ _ _ _ _ _ _
    rw [HT.out]
    exact hown1
   case measure => simp [intOf]; omega
  ·obtain rfl : k = n := by omega
   have hs1 : decide (289 + 16 * (k : Int) < sig.size) = false := by rw [HH.out]; exact decide_eq_false (by omega)
   have HSP : Hid (SR wr (.slice An k cn) (pieces sig 289 k)) := by
    show World.ownsRow _ _ _ _ _ _ _
    rw [pieces_length]
    exact World.ownsRow.mono (base' := 0) (show wr.ownsRow w1.heap.size 9 1 (.slice An k cn) k ((pieces sig 289 k).map Value.string) from HO.out) (by omega)
   have HAZ : Hid ((aboutB root (atB sig 0) msg).size ≤ 1000000) := by show _ ≤ _; rw [aboutB, ByteArray.size_append, ByteArray.size_append, HR.out, oneB_size]; omega
   have HSX : Hid ((sig.extract 1 289).size = 288) := by show _ = _; rw [ByteArray.size_extract, HH.out]; omega
   have hrz : root.size ≤ 1000000 := by rw [HR.out]; omega
   have h289 : (289 : Int) ≤ sig.size := by rw [HH.out]; omega
   go_wp2_with fail
   go_region_held3 (fun _ => True) (trivial)
    ((first
     | (go_at_call 94; refine (about_any root msg (atB sig 0) _ (by omega) hrz (by omega)).mono ?_; rintro e wa ⟨rfl, hb⟩; have HA : Hid (Below wr.heap.size wr wa) := ((Below.refl wr.heap.size wr).drew).trans hb; have hza := HA.out.size; clear hb)
     | (go_at_call 93; refine (wfrom_any (aboutB root (atB sig 0) msg) (sig.extract 1 289) _ HSX.out HAZ.out).mono ?_; rintro e wb ⟨rfl, hb⟩; have HBB : Hid (Below wr.heap.size wr wb) := HA.out.trans (hb.mono hza); have hzb := HBB.out.size; clear hb)))
   have HSPb := Lib.hid ((KS.of_below HBB.out (Nat.le_refl _)).sr HSP.out)
   have HPA := Lib.hid (pieces_all sig 289 k (by rw [HH.out]; exact Nat.le_refl _))
   have HPL := Lib.hid (pieces_length sig 289 k)
   have hfz : (fromB (aboutB root (atB sig 0) msg) (sig.extract 1 289)).size = 16 := tagB_size _ _
   have HFZ := Lib.hid hfz
   have HWB := Lib.hid ((HW1.out.trans (HBr.out.mono HW1.out.size)).trans (HBB.out.mono (by have := HW1.out.size; omega)))
   clear hfz hs1 h289
   generalize hle : fromB (aboutB root (atB sig 0) msg) (sig.extract 1 289) = lf at HFZ ⊢
   have HLE := Lib.hid hle
   clear hle
   generalize hpl : pieces sig 289 k = pl at HSPb HPA HPL
   have HPE := Lib.hid hpl
   clear hpl
   have hup : Hid (∀ w : World, SR w (.slice An k cn) pl → Calls Tryz.prog 95 #[.string lf, .int .i64 (atB sig 0), .slice An k cn] w fun e w' => e = .returned (.tuple #[.string (topB k (upR lf (atB sig 0) pl)), .int .i64 0]) ∧ Below w.heap.size w w') := fun w hs => by
    have := mup_any lf (atB sig 0) (.slice An k cn) pl w HFZ.out (by rw [HPL.out]; exact hn) (by rw [HPL.out]; exact HB.out) HPA.out hs
    rwa [HPL.out] at this
   go_wp2_with fail
   refine (hup.out _ HSPb.out).mono ?_
   rintro e wu ⟨rfl, hbu⟩
   have HWU := Lib.hid (HWB.out.trans (hbu.mono HWB.out.size))
   clear hbu
   generalize htp : topB k (upR lf (atB sig 0) pl) = tp
   have HTP := Lib.hid htp
   clear htp
   go_wp2_with fail
   go_ret
   exact ⟨ret_bool (by rw [HPE.out, HLE.out, HTP.out, toList_beq]), HWU.out⟩
/-- WHAT VERIFY ANSWERS, WHATEVER IT IS GIVEN. -/
theorem verify_any (root msg sig : ByteArray) (w : World) (hz : sig.size ≤ 1000000) (hm : msg.size ≤ 900000) :
  Calls Tryz.prog 26 #[.string root, .string msg, .string sig] w fun e w' => e = .returned (.bool (verB root msg sig)) ∧ Below w.heap.size w w' := by
 cases hl : leafOk sig with
 | false =>
  refine (verify_a root msg sig w hz hl).mono ?_
  rintro e w' ⟨rfl, hb⟩
  exact ⟨ret_bool (by simp [verB, hl]), hb⟩
 | true =>
  obtain ⟨n, hn, hs, hb⟩ := leafOk_form hl
  have hq : (sig.size - 289) / 16 = n := by omega
  by_cases hr : root.size = 16
  ·refine (verify_c root msg sig w n hs hn hb hr hm).mono ?_
   rintro e w' ⟨rfl, hb⟩
   exact ⟨ret_bool (by rw [verB, hl, hq, decide_eq_true hr]; simp), hb⟩
  ·refine (verify_b root msg sig w n hs hn hb hr).mono ?_
   rintro e w' ⟨rfl, hb⟩
   exact ⟨ret_bool (by rw [verB, decide_eq_false hr]; simp), hb⟩
end
end Go.Proofs.YtjcinncphffgaaaGreat
