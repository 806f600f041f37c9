/- SchedOrder: the walk (under way). -/
import Derived.Test.YtnkbdkpeoaobeaaSchedO
import Derived.Test.YtnkbdkpeoaobeaaPlain20f
import Derived.Test.YtnkbdkpeoaobeaaAnyB

import Derived.Deep.RegionHeld3
import Derived.Deep.DeepCutAuto
import Derived.Deep.Onto
namespace Go.Proofs.Ytnkbdkpeoaobeaa
open Go.RowKit

theorem items_one {A : Option Addr} {x : It} {c : Nat} {w : World} (hch : x.came) (hs : Sl w w.heap.size 4 It.cells A [x]) :
    Calls Try.prog 8 #[.slice A 1 c] w fun e w' => ∃ b off c1 A2 c2, e = .returned (.tuple #[.slice (some ⟨b, off, none⟩) 1 c1, .slice A2 1 c2]) ∧
      Sl w' w'.heap.size 4 It.cells (some ⟨b, off, none⟩) [cutI x] ∧ Below w.heap.size w w' := by
  refine (items_sl (l := [x]) (c := c) (by simp [maxLen]) (fun y hy => by simp at hy; rw [hy]; exact hch) hs).mono ?_
  rintro e w' ⟨A1, c1, A2, c2, rfl, h1, _, hb⟩
  have e1 : ([x].take 12).map cutI = [cutI x] := rfl
  rw [e1] at h1 ⊢
  obtain ⟨b, off, rfl, _, _⟩ := h1 (by simp)
  exact ⟨b, off, c1, A2, c2, rfl, h1, hb⟩

theorem ent_new0 (w : World) (o : Obj) : (w.alloc o).heap[w.heap.size]? = some o := heap_alloc_new w o
theorem ent_new2 (w : World) (o o2 : Obj) : ((w.alloc o).alloc o2).heap[w.heap.size + 1]? = some o2 := by have := heap_alloc_new (w.alloc o) o2; simpa using this
theorem ent_new (w : World) (o : Obj) (g : Nat) (h : g = w.heap.size) : (w.alloc o).heap[g]? = some o := by rw [h]; exact heap_alloc_new w o
theorem entry_alloc {w : World} {o o' : Obj} {g : Nat} (h : w.heap[g]? = some o') : (w.alloc o).heap[g]? = some o' := (Below.heap_alloc w o g (Array.getElem?_eq_some_iff.1 h).1).trans h
theorem entry_drew {w : World} {o' : Obj} {g : Nat} (h : w.heap[g]? = some o') : w.drew.heap[g]? = some o' := h
theorem entry_below {w w' : World} (hb : Below w.heap.size w w') {o' : Obj} {g : Nat} (h : w.heap[g]? = some o') : w'.heap[g]? = some o' := (hb.block g (Array.getElem?_eq_some_iff.1 h).1).trans h
theorem entry_grown {w w' : World} {row : Option Nat} (hg : w.grownBy w' row) {o' : Obj} {g : Nat} (h : w.heap[g]? = some o') (hne : ¬ some g = row) : w'.heap[g]? = some o' := (hg.block g (Array.getElem?_eq_some_iff.1 h).1 hne).trans h
theorem entry_grown2 {w w' : World} {row : Option Nat} (hg : w.grownBy w' row) {o' : Obj} {g : Nat} (hne : ¬ some g = row) (h : w.heap[g]? = some o') : w'.heap[g]? = some o' := entry_grown hg h hne
theorem reads_new {w : World} {g : Nat} {cs : Array Value} {e : TypeId} {k n : Nat} {xs : List Value} (h : w.heap[g]? = some (.cells cs e (0, 0))) (hx : cs.toList = xs) (hl : xs.length = n * k) : Reads w w.heap.size k (some ⟨g, 0, none⟩) n xs :=
  ⟨hl, fun _ => ⟨_, rfl, (Array.getElem?_eq_some_iff.1 h).1, fun j u hu => by
    rw [addr_add0]
    subst hx
    simp only [World.cell?, h, Option.isSome_none, Bool.false_eq_true, if_false]
    rw [← Array.getElem?_toList]; exact hu⟩⟩
theorem sDue_own {A : Option Addr} {l : List It} {c : Nat} {h m : Int} {w : World} (hl : l.length ≤ 19) (hok : ∀ x ∈ l, x.ok) (hm : 0 ≤ m) (hm1 : m ≤ 1099511627776) (hs : Sl w w.heap.size 4 It.cells A l) :
    Calls Try.prog 17 #[.slice A l.length c, .int .i64 h, .int .i64 m] w fun e w' => ∃ A' c', e = .returned (.slice A' ((dueI h m l).map It.ch).length c') ∧ w'.ownsRow 0 9 1 (.slice A' ((dueI h m l).map It.ch).length c') ((dueI h m l).map It.ch).length (((dueI h m l).map It.ch).map Value.string) ∧ Below w.heap.size w w' := by
  refine (sDue A l c h m w hl hok hm hm1 hs).mono ?_
  rintro e w' ⟨v, rfl, hown, hb⟩
  obtain ⟨A', c', rfl⟩ := own_form hown
  have hlen : (dueI h m l).length = ((dueI h m l).map It.ch).length := by simp
  rw [hlen] at hown ⊢
  exact ⟨A', c', rfl, hown.mono (Nat.zero_le _), hb⟩
theorem p1_step {wq W w1 : World} {eb n : Nat} {v1 A3v : Value} {n3 : Nat} {xs xs3 : List Value} (hown : W.ownsRow wq.heap.size 37 4 (.slice (some ⟨eb, 0, none⟩) 0 0) 0 []) (hn3 : W.ownsRow 0 9 1 A3v n3 xs3) (hbq : Below wq.heap.size wq W)
    (hown1 : w1.ownsRow wq.heap.size 37 4 v1 n xs) (hg1 : W.grownBy w1 (some eb)) : Below wq.heap.size W w1 ∧ w1.ownsRow 0 9 1 A3v n3 xs3 ∧ Below wq.heap.size wq w1 ∧ W.heap.size ≤ w1.heap.size ∧ wq.heap.size ≤ W.heap.size := by
  have hge : wq.heap.size ≤ eb := (hown.lt eb rfl).1
  have h1 : Below wq.heap.size W w1 := (Below.refl _ _).grown hg1 hbq.size (fun r hr => by injection hr with hr; omega)
  exact ⟨h1, hn3.kept hg1 (own_ne hn3 hown (by decide)), hbq.trans h1, hg1.size, hbq.size⟩
theorem p2_step {wq W w2 : World} {n n2 : Nat} {v1 v2 A3v : Value} {n3 : Nat} {xs xs2 xs3 : List Value} (hown : W.ownsRow wq.heap.size 37 4 v1 n xs) (hn3 : W.ownsRow 0 9 1 A3v n3 xs3) (hbq : Below wq.heap.size wq W)
    (hown2 : w2.ownsRow wq.heap.size 37 4 v2 n2 xs2) (hg2 : W.grownBy w2 v1.ownBlock) : Below wq.heap.size W w2 ∧ w2.ownsRow 0 9 1 A3v n3 xs3 ∧ Below wq.heap.size wq w2 := by
  have h1 : Below wq.heap.size W w2 := (Below.refl _ _).grown hg2 hbq.size (fun r hr => (hown.lt r hr).1)
  exact ⟨h1, hn3.kept hg2 (own_ne hn3 hown (by decide)), hbq.trans h1⟩
theorem reads_at {w : World} {g : Nat} {cs : Array Value} {e : TypeId} {k n : Nat} {xs : List Value} (h : w.heap[g]? = some (.cells cs e (0, 0))) (hx : cs.toList = xs) (hl : xs.length = n * k) : Reads w (g + 1) k (some ⟨g, 0, none⟩) n xs :=
  ⟨hl, fun _ => ⟨_, rfl, Nat.lt_succ_self _, fun j u hu => by
    rw [addr_add0]
    subst hx
    simp only [World.cell?, h, Option.isSome_none, Bool.false_eq_true, if_false]
    rw [← Array.getElem?_toList]; exact hu⟩⟩
theorem own_two {w : World} {base : Nat} {v : Value} {L : List It} {y : It} (h : w.ownsRow base 37 4 v (0 + L.length + 1) (([] ++ L.flatMap It.cells) ++ y.cells)) : ∃ A c, v = .slice A (L.length + 1) c ∧ Sl w w.heap.size 4 It.cells A (L ++ [y]) := by
  have e : 0 + L.length + 1 = L.length + 1 := by omega
  rw [e] at h
  obtain ⟨A, c, rfl⟩ := own_form h
  exact ⟨A, c, rfl, Sl.of_own It.cells_len (by simpa using h)⟩
theorem ok_snoc {l : List It} {y : It} (h : ∀ x ∈ l, x.ok) (hy : y.ok) : ∀ x ∈ l ++ [y], x.ok := by
  intro x hx
  rcases List.mem_append.1 hx with h1 | h1
  · exact h x h1
  · simp at h1; rw [h1]; exact hy
set_option maxRecDepth 100000 in
set_option maxHeartbeats 16000000 in
theorem order_any (A : Option Addr) (l : List It) (c0 : Nat) (x : It) (t0 t1 : Int) (w : World) (hx : x.came) (hl : l.length ≤ maxLen) (hch : ∀ x ∈ l, x.came) (hs : Sl w w.heap.size 4 It.cells A l) :
    Calls Try.prog 7 #[.slice A l.length c0, .agg #[.string x.ch, .int .i64 x.ex, .int .u64 x.wo, .bool x.cl], .agg #[.int .i64 t0, .int .i64 t1]] w fun e w' => e = .returned (.bool true) ∧ Below w.heap.size w w' := by
  have b0 := ((Below.refl w.heap.size w).alloc (Nat.le_refl _) (.cells #[.string x.ch, .int .i64 x.ex, .int .u64 x.wo, .bool x.cl] 37)).alloc (by simp) (.cells #[.int .i64 t0, .int .i64 t1] 23)
  have hs0 := ((hs.alloc (Nat.le_refl _) (.cells #[.string x.ch, .int .i64 x.ex, .int .u64 x.wo, .bool x.cl] 37)).alloc (by simp) (.cells #[.int .i64 t0, .int .i64 t1] 23)).more (B' := ((w.alloc (.cells #[.string x.ch, .int .i64 x.ex, .int .u64 x.wo, .bool x.cl] 37)).alloc (.cells #[.int .i64 t0, .int .i64 t1] 23)).heap.size) (by simp; omega)
  have HI := Lib.hid (items_sl (c := c0) hl hch hs0)
  have hok := cutI_ok hch
  have hn12 := cut_len l
  generalize (l.take 12).map cutI = L at HI hok hn12
  have bm := mask39_bd t1
  have bm' := mask39_le t1
  obtain ⟨m, hm⟩ : ∃ m, bits .and .i64 t1 549755813887 = m := ⟨_, rfl⟩
  obtain ⟨h, hh⟩ : ∃ h, bits .and .i64 t0 549755813887 = h := ⟨_, rfl⟩
  rw [hm] at bm bm'
  have HOK := Lib.hid hok
  have hy := cutI_ok (l := [x]) (fun z hz => by simp at hz; rw [hz]; exact hx)
  have hyk : (cutI x).ok := (hy _ (by simp)).1
  have hx' := Lib.hid hx
  clear hx hy
  have k5 := fun (W : World) (A : Option Addr) (cc : Nat) (hs : Sl W W.heap.size 4 It.cells A L) => sDue_own (c := cc) (h := h) (m := m) (w := W) (by omega) (fun x hx => (HOK.out x hx).1) bm (by omega) hs
  have k6 := fun (W : World) (A : Option Addr) (cc : Nat) (hs : Sl W W.heap.size 4 It.cells A (L ++ [cutI x])) => sDue_names (c := cc) (h := h) (m := m) (w := W) (by simp; omega) (ok_snoc (fun x hx => (HOK.out x hx).1) hyk) bm (by omega) hs
  have k7 := fun (W : World) (A : Option Addr) (cc : Nat) (hs : Sl W W.heap.size 4 It.cells A [cutI x]) => sDue_own (c := cc) (h := h) (m := m) (w := W) (by simp) (fun z hz => by simp at hz; rw [hz]; exact hyk) bm (by omega) hs
  have hnl : ((dueI h m L).map It.ch).length ≤ 12 := by
    rw [List.length_map, (dueI_perm h m _).length_eq]; exact Nat.le_trans (List.length_filter_le _ _) hn12
  have hput : (((dueI h m [cutI x]).map It.ch).length = 1 ∧ ∃ p, Put p (cutI x).ch ((dueI h m L).map It.ch) ((dueI h m (L ++ [cutI x])).map It.ch)) ∨ (((dueI h m [cutI x]).map It.ch).length = 0 ∧ (dueI h m (L ++ [cutI x])).map It.ch = (dueI h m L).map It.ch) := by
    rw [dueI_one, dueI_one_more]
    cases hg : goodI h m (cutI x)
    · right; simp
    · left
      obtain ⟨p, hp, he⟩ := ins_names (cutI x) (dueI h m L)
      exact ⟨by simp, p, hp, by simpa using he⟩
  have HPUT := Lib.hid hput
  clear hput
  generalize (dueI h m L).map It.ch = NX at k5 HPUT hnl
  generalize (dueI h m (L ++ [cutI x])).map It.ch = MX at k6 HPUT
  generalize (dueI h m [cutI x]).map It.ch = ON at k7 HPUT
  have K7 := Lib.hid k7
  have K5 := Lib.hid k5
  have k6' : ∀ (W : World) (A : Option Addr) (cc : Nat), Sl W W.heap.size 4 It.cells A (L ++ [cutI x]) → Calls Try.prog 17 #[.slice A (L.length + 1) cc, .int .i64 h, .int .i64 m] W _ := fun W A cc hs => by have := k6 W A cc hs; rw [List.length_append] at this; exact this
  have K6 := Lib.hid k6'
  clear k5 k6 k6' k7
  have B0 := Lib.hid b0
  clear hs hs0 hch hok b0
  go_enter Try.func7, Try.ntmps7
  go_wp2_with fail
  refine HI.out.mono ?_
  rintro e w1 ⟨A1, c1, A2, c2, rfl, hs1, hs2, hb1⟩
  have f0 : w1.cell? ⟨w.heap.size + 1, 0, none⟩ = some (.int .i64 t0) := (hb1.cell (p := ⟨w.heap.size + 1, 0, none⟩) (by simp)).trans (by go_simp)
  have f1 : w1.cell? ⟨w.heap.size + 1, 1, none⟩ = some (.int .i64 t1) := (hb1.cell (p := ⟨w.heap.size + 1, 1, none⟩) (by simp)).trans (by go_simp)
  have x0 : w1.cell? ⟨w.heap.size, 0, none⟩ = some (.string x.ch) := (hb1.cell (p := ⟨w.heap.size, 0, none⟩) (by simp; omega)).trans (by go_simp)
  have x1 : w1.cell? ⟨w.heap.size, 1, none⟩ = some (.int .i64 x.ex) := (hb1.cell (p := ⟨w.heap.size, 1, none⟩) (by simp; omega)).trans (by go_simp)
  have x2 : w1.cell? ⟨w.heap.size, 2, none⟩ = some (.int .u64 x.wo) := (hb1.cell (p := ⟨w.heap.size, 2, none⟩) (by simp; omega)).trans (by go_simp)
  have x3 : w1.cell? ⟨w.heap.size, 3, none⟩ = some (.bool x.cl) := (hb1.cell (p := ⟨w.heap.size, 3, none⟩) (by simp; omega)).trans (by go_simp)
  have z1 := hb1.size
  simp at z1
  have B1 := Lib.hid (B0.out.trans (hb1.mono (by simp; omega)))
  clear hb1 hs2 B0
  have HX : Hid (Sl (w1.alloc (.cells #[.string x.ch, .int .i64 x.ex, .int .u64 x.wo, .bool x.cl] 37)) (w1.alloc (.cells #[.string x.ch, .int .i64 x.ex, .int .u64 x.wo, .bool x.cl] 37)).heap.size 4 It.cells (some ⟨w1.heap.size, 0, none⟩) [x]) :=
    Sl.of_block (off := 0) (rest := []) It.cells_len (heap_alloc_new _ _) (by simp) rfl
  go_wp2_with fail
  refine (items_one hx'.out HX.out).mono ?_
  rintro e w2 ⟨b9, off9, c9, A8, c8, rfl, hs9, hb2⟩
  have g0 : w2.cell? ⟨w.heap.size + 1, 0, none⟩ = some (.int .i64 t0) := (hb2.cell (p := ⟨w.heap.size + 1, 0, none⟩) (by simp; omega)).trans ((World.cell?_alloc_lt w1 _ ⟨w.heap.size + 1, 0, none⟩ (by show w.heap.size + 1 < _; omega)).trans f0)
  have g1 : w2.cell? ⟨w.heap.size + 1, 1, none⟩ = some (.int .i64 t1) := (hb2.cell (p := ⟨w.heap.size + 1, 1, none⟩) (by simp; omega)).trans ((World.cell?_alloc_lt w1 _ ⟨w.heap.size + 1, 1, none⟩ (by show w.heap.size + 1 < _; omega)).trans f1)
  have z2 := hb2.size
  simp at z2
  have B2 := Lib.hid ((B1.out.alloc (by omega) (.cells #[.string x.ch, .int .i64 x.ex, .int .u64 x.wo, .bool x.cl] 37)).trans (hb2.mono (by simp; omega)))
  have hs1' := ((hs1.alloc (Nat.le_refl _) (.cells #[.string x.ch, .int .i64 x.ex, .int .u64 x.wo, .bool x.cl] 37)).more (B' := (w1.alloc (.cells #[.string x.ch, .int .i64 x.ex, .int .u64 x.wo, .bool x.cl] 37)).heap.size) (by simp)).below hb2 |>.more (B' := w2.heap.size) (by simp; omega)
  clear hb2 hs1 f0 f1 x0 x1 x2 x3 B1 HX
  go_wp2_with fail
  go_quiet (fail)
  go_wp2_with fail
  have Q1 : Sl (w2.drewN nq) (w2.drewN nq).heap.size 4 It.cells A1 L := hs1'
  have Q9 : Sl (w2.drewN nq) (w2.drewN nq).heap.size 4 It.cells (some ⟨b9, off9, none⟩) [cutI x] := hs9
  have QB : Hid (Below w.heap.size w (w2.drewN nq)) := below_drewN B2.out nq
  have QZ : w.heap.size + 2 ≤ (w2.drewN nq).heap.size := by simp; omega
  generalize w2.drewN nq = wq at Q1 Q9 QB QZ ⊢
  clear hs1' hs9 B2 g0 g1
  generalize cutI x = y at Q9 K6 K7 HPUT hyk
  obtain ⟨b9', off9', e9, hb9, hc9⟩ := Q9.at_ (i := 0) (by simp)
  injection e9 with e9
  injection e9 with e9 e9'
  subst e9 e9'
  have y0 : wq.cell? ⟨b9, off9, none⟩ = some (.string y.ch) := by have := hc9 0 _ rfl; simpa using this
  have y1 : wq.cell? ⟨b9, off9 + 1, none⟩ = some (.int .i64 y.ex) := by have := hc9 1 _ rfl; simpa using this
  have y2 : wq.cell? ⟨b9, off9 + 2, none⟩ = some (.int .u64 y.wo) := by have := hc9 2 _ rfl; simpa using this
  have y3 : wq.cell? ⟨b9, off9 + 3, none⟩ = some (.bool y.cl) := by have := hc9 3 _ rfl; simpa using this
  clear hc9
  obtain ⟨i0, hi, hz0, hz1, hz2⟩ := info_parts info37
  have Hz := Lib.hid hz0
  clear hz0
  have HQ1 := Lib.hid Q1
  have HQ9 := Lib.hid Q9
  clear Q1 Q9
  go_cut [13, 14] (fun v v' wc => ∃ A3 c3 A4 c4, v = .slice A3 NX.length c3 ∧ v' = .slice A4 MX.length c4 ∧ Hid (Sl wc wc.heap.size 1 strC A3 NX ∧ Sl wc wc.heap.size 1 strC A4 MX ∧ Below wq.heap.size wq wc))
  case first =>
    have HQ1d : Hid (Sl wq.drew wq.drew.heap.size 4 It.cells A1 L) := HQ1.out
    have HQ1e : Hid (∀ o, Sl (wq.alloc o).drew (wq.alloc o).drew.heap.size 4 It.cells A1 L) := fun o => HQ1.out.al o
    have HQ1f : Hid (∀ o o', Sl ((wq.alloc o).alloc o').drew ((wq.alloc o).alloc o').drew.heap.size 4 It.cells A1 L) := fun o o' => (HQ1.out.al o).al o'
    have HB0 : Hid (Below wq.heap.size wq wq.drew) := (Below.refl _ _).drew
    have HB1 : Hid (∀ o, Below wq.heap.size wq (wq.alloc o).drew) := fun o => ((Below.refl _ _).alloc (Nat.le_refl _) o).drew
    have HB2 : Hid (∀ o o', Below wq.heap.size wq ((wq.alloc o).alloc o').drew) := fun o o' => (((Below.refl _ _).alloc (Nat.le_refl _) o).alloc (by simp) o').drew
    have tok1 : True := trivial
    have tok2 : True := trivial
    have tok3 : True := trivial
    have tok4 : True := trivial
    go_region_held3 (fun w' => w'.cell? ⟨b9, off9, none⟩ = some (.string y.ch) ∧ w'.cell? ⟨b9, off9 + 1, none⟩ = some (.int .i64 y.ex) ∧ w'.cell? ⟨b9, off9 + 2, none⟩ = some (.int .u64 y.wo) ∧ w'.cell? ⟨b9, off9 + 3, none⟩ = some (.bool y.cl))
      (first
        | go_keep
        | (go_split_ands
           refine ⟨?_, ?_, ?_, ?_⟩
           · (rw [hbX.cell (by simp; omega)]; assumption)
           · (rw [hbX.cell (by simp; omega)]; assumption)
           · (rw [hbX.cell (by simp; omega)]; assumption)
           · (rw [hbX.cell (by simp; omega)]; assumption)))
      ((first
        | (go_at_call 17; have _t := tok1; refine (K5.out _ A1 c1 ?_).mono ?_; (first | with_reducible exact HQ1d.out | with_reducible exact HQ1e.out _ | with_reducible exact HQ1f.out _ _); rintro e wD ⟨A3, c3, rfl, hn3, hbD⟩; clear tok1; have hbX := hbD; have HN3 := Lib.hid hn3; clear hn3; have HQD := Lib.hid (Sl.bel (w' := wD) (by first | with_reducible exact HQ1d.out | with_reducible exact HQ1e.out _ | with_reducible exact HQ1f.out _ _) hbD); have HBQ : Hid (Below wq.heap.size wq wD) := Below.trans (by first | with_reducible exact HB0.out | with_reducible exact HB1.out _ | with_reducible exact HB2.out _ _) (hbD.mono (by simp <;> omega)); have hszD := hbD.size; simp at hszD; have hzD : wq.heap.size ≤ wD.heap.size := by omega)
        | (have _t := tok2; refine step_append_k _ (by rfl) (.tmp 38) (.tmp 39) 22 (by rfl) wq.heap.size 37 i0 _ 4 40 Try.underlying22 hi Hz.out hz1 hz2 rfl (by decide) (.slice (some ⟨_, 0, none⟩) 0 0) 0 [] (by rfl) ?_ wq.heap.size A1 L.length c1 (L.flatMap It.cells) (by rfl) ?_ (flat_one L) (by simp only [maxLen]; omega) (by omega) ?_ ?_; ((refine own_empty ?_ (by omega); (repeat (first | (with_reducible exact ent_new0 _ _) | (with_reducible exact ent_new2 _ _ _) | (with_reducible refine entry_alloc ?_) | (with_reducible refine entry_drew ?_) | (with_reducible refine entry_below hbD ?_) | ((with_reducible refine entry_grown2 hg1 ?_ ?_); focus (intro e; simp [Value.ownBlock] at e <;> omega)))))); ((refine Reads.of_sl It.cells_len (HQ1.out.below ?_); first | with_reducible exact HBQ.out | with_reducible exact HBQ.out.alloc hzD _ | with_reducible exact (HBQ.out.alloc hzD _).alloc (by simp; omega) _)); ((first | omega | (simp; omega))); intro v1 w1 hown0 hown1 hg1; clear tok2; obtain ⟨hbX, hn3, hbq1, hsz1, hzq1⟩ := p1_step hown0 (by first | with_reducible exact HN3.out | with_reducible exact HN3.out.alloc _ | with_reducible exact (HN3.out.alloc _).alloc _) (by first | with_reducible exact HBQ.out | with_reducible exact HBQ.out.alloc hzD _ | with_reducible exact (HBQ.out.alloc hzD _).alloc (by simp; omega) _) hown1 hg1; have HN31 := Lib.hid hn3; have HBQ1 := Lib.hid hbq1; clear hn3 hbq1 hown0; (try simp at hsz1); (try simp at hzq1))
        | (have _t := tok3; refine step_append_box _ (by rfl) (.tmp 40) (.tmp 44) 22 (by rfl) wq.heap.size 37 i0 _ 4 40 Try.underlying22 hi Hz.out hz1 hz2 rfl (by decide) v1 (0 + L.length) ([] ++ L.flatMap It.cells) (by rfl) ?_ _ 1 1 #[.string y.ch, .int .i64 y.ex, .int .u64 y.wo, .bool y.cl] 37 (by rfl) ?_ rfl y.cells_one (by simp only [maxLen]; omega) (by omega) ?_ ?_; ((first | with_reducible exact hown1 | with_reducible exact hown1.alloc _)); ((repeat (first | (with_reducible exact ent_new0 _ _) | (with_reducible exact ent_new2 _ _ _) | (with_reducible refine entry_alloc ?_) | (with_reducible refine entry_drew ?_) | (with_reducible refine entry_below hbD ?_) | ((with_reducible refine entry_grown2 hg1 ?_ ?_); focus (intro e; simp [Value.ownBlock] at e <;> omega))))); ((first | omega | (simp; omega))); intro v2 w2 _ hown2 hg2; clear tok3; obtain ⟨hbX, hn3, hbq2⟩ := p2_step (by first | with_reducible exact hown1 | with_reducible exact hown1.alloc _) (by first | with_reducible exact HN31.out | with_reducible exact HN31.out.alloc _) (by first | with_reducible exact HBQ1.out | with_reducible exact HBQ1.out.alloc (by omega) _) hown2 hg2; have HN32 := Lib.hid hn3; have hz2q := hbq2.size; have HBQ2 := Lib.hid hbq2; obtain ⟨A2, c2, rfl, hs2o⟩ := own_two (y := y) hown2; have HS2 := Lib.hid hs2o; clear hn3 hbq2 hs2o)
        | (go_at_call 17; have _t := tok4; refine (K6.out _ A2 c2 HS2.out).mono ?_; rintro e w3 ⟨A4, c4, rfl, hs4, hb4⟩; clear tok4; have hbX := hb4.mono hz2q; have HF := Lib.hid (And.intro ((Sl.of_own (enc := strC) (fun _ => rfl) (by rw [flat_str]; exact HN32.out)).bel hb4) (And.intro hs4 (HBQ2.out.trans hbX))))))
    all_goals
      go_wp2_with fail
      go_meet
      exact ⟨A3, c3, A4, c4, rfl, rfl, HF⟩
  case rest =>
    obtain ⟨A3, c3, A4, c4, rfl, rfl, HF⟩ := hcut
    rename_i wc
    have hbc := HF.out.2.2
    have hzc := hbc.size
    have BC := Lib.hid (QB.out.trans (hbc.mono (by omega)))
    have hs9 := Lib.hid (((HQ9.out).below hbc).more hzc)
    have hs3 := Lib.hid HF.out.1
    have hs4 := Lib.hid HF.out.2.1
    have y0' : wc.cell? ⟨b9, off9, none⟩ = some (.string y.ch) := (hbc.cell (p := ⟨b9, off9, none⟩) hb9).trans y0
    clear hbc HF y0 y1 y2 y3 HQ1 HQ9
    have hb9c : b9 < wc.heap.size := by omega
    go_wp2_with fail
    refine (K7.out _ _ _ hs9.out).mono ?_
    rintro e wd ⟨A5, c5, rfl, _, hbd⟩
    have hzd := hbd.size
    have BD := Lib.hid (BC.out.trans (hbd.mono (by omega)))
    have ht3 := (hs3.out.below hbd).more hzd
    have ht4 := (hs4.out.below hbd).more hzd
    have y0d : wd.cell? ⟨b9, off9, none⟩ = some (.string y.ch) := (hbd.cell (p := ⟨b9, off9, none⟩) hb9c).trans y0'
    clear hbd hs9 hs3 hs4 y0'
    rcases HPUT.out with ⟨hon, p, hput⟩ | ⟨hon, hmx⟩
    · have h5 : ((ON.length : Int) == 0) = false := beq_eq_false_iff_ne.2 (by omega)
      have hml := hput.len
      have h6 : ((MX.length : Int) != (NX.length : Int) + 1) = false := by rw [bne_eq_false_iff_eq]; omega
      have HPT := Lib.hid hput
      have HML := Lib.hid hml
      clear hon hput hml
      go_wp2_with fail
      go_loopw [15] (fun i wr => ∃ k q : Nat, k ≤ NX.length ∧ i = .int .i64 k ∧ Hid (Same_to p y.ch NX k) ∧ wr = wd.drewN q) (fun i _ => NX.length - (intOf i).toNat)
      case atStart => exact ⟨0, 0, Nat.zero_le _, rfl, fun j _ hj => absurd hj (by omega), rfl⟩
      case round =>
        obtain ⟨k, q, hk, rfl, hst, rfl⟩ := hrel
        by_cases hlt : k < NX.length
        · have hlm : k < MX.length := by have := HML.out; omega
          obtain ⟨b, off, rfl, hbB, hc⟩ := ht3.at_ hlt
          obtain ⟨b', off', rfl, hbB', hc'⟩ := ht4.at_ hlm
          have HN0 := Lib.hid (List.getElem?_eq_getElem hlt)
          have HM0 := Lib.hid (List.getElem?_eq_getElem hlm)
          generalize NX[k] = u at hc HN0
          generalize MX[k] = u' at hc' HM0
          have hc0 : wd.cell? ⟨b, off + k, none⟩ = some (.string u) := by have := hc 0 _ rfl; rwa [Nat.mul_one] at this
          have hc0' : wd.cell? ⟨b', off' + k, none⟩ = some (.string u') := by have := hc' 0 _ rfl; rwa [Nat.mul_one] at this
          clear hc hc'
          have hk2 : decide ((k : Int) < NX.length) = true := decide_eq_true (by omega)
          by_cases hxx : u = u'
          · subst hxx
            have hq : (u.toList == u.toList) = true := by simp
            go_wp2_with fail
            go_quiet (fail)
            go_wp2_with fail
            go_roundw
            case rel => exact ⟨k + 1, _, by omega, by go_num, hst.out.step HPT.out (by rw [HN0.out, HM0.out]), by first | rfl | rw [World.drewN_drewN]⟩
            case measure => simp [intOf]; omega
          · have hq : (u.toList == u'.toList) = false := str_neb hxx
            have hend := hst.out.stop HPT.out hk (.inr (by rw [HN0.out, HM0.out]; exact fun e => hxx (by injection e)))
            have HPK := Lib.hid hend.1
            have HMK := Lib.hid hend.2
            have hye : u' = y.ch := by have := HMK.out; rw [HM0.out] at this; injection this
            have HYE := Lib.hid hye
            clear hend hxx hye
            go_wp2_with fail
            go_quiet (fail)
            go_wp2_with fail
            have hcm0 : wd.cell? ⟨b', off' + k, none⟩ = some (.string y.ch) := by rw [← HYE.out]; exact hc0'
            clear hc0 hc0' hq
            have hqy : (y.ch.toList != y.ch.toList) = false := by simp
            have hkm : (k : Int) < (MX.length : Int) := by omega
            go_quiet (fail)
            go_wp2_with fail
            clear hcm0
            go_loopw [16] (fun i wr => ∃ j q : Nat, k ≤ j ∧ j ≤ NX.length ∧ i = .int .i64 j ∧ wr = wd.drewN q) (fun i _ => NX.length - (intOf i).toNat)
            case atStart => exact ⟨k, _, Nat.le_refl _, hk, rfl, by first | rfl | (repeat rw [World.drewN_drewN])⟩
            case round =>
              obtain ⟨j, q2, hkj, hj, rfl, rfl⟩ := hrel
              by_cases hjl : j < NX.length
              · have hjm : j + 1 < MX.length := by have := HML.out; omega
                obtain ⟨bx, ox, e3, hbB, hc⟩ := ht3.at_ hjl
                obtain ⟨bz, oz, e', hbB', hc'⟩ := ht4.at_ hjm
                injection e' with e'
                injection e' with e1 e2
                subst e1 e2
                injection e3 with e3
                injection e3 with e1 e2
                subst e1 e2
                have hee : MX[j + 1] = NX[j] := by
                  have h1 := HPT.out.gt (j := j) (by have := HPK.out; omega)
                  rw [List.getElem?_eq_getElem hjm, List.getElem?_eq_getElem hjl] at h1
                  injection h1
                rw [hee] at hc'
                generalize NX[j] = u at hc hc'
                clear hee
                have hc0 : wd.cell? ⟨b, off + j, none⟩ = some (.string u) := by have := hc 0 _ rfl; rwa [Nat.mul_one] at this
                have hc0' : wd.cell? ⟨b', off' + (j + 1), none⟩ = some (.string u) := by have := hc' 0 _ rfl; rwa [Nat.mul_one] at this
                clear hc hc'
                have hqu : (u.toList != u.toList) = false := by simp
                have hj1 : (j : Int) + 1 < (MX.length : Int) := by omega
                go_wp2_with fail
                go_quiet (fail)
                go_wp2_with fail
                go_roundw
                case rel => exact ⟨j + 1, _, by omega, by omega, by go_num, by first | rfl | rw [World.drewN_drewN]⟩
                case measure => simp [intOf]; omega
              · go_wp2_with fail
                refine (fixed_any _).mono ?_
                rintro e w7 ⟨rfl, hb7⟩
                go_wp2_with fail
                go_ret
                exact ⟨rfl, (below_drewN BD.out _).trans (hb7.mono (by simp; omega))⟩
        · have hk2 : decide ((k : Int) < NX.length) = false := decide_eq_false (by omega)
          have hend := hst.out.stop HPT.out hk (.inl (by omega))
          have HPK := Lib.hid hend.1
          have HMK := Lib.hid hend.2
          have hlm : k < MX.length := by have := HML.out; omega
          obtain ⟨b', off', rfl, hbB', hc'⟩ := ht4.at_ hlm
          have hye : MX[k] = y.ch := by have := HMK.out; rw [List.getElem?_eq_getElem hlm] at this; injection this
          have hcm0 : wd.cell? ⟨b', off' + k, none⟩ = some (.string y.ch) := by have := hc' 0 _ rfl; rw [Nat.mul_one, hye] at this; exact this
          clear hend hye hc'
          go_wp2_with fail
          go_quiet (fail)
          go_wp2_with fail
          have hqy : (y.ch.toList != y.ch.toList) = false := by simp
          have hkm : (k : Int) < (MX.length : Int) := by omega
          go_quiet (fail)
          go_wp2_with fail
          clear hcm0
          go_loopw [16] (fun i wr => ∃ j q : Nat, k ≤ j ∧ j ≤ NX.length ∧ i = .int .i64 j ∧ wr = wd.drewN q) (fun i _ => NX.length - (intOf i).toNat)
          case atStart => exact ⟨k, _, Nat.le_refl _, hk, rfl, by first | rfl | (repeat rw [World.drewN_drewN])⟩
          case round =>
            obtain ⟨j, q2, hkj, hj, rfl, rfl⟩ := hrel
            by_cases hjl : j < NX.length
            · exfalso; omega
            · go_wp2_with fail
              refine (fixed_any _).mono ?_
              rintro e w7 ⟨rfl, hb7⟩
              go_wp2_with fail
              go_ret
              exact ⟨rfl, (below_drewN BD.out _).trans (hb7.mono (by simp; omega))⟩
    · have h5 : ((ON.length : Int) == 0) = true := by simp [hon]
      subst hmx
      have h6 : ((MX.length : Int) == (MX.length : Int)) = true := by simp
      clear hon
      go_wp2_with fail
      refine (fixed_any _).mono ?_
      rintro e w7 ⟨rfl, hb7⟩
      go_wp2_with fail
      go_ret
      exact ⟨rfl, BD.out.trans (hb7.mono (by omega))⟩
end Go.Proofs.Ytnkbdkpeoaobeaa
