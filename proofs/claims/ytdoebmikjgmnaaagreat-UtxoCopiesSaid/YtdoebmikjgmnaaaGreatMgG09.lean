/- merkle.rows, Root, Path, Up. merkle.Path, Up. merkle.New. merkle: Key.Sign, Root, Left. -/
import Derived.Outline
import Derived.Laws.EntriesVeiled
import Derived.Lib.SliceRun
import Derived.Deep.RegionLaw
import Derived.Test.YtdoebmikjgmnaaaGreatMgG08
set_option linter.unusedVariables false
set_option linter.unusedSimpArgs false
namespace Go.Proofs.YtdoebmikjgmnaaaGreat
open Go.RowKit
theorem ret_si {a b : ByteArray} {k : IntKind} {m n : Int} (h : a = b) (h' : m = n) : Ending.returned (.tuple #[.string a, .int k m]) = .returned (.tuple #[.string b, .int k n]) := by rw [h, h']
theorem pow_and (h : Nat) (hh : h ≤ 4) (n : Nat) (hn : n = 2 ^ h) : bits .and .i64 (n : Int) ((n : Int) - 1) = 0 := by
  subst hn
  match h, hh with
  | 0, _ => rfl
  | 1, _ => rfl
  | 2, _ => rfl
  | 3, _ => rfl
  | 4, _ => rfl
theorem pow_le16 (h : Nat) (hh : h ≤ 4) : 1 ≤ 2 ^ h ∧ 2 ^ h ≤ 16 := ⟨Nat.pow_pos (by omega), Nat.pow_le_pow_right (by omega) hh⟩
set_option maxRecDepth 100000 in
set_option maxHeartbeats 1000000 in
theorem rows_any (h : Nat) (l : List ByteArray) (v : Value) (w : World) (hl : l.length = 2 ^ h) (hh : h ≤ 4) (ha : ∀ x ∈ l, x.size = 16) (hs : SR w v l) :
    Calls Tryz.prog 69 #[v] w fun e w' => ∃ o us, e = .returned o ∧ w'.ownsRow w.heap.size 87 1 o (h + 1) us ∧ All2 (SR w') us (rowsR h l) ∧ Below w.heap.size w w' := by
  obtain ⟨A, c, rfl⟩ := hs.form
  obtain ⟨p1, p2⟩ := pow_le16 h hh
  have b1 : 1 ≤ l.length := by omega
  have b2 : l.length ≤ 16 := by omega
  have g1 : decide ((l.length : Int) < 1) = false := decide_eq_false (by omega)
  have g2 : decide ((16 : Int) < l.length) = false := decide_eq_false (by omega)
  have g3 : (bits .and .i64 (l.length : Int) ((l.length : Int) - 1) != 0) = false := by rw [pow_and h hh _ hl]; rfl
  have HL := Lib.hid hl
  have HA := Lib.hid ha
  have HS := Lib.hid hs
  clear hl ha hs p1 p2
  have hmf : ∀ (fn : Fn) (first cap : Array Value) (w : World), (Instr.makeFunc fn first cap).run Tryz.prog w = .ok (.func fn first cap) w := fun _ _ _ _ => rfl
  go_enter Tryz.func69, Tryz.ntmps69
  go_wp2_with fail
  refine (hasOdd_any _ l _ HS.out HA.out (by omega)).mono ?_
  rintro e w' ⟨rfl, rfl⟩
  go_wp2_with fail
  have HBU : Hid (Blk ((w.alloc (.cells #[.slice none 0 0] 144)).alloc (.cells #[upF w.heap.size (w.heap.size + 1)] 189)) (w.heap.size + 1) 189 #[upF w.heap.size (w.heap.size + 1)]) := by
    have := Blk.new (w.alloc (.cells #[.slice none 0 0] 144)) 189 #[upF w.heap.size (w.heap.size + 1)]
    rwa [World.size_alloc] at this
  have HB : Hid (Below w.heap.size w ((w.alloc (.cells #[.slice none 0 0] 144)).alloc (.cells #[upF w.heap.size (w.heap.size + 1)] 189))) := ((Below.refl _ _).alloc (Nat.le_refl _) _).alloc (by simp) _
  refine (up_any w.heap.size w.heap.size (w.heap.size + 1) h l _ [] (.slice none 0 0) _ HL.out hh HA.out ((KS.of_below HB.out (Nat.le_refl _)).sr HS.out) ((Blk.new _ _ _).alloc _) (World.ownsRow_nil _ _ _ _) HBU.out (Nat.le_refl _) (by omega) (by simp; omega) (by simp; omega)).mono ?_
  rintro e w5 ⟨rfl, o', us, h1, h2, h3, h4, h5⟩
  obtain ⟨Ao, co, rfl⟩ := own_form h2
  have c0 : w5.cell? ⟨w.heap.size, 0, none⟩ = some (.slice Ao ([].length + (h + 1)) co) := h1.cell 0
  simp only [List.length_nil, Nat.zero_add, List.nil_append] at h2 c0
  have H2 := Lib.hid h2
  have H3 := Lib.hid h3
  have H5 := Lib.hid (HB.out.trans h5.bel)
  clear h1 h2 h3 h4 h5
  go_wp2_with fail
  go_ret
  exact ⟨.slice Ao (h + 1) co, us, rfl, H2.out, H3.out, H5.out⟩
/-- n rows up -/
def aboveN : Nat → List ByteArray → List ByteArray
  | 0, l => l
  | n + 1, l => aboveN n (above l)
theorem rowsR_get : ∀ (h i : Nat) (l : List ByteArray), i ≤ h → (rowsR h l)[i]? = some (aboveN i l)
  | 0, 0, _, _ => rfl
  | 0, i + 1, _, h => by omega
  | _ + 1, 0, _, _ => rfl
  | h + 1, i + 1, l, hi => by rw [rowsR, List.getElem?_cons_succ, rowsR_get h i (above l) (by omega)]; rfl
theorem aboveN_length : ∀ (h i : Nat) (l : List ByteArray), i ≤ h → l.length = 2 ^ h → (aboveN i l).length = 2 ^ (h - i)
  | _, 0, _, _, hl => hl
  | 0, i + 1, _, hi, _ => by omega
  | h + 1, i + 1, l, hi, hl => by
    rw [aboveN, aboveN_length h i (above l) (by omega) (by rw [above_length, hl, Nat.pow_succ]; omega)]
    congr 1; omega
theorem topR_eq : ∀ (h : Nat) (l : List ByteArray), topR h l = (aboveN h l).getD 0 ByteArray.empty
  | 0, _ => rfl
  | h + 1, l => topR_eq h (above l)
theorem all2_get {α β : Type} {R : α → β → Prop} : ∀ {l : List α} {m : List β}, All2 R l m → ∀ {i : Nat} {b : β}, m[i]? = some b → ∃ a, l[i]? = some a ∧ R a b
  | [], [], _, i, b, h => by simp at h
  | [], _ :: _, h, _, _, _ => h.elim
  | _ :: _, [], h, _, _, _ => h.elim
  | x :: l, y :: m, ⟨h1, h2⟩, 0, b, h => by
    simp at h; subst h
    exact ⟨x, rfl, h1⟩
  | x :: l, y :: m, ⟨h1, h2⟩, i + 1, b, h => all2_get h2 (i := i) (by simpa using h)
theorem all2_length {α β : Type} {R : α → β → Prop} : ∀ {l : List α} {m : List β}, All2 R l m → l.length = m.length
  | [], [], _ => rfl
  | [], _ :: _, h => h.elim
  | _ :: _, [], h => h.elim
  | _ :: _, _ :: _, ⟨_, h⟩ => by simp [all2_length h]
/-- a row of the rows -/
theorem row_at {w : World} {base h : Nat} {g c : Nat} {us : List Value} {l : List ByteArray} (ho : w.ownsRow base 87 1 (.slice (some ⟨g, 0, none⟩) (h + 1) c) (h + 1) us) (h2 : All2 (SR w) us (rowsR h l)) (i : Nat) (hi : i ≤ h) :
    ∃ A' c', w.cell? ⟨g, i, none⟩ = some (.slice A' (aboveN i l).length c') ∧ SR w (.slice A' (aboveN i l).length c') (aboveN i l) := by
  obtain ⟨u, hu, hs⟩ := all2_get h2 (rowsR_get h i l hi)
  obtain ⟨A', c', rfl⟩ := hs.form
  refine ⟨A', c', ?_, hs⟩
  have := World.ownsRow.cells ho (g := g) rfl i _ hu
  rwa [addr_add0] at this
set_option maxRecDepth 100000 in
set_option maxHeartbeats 1000000 in
theorem root_any (h : Nat) (l : List ByteArray) (v : Value) (w : World) (hl : l.length = 2 ^ h) (hh : h ≤ 4) (ha : ∀ x ∈ l, x.size = 16) (hs : SR w v l) :
    Calls Tryz.prog 31 #[v] w fun e w' => e = .returned (.tuple #[.string (topB h (topR h l)), .int .i64 0]) ∧ Below w.heap.size w w' := by
  have HE := Lib.hid (topR_eq h l)
  have HLN := Lib.hid (aboveN_length h h l (Nat.le_refl _) hl)
  have hts : (topR h l).size ≤ 1000000 := by
    cases h with
    | zero =>
      show (l.getD 0 ByteArray.empty).size ≤ _
      have hl1 : l.length = 1 := hl
      rw [List.getD_eq_getElem?_getD, List.getElem?_eq_getElem (by omega)]
      have := ha _ (List.getElem_mem (show 0 < l.length by omega))
      show (l[0]).size ≤ _
      omega
    | succ h =>
      have h2 : ∀ (h : Nat) (m : List ByteArray), m.length = 2 ^ h → (∀ x ∈ m, x.size = 16) → (topR h m).size = 16 := by
        intro h
        induction h with
        | zero =>
          intro m hm hx
          show (m.getD 0 ByteArray.empty).size = _
          have hm1 : m.length = 1 := hm
          rw [List.getD_eq_getElem?_getD, List.getElem?_eq_getElem (by omega)]
          exact hx _ (List.getElem_mem (show 0 < m.length by omega))
        | succ h ih => intro m hm hx; exact ih (above m) (by rw [above_length, hm, Nat.pow_succ]; omega) (above_all m)
      rw [h2 (h + 1) l hl ha]; omega
  go_enter Tryz.func31, Tryz.ntmps31
  go_wp2_with fail
  refine (rows_any h l v _ hl hh ha hs).mono ?_
  rintro e w1 ⟨o, us, rfl, ho, h2, hb⟩
  obtain ⟨g, c, rfl, _, _⟩ := World.ownsRow.form ho (by omega)
  obtain ⟨A', c', hc1, hs1⟩ := row_at ho h2 h (Nat.le_refl _)
  rw [HLN.out, Nat.sub_self, Nat.pow_zero] at hc1 hs1
  have h1l : (aboveN h l).length = 1 := by rw [HLN.out, Nat.sub_self, Nat.pow_zero]
  obtain ⟨g2, rfl, _, _, hc2⟩ := hs1.cell (i := 0) (by omega)
  have e0 : (aboveN h l)[0] = topR h l := by rw [HE.out, List.getD_eq_getElem?_getD, List.getElem?_eq_getElem (by omega)]; rfl
  rw [e0] at hc2
  have ke := fun W => Lib.run_eql_slice_nil (P := Tryz.prog) W 144 87 (some ⟨g, 0, none⟩) (h + 1) c 0 0 Tryz.underlying144
  have HB := Lib.hid hb
  have hq1 : (0 : Int) ≤ h := by omega
  clear e0 h1l hs1 ho h2 hb hl ha hs
  generalize hx : topR h l = x at hts hc2
  have HX := Lib.hid hx
  clear hx
  go_wp2_with fail
  refine (topped_any h x _ (by omega) hts).mono ?_
  rintro e w2 ⟨rfl, hb2⟩
  go_wp2_with fail
  go_ret2
  exact ⟨by rw [HX.out]; rfl, HB.out.trans (hb2.mono HB.out.size)⟩
end Go.Proofs.YtdoebmikjgmnaaaGreat
namespace Go.Proofs.YtdoebmikjgmnaaaGreat
open Go.RowKit
theorem lt16 (n : Nat) (h : n < 16) : n = 0 ∨ n = 1 ∨ n = 2 ∨ n = 3 ∨ n = 4 ∨ n = 5 ∨ n = 6 ∨ n = 7 ∨ n = 8 ∨ n = 9 ∨ n = 10 ∨ n = 11 ∨ n = 12 ∨ n = 13 ∨ n = 14 ∨ n = 15 := by omega
theorem xor1 (n : Nat) (h : n < 16) : bits .xor .i64 (n : Int) 1 = (mate n : Nat) := by
  rcases lt16 n h with rfl | rfl | rfl | rfl | rfl | rfl | rfl | rfl | rfl | rfl | rfl | rfl | rfl | rfl | rfl | rfl <;> rfl
theorem and1 (n : Nat) (h : n < 16) : bits .and .i64 (n : Int) 1 = ((n % 2 : Nat) : Int) := by
  rcases lt16 n h with rfl | rfl | rfl | rfl | rfl | rfl | rfl | rfl | rfl | rfl | rfl | rfl | rfl | rfl | rfl | rfl <;> rfl
theorem pathR_get : ∀ (h k : Nat) (l : List ByteArray) (i : Nat), k < h → (pathR h l i)[k]? = some ((aboveN k l).getD (mate (i / 2 ^ k)) ByteArray.empty)
  | 0, _, _, _, h => by omega
  | h + 1, 0, l, i, _ => by rw [pathR, Nat.pow_zero, Nat.div_one]; rfl
  | h + 1, k + 1, l, i, hk => by
    rw [pathR, List.getElem?_cons_succ, pathR_get h k (above l) (i / 2) (by omega), Nat.div_div_eq_div_mul, ← Nat.pow_succ']; rfl
theorem path_next (h k : Nat) (l : List ByteArray) (i : Nat) (hk : k < h) : ((pathR h l i).take (k + 1)).map Value.string = ((pathR h l i).take k).map Value.string ++ [.string ((aboveN k l).getD (mate (i / 2 ^ k)) ByteArray.empty)] := by
  have hl : k < (pathR h l i).length := by rw [pathR_length]; exact hk
  have := pathR_get h k l i hk
  rw [List.getElem?_eq_getElem hl] at this
  injection this with this
  rw [List.take_succ_eq_append_getElem hl, List.map_append, this]; rfl
theorem upR_snoc : ∀ (p : List ByteArray) (x y : ByteArray) (i : Nat), upR x i (p ++ [y]) = if (i / 2 ^ p.length) % 2 = 0 then nodeB (upR x i p) y else nodeB y (upR x i p)
  | [], x, y, i => by simp [upR]
  | z :: p, x, y, i => by
    rw [List.cons_append, upR, upR_snoc p _ y (i / 2), upR, Nat.div_div_eq_div_mul, ← Nat.pow_succ', List.length_cons]
theorem half_lt {i h k : Nat} (hi : i < 2 ^ h) (hk : k < h) : i / 2 ^ k < 2 ^ (h - k) := by
  rw [Nat.div_lt_iff_lt_mul (Nat.pow_pos (by omega)), ← Nat.pow_add, Nat.sub_add_cancel (by omega)]; exact hi
theorem half_next (i k : Nat) : ((i / 2 ^ k : Nat) : Int) / 2 = ((i / 2 ^ (k + 1) : Nat) : Int) := by
  rw [Nat.pow_succ, ← Nat.div_div_eq_div_mul]; omega
set_option maxRecDepth 100000 in
set_option maxHeartbeats 400000 in
theorem path_any (h : Nat) (l : List ByteArray) (v : Value) (i : Nat) (w : World) (hl : l.length = 2 ^ h) (hh : h ≤ 4) (hi : i < 2 ^ h) (ha : ∀ x ∈ l, x.size = 16) (hs : SR w v l) :
    Calls Tryz.prog 38 #[v, .int .i64 i] w fun e w' => ∃ v', e = .returned (.tuple #[v', .int .i64 0]) ∧ SR w' v' (pathR h l i) ∧ Below w.heap.size w w' := by
  obtain ⟨Al, cl, rfl⟩ := hs.form
  have HL := Lib.hid hl
  obtain ⟨p1, p2⟩ := pow_le16 h hh
  have b2 : l.length ≤ 16 := by omega
  have b3 : i < l.length := by omega
  have g1 : decide ((i : Int) < 0) = false := decide_eq_false (by omega)
  have g2 : decide ((l.length : Int) ≤ i) = false := decide_eq_false (by omega)
  have g3 : decide (l.length ≤ i) = false := decide_eq_false (by omega)
  obtain ⟨j0, hj, hy0, hy1, hy2⟩ := info_parts Tryz.infoStr
  have Hy := Lib.hid hy0
  have HA := Lib.hid ha
  have HS := Lib.hid hs
  have HI := Lib.hid hi
  clear hy0 hl ha hs hi p1 p2
  go_enter Tryz.func38, Tryz.ntmps38
  go_wp2_with fail
  refine (rows_any h l _ _ HL.out hh HA.out HS.out).mono ?_
  rintro e w1 ⟨o, us, rfl, ho, h2, hb⟩
  obtain ⟨g, c, rfl, _, hgl⟩ := World.ownsRow.form ho (by omega)
  have HB := Lib.hid hb
  have HO := Lib.hid ho
  have H2 := Lib.hid h2
  have ke := fun W => Lib.run_eql_slice_nil (P := Tryz.prog) W 144 87 (some ⟨g, 0, none⟩) (h + 1) c 0 0 Tryz.underlying144
  have hcap : h ≤ c := by obtain ⟨_, hx | ⟨_, _, _, hv, _, _, hle, _⟩⟩ := ho
                          · exact absurd hx.1 (by simp)
                          · injection hv with _ _ hv; omega
  clear ho h2 hb
  go_wp2_with fail
  clear ke
  go_loopw [1, 7, 30] (fun ii o k wr => ∃ m : Nat, m ≤ h ∧ k = .int .i64 m ∧ ii = .int .i64 (i / 2 ^ m : Nat) ∧ Hid (wr.ownsRow w1.heap.size 9 1 o m (((pathR h l i).take m).map Value.string)) ∧ Hid (Below w1.heap.size w1 wr)) (fun _ _ k _ => h - (intOf k).toNat)
  case atStart => exact ⟨0, by omega, rfl, by rw [Nat.pow_zero, Nat.div_one], World.ownsRow_nil _ _ _ _, Below.refl _ _⟩
  case round =>
    obtain ⟨m, hm, rfl, rfl, HN, HBr⟩ := hrel
    obtain ⟨An, cn, rfl⟩ := own_form HN.out
    have hzr := HBr.out.size
    by_cases hmh : m < h
    · obtain ⟨A', c', hc1, hs1⟩ := row_at HO.out H2.out m (by omega)
      have hrl := aboveN_length h m l (by omega) HL.out
      have hlt := half_lt HI.out hmh
      have hp16 : 2 ^ (h - m) ≤ 16 := (pow_le16 (h - m) (by omega)).2
      have hm2 := mate_lt (i := i / 2 ^ m) (h := h - m - 1) (by rw [show h - m - 1 + 1 = h - m by omega]; exact hlt)
      rw [show h - m - 1 + 1 = h - m by omega] at hm2
      have hx1 := xor1 (i / 2 ^ m) (by omega)
      have hhn := Lib.hid (half_next i m)
      have HT := Lib.hid (path_next h m l i hmh)
      obtain ⟨g2, rfl, hg2, _, hc2⟩ := hs1.cell (i := mate (i / 2 ^ m)) (by omega)
      have e0 : (aboveN m l).getD (mate (i / 2 ^ m)) ByteArray.empty = (aboveN m l)[mate (i / 2 ^ m)]'(by omega) := by rw [List.getD_eq_getElem?_getD, List.getElem?_eq_getElem (by omega)]; rfl
      rw [← e0] at hc2
      generalize (aboveN m l).getD (mate (i / 2 ^ m)) ByteArray.empty = y at hc2 HT
      have hc1' : wr.cell? ⟨g, m, none⟩ = some (.slice (some ⟨g2, 0, none⟩) (aboveN m l).length c') := (HBr.out.cell (p := ⟨g, m, none⟩) hgl).trans hc1
      have hc2' : wr.cell? ⟨g2, mate (i / 2 ^ m), none⟩ = some (.string y) := (HBr.out.cell (p := ⟨g2, mate (i / 2 ^ m), none⟩) hg2).trans hc2
      have hbn : mate (i / 2 ^ m) < (aboveN m l).length := by omega
      clear hrl hm2 hp16 e0 hs1 hc1 hc2
      generalize i / 2 ^ m = ik at hx1 hlt hc2' hbn hhn
      generalize mate ik = mk at hx1 hc2' hbn
      generalize (aboveN m l).length = rl at hc1' hbn
      have hbi : (mk : Int) < rl := by omega
      have hb0 : (0 : Int) ≤ mk := by omega
      go_wp2_with (first | (at_builtin; go_must (refine wpList_append_own _ rfl (.tmp 34) (.tmp 40) _ rfl w1.heap.size 9 j0 _ 1 16 Tryz.underlying87 hj Hy.out hy1 hy2 rfl (by decide) _ m _ rfl (HN.out.alloc _) ⟨wr.heap.size, 0, none⟩ 1 1 [.string y] rfl rfl (news_alloc _ _ _ _ _ rfl rfl) (one_str _) (by simp only [maxLen]; omega) (by omega) (by simp; omega) ?_); intro v' w2 hown1 hg1 _))
      obtain ⟨A3, c3, rfl⟩ := own_form hown1
      go_roundw
      case rel =>
        refine ⟨m + 1, by omega, by go_num, congrArg (Value.int .i64) hhn.out, ?_, (HBr.out.alloc hzr _).grown hg1 (by simp; omega) (fun r hr => (HN.out.lt r hr).1)⟩
        show World.ownsRow _ _ _ _ _ _ _
        rw [HT.out]
        exact hown1
      case measure => simp [intOf]; omega
    · obtain rfl : m = h := by omega
      have HF : Hid (SR wr (.slice An m cn) (pathR m l i)) := by
        have h1 : wr.ownsRow w1.heap.size 9 1 (.slice An m cn) m (((pathR m l i).take m).map Value.string) := HN.out
        rw [List.take_of_length_le (by rw [pathR_length]; exact Nat.le_refl _)] at h1
        show World.ownsRow _ _ _ _ _ _ _
        rw [pathR_length]
        exact World.ownsRow.mono (base' := 0) h1 (by omega)
      go_wp2_with fail
      go_ret2
      exact ⟨_, rfl, HF.out, HB.out.trans (HBr.out.mono HB.out.size)⟩
def upPre (leaf : ByteArray) (i : Nat) (p : List ByteArray) (k : Nat) : ByteArray := upR leaf i (p.take k)
theorem upPre_next (leaf : ByteArray) (i : Nat) (p : List ByteArray) (k : Nat) (hk : k < p.length) : upPre leaf i p (k + 1) = if (i / 2 ^ k) % 2 = 0 then nodeB (upPre leaf i p k) p[k] else nodeB p[k] (upPre leaf i p k) := by
  unfold upPre
  rw [List.take_succ_eq_append_getElem hk, upR_snoc, List.length_take, Nat.min_eq_left (by omega)]
theorem upPre_size (leaf : ByteArray) (i : Nat) (p : List ByteArray) (hl : leaf.size = 16) : ∀ k, k ≤ p.length → (upPre leaf i p k).size = 16
  | 0, _ => hl
  | k + 1, hk => by
    rw [upPre_next leaf i p k (by omega)]
    split <;> exact tagB_size _ _
set_option maxRecDepth 100000 in
set_option maxHeartbeats 1000000 in
theorem mup_any (leaf : ByteArray) (i : Nat) (v : Value) (p : List ByteArray) (w : World) (hleaf : leaf.size = 16) (hp : p.length ≤ 4) (hi : i < 2 ^ p.length) (ha : ∀ x ∈ p, x.size = 16) (hs : SR w v p) :
    Calls Tryz.prog 119 #[.string leaf, .int .i64 i, v] w fun e w' => e = .returned (.tuple #[.string (topB p.length (upR leaf i p)), .int .i64 0]) ∧ Below w.heap.size w w' := by
  obtain ⟨Al, cl, rfl⟩ := hs.form
  obtain ⟨p1, p2⟩ := pow_le16 p.length hp
  have g1 : decide ((4 : Int) < p.length) = false := decide_eq_false (by omega)
  have g2 : decide ((i : Int) < 0) = false := decide_eq_false (by omega)
  have gw : wrap64 ((2 : Int) ^ p.length) = ((2 ^ p.length : Nat) : Int) := by
    rw [show ((2 : Int) ^ p.length) = ((2 ^ p.length : Nat) : Int) by simp]
    exact IntWalk.wrap64_in _ ⟨by omega, by omega⟩
  have g3 : decide (wrap64 ((2 : Int) ^ p.length) ≤ (i : Int)) = false := by rw [gw]; exact decide_eq_false (by omega)
  clear gw
  have HI := Lib.hid hi
  have HA := Lib.hid ha
  have HS := Lib.hid hs
  have HLF := Lib.hid hleaf
  have HP2 := Lib.hid p2
  clear hi ha hs p2 p1 hleaf
  go_enter Tryz.func119, Tryz.ntmps119
  go_wp2_with fail
  refine (odd_no leaf _ HLF.out).mono ?_
  rintro e w1 ⟨rfl, rfl⟩
  go_wp2_with fail
  refine (hasOdd_any _ p _ HS.out HA.out (by omega)).mono ?_
  rintro e w1 ⟨rfl, rfl⟩
  go_wp2_with fail
  go_loopw [1, 8, 36] (fun ii x k wr => ∃ m : Nat, m ≤ p.length ∧ k = .int .i64 m ∧ ii = .int .i64 (i / 2 ^ m : Nat) ∧ x = .string (upPre leaf i p m) ∧ Hid (Below w.heap.size w wr)) (fun _ _ k _ => p.length - (intOf k).toNat)
  case atStart => exact ⟨0, by omega, rfl, by rw [Nat.pow_zero, Nat.div_one], rfl, Below.refl _ _⟩
  case round =>
    obtain ⟨m, hm, rfl, rfl, rfl, HB⟩ := hrel
    have hz := upPre_size leaf i p HLF.out m hm
    have hzr := HB.out.size
    by_cases hmp : m < p.length
    · have HSr := Lib.hid ((KS.of_below HB.out (Nat.le_refl _)).sr HS.out)
      obtain ⟨g, rfl, _, _, hc⟩ := HSr.out.cell hmp
      have hy := HA.out _ (List.getElem_mem hmp)
      have HN := Lib.hid (upPre_next leaf i p m hmp)
      have hlt := half_lt HI.out hmp
      have hp16 : 2 ^ (p.length - m) ≤ 16 := (pow_le16 (p.length - m) (by omega)).2
      have ha1 := and1 (i / 2 ^ m) (by omega)
      have hhn := Lib.hid (half_next i m)
      generalize p[m] = y at hc hy HN
      generalize upPre leaf i p m = x at hz HN
      have hxz : x.size ≤ 1000000 := by omega
      have hyz : y.size ≤ 1000000 := by omega
      clear hz hy
      by_cases hev : (i / 2 ^ m) % 2 = 0
      · rw [if_pos hev] at HN
        rw [hev] at ha1
        have ha2 : (bits .and .i64 ((i / 2 ^ m : Nat) : Int) 1 == 0) = true := by rw [ha1]; rfl
        clear ha1 hev hlt hp16
        generalize i / 2 ^ m = ik at ha2 hhn
        go_wp2_with fail
        refine (node_any x y _ hxz hyz).mono ?_
        rintro e w2 ⟨rfl, hb2⟩
        go_wp2_with fail
        go_roundw
        case rel => exact ⟨m + 1, by omega, by go_num, congrArg (Value.int .i64) hhn.out, by rw [HN.out], HB.out.trans (hb2.mono hzr)⟩
        case measure => simp [intOf]; omega
      · rw [if_neg hev] at HN
        have hev1 : (i / 2 ^ m) % 2 = 1 := by omega
        rw [hev1] at ha1
        have ha2 : (bits .and .i64 ((i / 2 ^ m : Nat) : Int) 1 == 0) = false := by rw [ha1]; rfl
        clear ha1 hev hev1 hlt hp16
        generalize i / 2 ^ m = ik at ha2 hhn
        go_wp2_with fail
        refine (node_any y x _ hyz hxz).mono ?_
        rintro e w2 ⟨rfl, hb2⟩
        go_wp2_with fail
        go_roundw
        case rel => exact ⟨m + 1, by omega, by go_num, congrArg (Value.int .i64) hhn.out, by rw [HN.out], HB.out.trans (hb2.mono hzr)⟩
        case measure => simp [intOf]; omega
    · obtain rfl : m = p.length := by omega
      have HF : Hid (upPre leaf i p p.length = upR leaf i p) := by show _ = _; rw [upPre, List.take_length]
      have hxz : (upPre leaf i p p.length).size ≤ 1000000 := by omega
      clear hz
      generalize upPre leaf i p p.length = x at HF hxz
      go_wp2_with fail
      refine (topped_any p.length x _ (by omega) hxz).mono ?_
      rintro e w2 ⟨rfl, hb2⟩
      go_wp2_with fail
      go_ret2
      exact ⟨by rw [← HF.out]; rfl, HB.out.trans (hb2.mono hzr)⟩
end Go.Proofs.YtdoebmikjgmnaaaGreat
namespace Go.Proofs.YtdoebmikjgmnaaaGreat
open Go.RowKit
def keyC (cb : Nat) (seed : ByteArray) (vl : Value) (root : ByteArray) : Array Value := #[.pointer (some ⟨cb, 0, none⟩), .string seed, vl, .string root]
/-- a key in memory: its block, its counter's -/
def KeyAt (w : World) (kb cb : Nat) (seed : ByteArray) (h next : Nat) : Prop :=
  ∃ vl, Blk w kb 89 (keyC cb seed vl (rootB seed h)) ∧ Blk w cb 86 #[.int .i64 next, .int .i64 (2 ^ h : Nat)] ∧ SR w vl (leavesB seed (2 ^ h))
theorem leavesB_next (seed : ByteArray) (m : Nat) : (leavesB seed (m + 1)).map Value.string = (leavesB seed m).map Value.string ++ [.string (pubB (seedB seed m))] := by
  simp [leavesB, List.range_succ]
theorem seedB_size (seed : ByteArray) (i : Nat) : (seedB seed i).size = 16 := tagB_size _ _
set_option maxRecDepth 100000 in
set_option maxHeartbeats 2000000 in
theorem mnew_any (seed : ByteArray) (h : Nat) (w : World) (hh : h ≤ 4) (hs : seed.size ≤ 1000000) :
    Calls Tryz.prog 8 #[.string seed, .int .i64 h] w fun e w' => ∃ kb cb, e = .returned (.tuple #[.pointer (some ⟨kb, 0, none⟩), .int .i64 0]) ∧ w.heap.size ≤ kb ∧ w.heap.size ≤ cb ∧ KeyAt w' kb cb seed h 0 ∧ Below w.heap.size w w' := by
  obtain ⟨p1, p2⟩ := pow_le16 h hh
  obtain ⟨N, hN⟩ : ∃ N, N = 2 ^ h := ⟨_, rfl⟩
  have gw : wrap64 ((2 : Int) ^ h) = (N : Int) := by
    rw [show ((2 : Int) ^ h) = ((2 ^ h : Nat) : Int) by simp, hN]
    exact IntWalk.wrap64_in _ ⟨by omega, by omega⟩
  have hN1 : 1 ≤ N := by omega
  have hN2 : N ≤ 16 := by omega
  have g1 : decide ((4 : Int) < h) = false := decide_eq_false (by omega)
  have g2 : decide ((h : Int) < 0) = false := decide_eq_false (by omega)
  have HN := Lib.hid hN
  clear hN p1 p2
  obtain ⟨j0, hj, hy0, hy1, hy2⟩ := info_parts Tryz.infoStr
  have Hy := Lib.hid hy0
  clear hy0
  go_enter Tryz.func8, Tryz.ntmps8
  go_wp2_with fail
  have HK0 : Hid (Blk ((w.alloc (.cells #[.int .i64 0, .int .i64 N] 86)).alloc (.cells (keyC w.heap.size seed (.slice none 0 0) ⟨#[]⟩) 89)) (w.heap.size + 1) 89 (keyC w.heap.size seed (.slice none 0 0) ⟨#[]⟩)) := by
    have := Blk.new (w.alloc (.cells #[.int .i64 0, .int .i64 N] 86)) 89 (keyC w.heap.size seed (.slice none 0 0) ⟨#[]⟩)
    rwa [World.size_alloc] at this
  have HC0 : Hid (Blk ((w.alloc (.cells #[.int .i64 0, .int .i64 N] 86)).alloc (.cells (keyC w.heap.size seed (.slice none 0 0) ⟨#[]⟩) 89)) w.heap.size 86 #[.int .i64 0, .int .i64 N]) := (Blk.new _ _ _).alloc _
  have HB0 : Hid (Below w.heap.size w ((w.alloc (.cells #[.int .i64 0, .int .i64 N] 86)).alloc (.cells (keyC w.heap.size seed (.slice none 0 0) ⟨#[]⟩) 89))) := ((Below.refl _ _).alloc (Nat.le_refl _) _).alloc (by simp) _
  have hz0 : ((w.alloc (.cells #[.int .i64 0, .int .i64 N] 86)).alloc (.cells (keyC w.heap.size seed (.slice none 0 0) ⟨#[]⟩) 89)).heap.size = w.heap.size + 2 := by simp
  obtain ⟨W0, hW0⟩ : ∃ W0, (w.alloc (.cells #[.int .i64 0, .int .i64 N] 86)).alloc (.cells (keyC w.heap.size seed (.slice none 0 0) ⟨#[]⟩) 89) = W0 := ⟨_, rfl⟩
  rw [hW0] at HK0 HC0 HB0 hz0
  change Code.wp _ _ _ _ ((w.alloc (.cells #[.int .i64 0, .int .i64 N] 86)).alloc (.cells (keyC w.heap.size seed (.slice none 0 0) ⟨#[]⟩) 89))
  rw [hW0]
  clear hW0 gw
  have hz0' : w.heap.size + 2 ≤ W0.heap.size := by omega
  clear hz0
  go_loopw [28] (fun i wr => ∃ (m : Nat) (vl : Value), m ≤ N ∧ i = .int .i64 m ∧ Hid (Blk wr (w.heap.size + 1) 89 (keyC w.heap.size seed vl ⟨#[]⟩)) ∧ Hid (Blk wr w.heap.size 86 #[.int .i64 0, .int .i64 N]) ∧ Hid (wr.ownsRow W0.heap.size 9 1 vl m ((leavesB seed m).map Value.string)) ∧ Hid (Below w.heap.size w wr) ∧ W0.heap.size ≤ wr.heap.size) (fun i _ => N - (intOf i).toNat)
  case atStart => exact ⟨0, .slice none 0 0, by omega, rfl, HK0, HC0, World.ownsRow_nil _ _ _ _, HB0, Nat.le_refl _⟩
  case round =>
    obtain ⟨m, vl, hm, rfl, HK, HC, HO, HB, hzr⟩ := hrel
    obtain ⟨An, cn, rfl⟩ := own_form HO.out
    have ck : wr.cell? ⟨w.heap.size + 1, 2, none⟩ = some (.slice An m cn) := HK.out.cell 2
    have fk : wr.frozen? ⟨w.heap.size + 1, 2, none⟩ = false := HK.out.frozen 2
    by_cases hmN : m < N
    · have hm256 : m < 256 := by omega
      have HSZ : Hid ((seedB seed m).size ≤ 1000000) := by show _ ≤ _; rw [seedB_size]; omega
      have HT := Lib.hid (leavesB_next seed m)
      have hkl : w.heap.size + 1 < wr.heap.size := by omega
      have tok1 : True := trivial
      go_wp2_with fail
      go_region_law (first
        | (go_simp; go_at_call 30; refine (seeded_any seed m _ hm256 hs).mono ?_; rintro e wa ⟨rfl, hba⟩; have HBA : Hid (Below wr.heap.size wr wa) := ((Below.refl wr.heap.size wr).drew).trans hba; have ca : wa.cell? ⟨w.heap.size + 1, 2, none⟩ = some (.slice An m cn) := (HBA.out.cell (p := ⟨w.heap.size + 1, 2, none⟩) hkl).trans ck; clear hba)
        | (go_simp; go_at_call 29; refine (public_any (seedB seed m) _ HSZ.out).mono ?_; rintro e wb ⟨rfl, hbb⟩; have HBB : Hid (Below wr.heap.size wr wb) := HBA.out.trans (hbb.mono HBA.out.size); have cb' : wb.cell? ⟨w.heap.size + 1, 2, none⟩ = some (.slice An m cn) := (HBB.out.cell (p := ⟨w.heap.size + 1, 2, none⟩) hkl).trans ck; have hzb := HBB.out.size; have cba : (wb.alloc (.cells #[.string (pubB (seedB seed m))] 9)).cell? ⟨w.heap.size + 1, 2, none⟩ = some (.slice An m cn) := (World.cell?_alloc_lt wb _ ⟨w.heap.size + 1, 2, none⟩ (Nat.lt_of_lt_of_le hkl hzb)).trans cb'; have HOB : Hid (wb.ownsRow W0.heap.size 9 1 (.slice An m cn) m ((leavesB seed m).map Value.string)) := Ch.owns (Ch.of_below HBB.out []) HO.out (by simp); clear hbb)
        | (refine step_append_lies _ (by rfl) (.tmp 35) (.tmp 40) 87 (by rfl) W0.heap.size 9 j0 _ 1 16 Tryz.underlying87 hj Hy.out hy1 hy2 rfl (by omega) (.slice An m cn) m _ (by rfl) (HOB.out.alloc _) ⟨wb.heap.size, 0, none⟩ 1 1 [.string (pubB (seedB seed m))] (by rfl) (by rfl) (World.news_of_block (cs := #[.string (pubB (seedB seed m))]) (t := 9) (fr := (0, 0)) (heap_alloc_new wb _)) (one_str _) (by omega) (by simp only [maxLen]; omega) (by omega) (by simp; omega) (wb.heap.size + 1) (by simp) ?_; intro gg cap w4 hown4 hgrow hat hlt4; have HG4 := Lib.hid hgrow; have HO4 := Lib.hid hown4; have hne4 : some (w.heap.size + 1) ≠ (Value.slice An m cn).ownBlock := (fun e => by have := (HOB.out.lt _ e.symm).1; omega); have hK4 : Blk w4 (w.heap.size + 1) 89 (keyC w.heap.size seed (.slice An m cn) ⟨#[]⟩) := ((HK.out.bel HBB.out).alloc _).grown hgrow hne4; have c4 : w4.cell? ⟨w.heap.size + 1, 2, none⟩ = some (.slice An m cn) := hK4.cell 2; have f4 : w4.frozen? ⟨w.heap.size + 1, 2, none⟩ = false := hK4.frozen 2; have HK4 := Lib.hid hK4; clear hown4 hgrow hK4))
      all_goals
        go_wp2_with fail
        go_roundw
        case rel =>
          have hzw := HB.out.size
          have hnC : some w.heap.size ≠ (Value.slice An m cn).ownBlock := fun e => by have := (HOB.out.lt _ e.symm).1; omega
          refine ⟨m + 1, .slice (some ⟨gg, 0, none⟩) (m + 1) cap, by omega, by go_num, HK4.out.set_ 2 _, (((HC.out.bel HBB.out).alloc _).grown HG4.out hnC).far (by simp) _, ?_, (((HB.out.trans (HBB.out.mono hzw)).alloc (by omega) _).grown HG4.out (by simp; omega) (fun r e => by have := (HOB.out.lt r e).1; omega)).setCell (by simp) _, by have := HG4.out.size; simp at this ⊢; omega⟩
          show World.ownsRow _ _ _ _ _ _ _
          rw [HT.out]
          exact Ch.owns (S := [w.heap.size + 1]) (Ch.set_ (by simp) _ _ _) HO4.out (fun b e hm' => by simp at hm'; subst hm'; exact HK4.out.ne_own HO4.out (by decide) e.symm)
        case measure => simp [intOf]; omega
    · obtain rfl : m = N := by omega
      have HSR : Hid (SR wr (.slice An m cn) (leavesB seed m)) := by
        show World.ownsRow _ _ _ _ _ _ _
        rw [leavesB_length]
        exact World.ownsRow.mono (base' := 0) (show wr.ownsRow W0.heap.size 9 1 (.slice An m cn) m ((leavesB seed m).map Value.string) from HO.out) (by omega)
      have HRB : Hid (topB h (topR h (leavesB seed m)) = rootB seed h) := by show _ = _; rw [rootB, HN.out]
      have hkl : w.heap.size + 1 < wr.heap.size := by omega
      go_wp2_with fail
      refine (root_any h (leavesB seed m) _ _ (by rw [leavesB_length, HN.out]) hh (leavesB_all seed m) HSR.out).mono ?_
      rintro e w5 ⟨rfl, hb5⟩
      have HK5 : Hid (Blk w5 (w.heap.size + 1) 89 (keyC w.heap.size seed (.slice An m cn) ⟨#[]⟩)) := HK.out.bel hb5
      have c3 : w5.cell? ⟨w.heap.size + 1, 3, none⟩ = some (.string ⟨#[]⟩) := HK5.out.cell 3
      have f3 : w5.frozen? ⟨w.heap.size + 1, 3, none⟩ = false := HK5.out.frozen 3
      have HC5 := Lib.hid (HC.out.bel hb5)
      have HS5 := Lib.hid ((KS.of_below hb5 (Nat.le_refl _)).sr HSR.out)
      have HB5 := Lib.hid (HB.out.trans (hb5.mono HB.out.size))
      clear hb5
      generalize topB h (topR h (leavesB seed m)) = rt at HRB ⊢
      go_wp2_with fail
      go_ret2
      refine ⟨w.heap.size + 1, w.heap.size, rfl, by omega, Nat.le_refl _, ⟨.slice An m cn, ?_, ?_, ?_⟩, HB5.out.setCell (by simp) _⟩
      · rw [← HRB.out]
        exact HK5.out.set_ 3 _
      · rw [← HN.out]
        exact HC5.out.far (by simp) _
      · rw [← HN.out]
        refine (KS.of_ch (B := 0) (S := [w.heap.size + 1]) (Ch.set_ (by simp) _ _ _) (Nat.zero_le _) (fun g hg => ?_)).sr HS5.out
        simp at hg; subst hg
        refine ⟨Nat.zero_le _, fun cs fr hh' => ?_⟩
        have := HK5.out
        unfold Blk at this
        rw [this] at hh'
        injection hh' with hh'
        injection hh' with _ hh'
        exact absurd hh' (by decide)
end Go.Proofs.YtdoebmikjgmnaaaGreat
namespace Go.Proofs.YtdoebmikjgmnaaaGreat
open Go.RowKit
theorem KeyAt.ch {S : List Nat} {w w' : World} {kb cb : Nat} {seed : ByteArray} {h next : Nat} (hk : KeyAt w kb cb seed h next) (hc : Ch S w w') (h1 : kb ∉ S) (h2 : cb ∉ S) (h3 : ∀ g ∈ S, ∀ cs fr, w.heap[g]? ≠ some (Obj.cells cs 9 fr)) : KeyAt w' kb cb seed h next := by
  obtain ⟨vl, k1, k2, k3⟩ := hk
  exact ⟨vl, k1.ch hc h1, k2.ch hc h2, (KS.of_ch (B := 0) hc (Nat.zero_le _) (fun g hg => ⟨Nat.zero_le _, h3 g hg⟩)).sr k3⟩
theorem KeyAt.bel {w w' : World} {kb cb : Nat} {seed : ByteArray} {h next : Nat} (hk : KeyAt w kb cb seed h next) (hb : Below w.heap.size w w') : KeyAt w' kb cb seed h next :=
  hk.ch (Ch.of_below hb []) (by simp) (by simp) (by simp)
theorem kroot_any (kb cb : Nat) (seed : ByteArray) (h next : Nat) (w : World) (hk : KeyAt w kb cb seed h next) :
    Calls Tryz.prog 10 #[.pointer (some ⟨kb, 0, none⟩)] w fun e w' => e = .returned (.string (rootB seed h)) ∧ w = w' := by
  obtain ⟨vl, k1, k2, k3⟩ := hk
  have c3 : w.cell? ⟨kb, 3, none⟩ = some (.string (rootB seed h)) := k1.cell 3
  clear k1 k2 k3
  go_enter Tryz.func10, Tryz.ntmps10
  go_wp2
  go_ret
  exact ⟨rfl, rfl⟩
set_option maxRecDepth 100000 in
set_option maxHeartbeats 1000000 in
theorem ksign_used (kb cb : Nat) (seed msg : ByteArray) (h i : Nat) (w : World) (hh : h ≤ 4) (hi : 2 ^ h ≤ i) (hi2 : i ≤ 1000) (hk : KeyAt w kb cb seed h i) :
    Calls Tryz.prog 11 #[.pointer (some ⟨kb, 0, none⟩), .string msg] w fun e w' => e = .returned (.tuple #[.string ByteArray.empty, .int .i64 14]) ∧ w = w' := by
  obtain ⟨vl, k1, k2, k3⟩ := hk
  obtain ⟨p1, p2⟩ := pow_le16 h hh
  have c0 : w.cell? ⟨cb, 0, none⟩ = some (.int .i64 i) := k2.cell 0
  have c1 : w.cell? ⟨cb, 1, none⟩ = some (.int .i64 (2 ^ h : Nat)) := k2.cell 1
  have d0 : w.cell? ⟨kb, 0, none⟩ = some (.pointer (some ⟨cb, 0, none⟩)) := k1.cell 0
  clear k1 k2 k3
  generalize 2 ^ h = N at c1 p1 p2 hi
  have g1 : decide ((N : Int) ≤ i) = true := decide_eq_true (by omega)
  go_enter Tryz.func11, Tryz.ntmps11
  go_wp2
  go_ret2
  exact ⟨rfl, rfl⟩
set_option maxRecDepth 100000 in
set_option maxHeartbeats 2000000 in
theorem ksign_ok (kb cb : Nat) (seed msg : ByteArray) (h i : Nat) (w : World) (hh : h ≤ 4) (hi : i < 2 ^ h) (hs : seed.size ≤ 1000000) (hm : msg.size ≤ 900000) (hk : KeyAt w kb cb seed h i) :
    Calls Tryz.prog 11 #[.pointer (some ⟨kb, 0, none⟩), .string msg] w fun e w' => e = .returned (.tuple #[.string (signB seed h i msg), .int .i64 0]) ∧ KeyAt w' kb cb seed h (i + 1) ∧ Ch [cb] w w' := by
  obtain ⟨vl, k1, k2, k3⟩ := hk
  obtain ⟨p1, p2⟩ := pow_le16 h hh
  have c0 : w.cell? ⟨cb, 0, none⟩ = some (.int .i64 i) := k2.cell 0
  have f0 : w.frozen? ⟨cb, 0, none⟩ = false := k2.frozen 0
  have c1 : w.cell? ⟨cb, 1, none⟩ = some (.int .i64 (2 ^ h : Nat)) := k2.cell 1
  have d0 : w.cell? ⟨kb, 0, none⟩ = some (.pointer (some ⟨cb, 0, none⟩)) := k1.cell 0
  have hne : kb ≠ cb := k1.ne_ k2 (by decide)
  have HK1 := Lib.hid k1
  have HK2 := Lib.hid k2
  have HK3 := Lib.hid k3
  have HI := Lib.hid hi
  have hi16 : i < 16 := by omega
  have HM : Hid ((aboutB (rootB seed h) i msg).size ≤ 1000000) := by show _ ≤ _; rw [aboutB, ByteArray.size_append, ByteArray.size_append, rootB_size, oneB_size]; omega
  have hrz : (rootB seed h).size ≤ 1000000 := by rw [rootB_size]; omega
  have HSD : Hid ((seedB seed i).size ≤ 1000000) := by show _ ≤ _; rw [seedB_size]; omega
  generalize hN : 2 ^ h = N at c1 p1 p2 hi
  have HN := Lib.hid hN
  have g1 : decide ((N : Int) ≤ i) = false := decide_eq_false (by omega)
  clear hN k1 k2 k3
  go_enter Tryz.func11, Tryz.ntmps11
  go_wp2_with fail
  have HW1 : Hid (Ch [cb] w (w.setCell ⟨cb, 0, none⟩ (.int .i64 ((i : Int) + 1)))) := Ch.set_ (by simp) _ _ _
  have HK1a : Hid (Blk (w.setCell ⟨cb, 0, none⟩ (.int .i64 ((i : Int) + 1))) kb 89 (keyC cb seed vl (rootB seed h))) := HK1.out.far hne _
  have HK2a : Hid (Blk (w.setCell ⟨cb, 0, none⟩ (.int .i64 ((i : Int) + 1))) cb 86 #[.int .i64 ((i : Int) + 1), .int .i64 N]) := by rw [← HN.out]; exact HK2.out.set_ 0 _
  have HKS : Hid (KS 0 w (w.setCell ⟨cb, 0, none⟩ (.int .i64 ((i : Int) + 1)))) := KS.of_ch (B := 0) HW1.out (Nat.zero_le _) (fun g hg => by
    simp at hg; subst hg
    refine ⟨Nat.zero_le _, fun cs fr hh' => ?_⟩
    have := HK2.out
    unfold Blk at this
    rw [this] at hh'
    injection hh' with hh'
    injection hh' with _ hh'
    exact absurd hh' (by decide))
  generalize w.setCell ⟨cb, 0, none⟩ (.int .i64 ((i : Int) + 1)) = W1 at HW1 HK1a HK2a HKS ⊢
  have HS1 := Lib.hid (HKS.out.sr HK3.out)
  have e1 : W1.cell? ⟨kb, 1, none⟩ = some (.string seed) := HK1a.out.cell 1
  have e2 : W1.cell? ⟨kb, 2, none⟩ = some vl := HK1a.out.cell 2
  have e3 : W1.cell? ⟨kb, 3, none⟩ = some (.string (rootB seed h)) := HK1a.out.cell 3
  have hkl := HK1a.out.lt
  have z1 : (oneB i).size ≤ 1 := by rw [oneB_size]; omega
  have z2 : (sigB (seedB seed i) (aboutB (rootB seed h) i msg)).size ≤ 288 := by rw [sigB_size]; omega
  have zz : ¬ 9223372036854775807 < (oneB i).size + (sigB (seedB seed i) (aboutB (rootB seed h) i msg)).size := by omega
  go_region_held3 (fun w' => w'.cell? ⟨kb, 1, none⟩ = some (.string seed) ∧ w'.cell? ⟨kb, 3, none⟩ = some (.string (rootB seed h)))
    (first
      | go_keep
      | (go_split_ands
         refine ⟨?_, ?_⟩
         · (rw [hX.cell hkl]; assumption)
         · (rw [hX.cell hkl]; assumption)))
    ((first
      | (go_at_call 35; refine (one_any i _ (by omega)).mono ?_; rintro e wa ⟨rfl, hb⟩; have hX : Below W1.heap.size W1 wa := ((Below.refl W1.heap.size W1).drew).trans hb; have HA := Lib.hid hX; have hza := hX.size)
      | (go_at_call 30; refine (seeded_any seed i _ (by omega) hs).mono ?_; rintro e wb ⟨rfl, hb⟩; have hX : Below W1.heap.size W1 wb := HA.out.trans (hb.mono hza); have HB := Lib.hid hX; have hzb := hX.size)
      | (go_at_call 37; refine (about_any (rootB seed h) msg i _ (by omega) hrz (by omega)).mono ?_; rintro e wc ⟨rfl, hb⟩; have hX : Below W1.heap.size W1 wc := HB.out.trans (hb.mono hzb); have HC := Lib.hid hX; have hzc := hX.size)
      | (go_at_call 36; refine (wsign_any (seedB seed i) (aboutB (rootB seed h) i msg) _ HSD.out HM.out).mono ?_; rintro e wd ⟨rfl, hb⟩; have hX : Below W1.heap.size W1 wd := HC.out.trans (hb.mono hzc); have HD := Lib.hid hX; have hzd := hX.size)))
  have e2d : wd.cell? ⟨kb, 2, none⟩ = some vl := (HD.out.cell (p := ⟨kb, 2, none⟩) hkl).trans e2
  have HSd := Lib.hid ((KS.of_below HD.out (Nat.le_refl _)).sr HS1.out)
  have HKd := Lib.hid (HK1a.out.bel HD.out)
  have HCd := Lib.hid (HK2a.out.bel HD.out)
  have HBd : Hid (sigB (seedB seed i) (aboutB (rootB seed h) i msg) = sigB (seedB seed i) (aboutB (rootB seed h) i msg)) := rfl
  clear e1 e2 e3 c0 f0 c1 d0
  have zb : (oneB i ++ sigB (seedB seed i) (aboutB (rootB seed h) i msg)).size = 289 := by rw [ByteArray.size_append, oneB_size, sigB_size]
  have HF : Hid (signB seed h i msg = oneB i ++ sigB (seedB seed i) (aboutB (rootB seed h) i msg) ++ joinB (pathR h (leavesB seed (2 ^ h)) i)) := rfl
  generalize oneB i ++ sigB (seedB seed i) (aboutB (rootB seed h) i msg) = b0 at zb HF ⊢
  have HZB := Lib.hid zb
  clear zb zz z1 z2
  have hPA := pathR_all h (leavesB seed (2 ^ h)) i (leavesB_length _ _) HI.out (leavesB_all _ _)
  have HPL := Lib.hid (pathR_length h (leavesB seed (2 ^ h)) i)
  go_wp2_with fail
  refine (path_any h (leavesB seed (2 ^ h)) vl i _ (leavesB_length _ _) hh HI.out (leavesB_all _ _) HSd.out).mono ?_
  rintro e w6 ⟨v', rfl, hs6, hb6⟩
  obtain ⟨A6, c6, rfl⟩ := hs6.form
  have HS6 := Lib.hid hs6
  have HK6 := Lib.hid (HKd.out.bel hb6)
  have HC6 := Lib.hid (HCd.out.bel hb6)
  have HL6 := Lib.hid ((KS.of_below hb6 (Nat.le_refl _)).sr HSd.out)
  have HW6 := Lib.hid ((HW1.out.trans (Ch.of_below HD.out [cb])).trans (Ch.of_below hb6 [cb]))
  have HPA := Lib.hid hPA
  clear hs6 hb6 hPA
  generalize pathR h (leavesB seed (2 ^ h)) i = pl at HF HPL HS6 HPA ⊢
  have hpl : pl.length ≤ 4 := by rw [HPL.out]; exact hh
  go_wp2_with fail
  go_loop [7, 66] (fun s j => ∃ k : Nat, k ≤ pl.length ∧ j = .int .i64 k ∧ s = .string (b0 ++ joinB (pl.take k))) (fun _ j => pl.length - (intOf j).toNat)
  case atStart => exact ⟨0, by omega, rfl, by rw [List.take_zero, joinB, ba_append_empty]⟩
  case round =>
    obtain ⟨k, hk, rfl, rfl⟩ := hrel
    by_cases hkl2 : k < pl.length
    · obtain ⟨g, rfl, _, _, hc⟩ := HS6.out.cell hkl2
      have hx := HPA.out _ (List.getElem_mem hkl2)
      have hsz : (b0 ++ joinB (pl.take k)).size ≤ 1000 := by
        rw [ByteArray.size_append, HZB.out, joinB_size _ (fun x hx => HPA.out x (List.mem_of_mem_take hx)), List.length_take]; omega
      have HT : Hid (b0 ++ joinB (pl.take (k + 1)) = b0 ++ joinB (pl.take k) ++ pl[k]) := by
        show _ = _
        rw [List.take_succ_eq_append_getElem hkl2, joinB_snoc, ba_append_assoc]
      generalize pl[k] = x at hc hx HT
      have hxz : x.size ≤ 1000 := by omega
      clear hx
      generalize b0 ++ joinB (pl.take k) = s at hsz HT
      go_wp2_with fail
      go_round
      case rel => exact ⟨k + 1, by omega, by go_num, by rw [HT.out]⟩
      case measure => simp [intOf]; omega
    · obtain rfl : k = pl.length := by omega
      rw [List.take_length]
      go_wp2_with fail
      go_ret2
      refine ⟨by rw [HF.out]; rfl, ⟨vl, HK6.out, ?_, HL6.out⟩, HW6.out⟩
      rw [HN.out]
      exact HC6.out
end Go.Proofs.YtdoebmikjgmnaaaGreat
