/- channel, of any state: words; capped, paid, Worth, Credit, name. channel.Whole of any state. channel: room, of any state. lottery: New, Shown, Open, room, of any book. lottery: Open, room, of any book; draw.Top, Fair. draw.Top, Fair; lottery's room. -/
import Derived.Outline
import Derived.Test.YtpbcfeghfcodcaaGreatMgNote
import Derived.Test.YtpbcfeghfcodcaaGreatMgNum
import Derived.Test.YtpbcfeghfcodcaaGreatMgSdkC
import Derived.Test.YtpbcfeghfcodcaaGreatMgWor
set_option linter.unusedVariables false
set_option linter.unusedSimpArgs false
namespace Go.Proofs.YtpbcfeghfcodcaaGreat
open Go.RowKit Go.Maps
/-- an output of any kind -/
structure Ou where
  kind : Int
  am : Nat
  key : ByteArray
  gate : ByteArray
  ex : Int
  anchor : ByteArray
  unit : Nat
  tok : Int
  of_ : ByteArray
def Ou.cs (o : Ou) : Array Value := #[.int .i64 o.kind, .int .u64 (o.am : Nat), .string o.key, .string o.gate, .int .i64 o.ex, .string o.anchor, .int .u64 (o.unit : Nat), .int .i64 o.tok, .string o.of_]
/-- an output with its place -/
structure En where
  tx : ByteArray
  out : Int
  o : Ou
def En.cs (e : En) : Array Value := #[.string e.tx, .int .i64 e.out, .int .i64 e.o.kind, .int .u64 (e.o.am : Nat), .string e.o.key, .string e.o.gate, .int .i64 e.o.ex, .string e.o.anchor, .int .u64 (e.o.unit : Nat), .int .i64 e.o.tok, .string e.o.of_]
def En.cl (e : En) : List Value := e.cs.toList
/-- a channel's state -/
structure St where
  lock : En
  A : Option Addr
  tops : List En
  c : Nat
  am : Nat
  sig : ByteArray
  tok : ByteArray
  B : Option Addr
  wins : List Wn
  d : Nat
  tokens : Nat
  faces : Nat
  nominal : Nat
  closed : Bool
def St.cs (s : St) : Array Value := #[.string s.lock.tx, .int .i64 s.lock.out, .int .i64 s.lock.o.kind, .int .u64 (s.lock.o.am : Nat), .string s.lock.o.key, .string s.lock.o.gate, .int .i64 s.lock.o.ex, .string s.lock.o.anchor, .int .u64 (s.lock.o.unit : Nat), .int .i64 s.lock.o.tok, .string s.lock.o.of_,
  .slice s.A s.tops.length s.c, .int .u64 (s.am : Nat), .string s.sig, .string s.tok, .slice s.B s.wins.length s.d, .int .i64 (s.tokens : Nat), .int .u64 (s.faces : Nat), .int .u64 (s.nominal : Nat), .bool s.closed]
theorem oucs_one (o : Ou) : o.cs.all (·.oneCell') = true := by
  rw [Array.all_eq_true']
  intro x hx
  simp only [Ou.cs, List.mem_toArray, List.mem_cons, List.not_mem_nil, or_false] at hx
  rcases hx with rfl | rfl | rfl | rfl | rfl | rfl | rfl | rfl | rfl <;> rfl
theorem encs_one (e : En) : e.cs.all (·.oneCell') = true := by
  rw [Array.all_eq_true']
  intro x hx
  simp only [En.cs, List.mem_toArray, List.mem_cons, List.not_mem_nil, or_false] at hx
  rcases hx with rfl | rfl | rfl | rfl | rfl | rfl | rfl | rfl | rfl | rfl | rfl <;> rfl
theorem stcs_one (s : St) : s.cs.all (·.oneCell') = true := by
  rw [Array.all_eq_true']
  intro x hx
  simp only [St.cs, List.mem_toArray, List.mem_cons, List.not_mem_nil, or_false] at hx
  rcases hx with rfl | rfl | rfl | rfl | rfl | rfl | rfl | rfl | rfl | rfl | rfl | rfl | rfl | rfl | rfl | rfl | rfl | rfl | rfl | rfl <;> rfl
theorem st_ext (s : St) : s.cs.extract 0 (0 + 20) = s.cs := by rw [Array.extract_eq_self_of_le (show s.cs.size ≤ 0 + 20 from Nat.le_refl 20)]
theorem st_le (s : St) : 0 + 20 ≤ s.cs.size := Nat.le_refl 20
theorem en_ext (s : En) : s.cs.extract 0 (0 + 11) = s.cs := by rw [Array.extract_eq_self_of_le (show s.cs.size ≤ 0 + 11 from Nat.le_refl 11)]
theorem stcs_size (s : St) : s.cs.size = 20 := rfl
theorem encs_size (e : En) : e.cs.size = 11 := rfl
theorem st_over (s : St) {cs : Array Value} (h : cs.size = 20) : over cs 0 s.cs.toList = s.cs := (over_full s.cs.toList cs (by rw [h]; rfl)).trans (Array.toArray_toList ..)
theorem en_over (s : En) {cs : Array Value} (h : cs.size = 11) : over cs 0 s.cs.toList = s.cs := (over_full s.cs.toList cs (by rw [h]; rfl)).trans (Array.toArray_toList ..)
def zOu : Ou := ⟨0, 0, ByteArray.empty, ByteArray.empty, 0, ByteArray.empty, 0, 0, ByteArray.empty⟩
def zEn : En := ⟨ByteArray.empty, 0, zOu⟩
def zS : St := ⟨zEn, none, [], 0, 0, ByteArray.empty, ByteArray.empty, none, [], 0, 0, 0, 0, false⟩
/-- what a state's lists lie in -/
structure St.mem (s : St) (w : World) : Prop where
  tops : Sl w w.heap.size 11 En.cl s.A s.tops
  wins : Sl w w.heap.size 10 Wn.cl s.B s.wins
  topsN : s.A = none → s.c = 0
  winsN : s.B = none → s.d = 0
theorem St.mem.bel {s : St} {w w' : World} (h : s.mem w) (hb : Below w.heap.size w w') : s.mem w' := ⟨(h.tops.below hb).more hb.size, (h.wins.below hb).more hb.size, h.topsN, h.winsN⟩
/-- numbers that fit -/
structure St.fit (s : St) : Prop where
  lam : s.lock.o.am < 18446744073709551616
  lunit : s.lock.o.unit < 18446744073709551616
  am : s.am < 18446744073709551616
  tokens : s.tokens ≤ 1000000
  faces : s.faces < 18446744073709551616
  nominal : s.nominal < 18446744073709551616
  tams : ∀ e ∈ s.tops, e.o.am < 18446744073709551616
  tops : s.tops.length ≤ 1000
  wins : s.wins.length ≤ 1000
  tx : s.lock.tx.size ≤ 1000000
/-! numbers -/
def capN (v f : Int) : Int := if f = 0 then v else 18446744073709551615
set_option maxHeartbeats 1000000 in
theorem capped_any (n f : Int) (w : World) : Calls Tryz.prog 39 #[.int .u64 n, .int .i64 f] w fun e w' => e = .returned (.int .u64 (capN n f)) ∧ w' = w := by
  by_cases h : f = 0
  · have d : (f != 0) = false := by simp [h]
    rw [show capN n f = n by unfold capN; rw [if_pos h]]
    clear h
    go_enter Tryz.func39, Tryz.ntmps39
    go_wp2
    go_ret
    exact ⟨rfl, rfl⟩
  · have d : (f != 0) = true := by simp [bne, beq_eq_false_iff_ne.2 h]
    rw [show capN n f = 18446744073709551615 by unfold capN; rw [if_neg h]]
    clear h
    go_enter Tryz.func39, Tryz.ntmps39
    go_wp2
    go_ret
    exact ⟨rfl, rfl⟩
/-- a sum that does not pass the greatest number -/
def capL (l : List Int) : Int := if totI l < 18446744073709551616 then totI l else 18446744073709551615
theorem capL_eq (l : List Int) : capN (totV l) (totE l) = capL l := by
  unfold capN capL totV totE
  by_cases h : totI l < 18446744073709551616
  · rw [if_pos h, if_pos h, if_pos rfl, if_pos h]
  · rw [if_neg h, if_neg h, if_neg (by omega), if_neg h]
theorem totI_ge : ∀ (l : List Int), (∀ x ∈ l, 0 ≤ x) → 0 ≤ totI l
  | [], _ => Int.le_refl 0
  | a :: r, h => by
    have h1 := h a (by simp)
    have h2 := totI_ge r (fun x hx => h x (by simp [hx]))
    show 0 ≤ a + totI r
    omega
theorem capL_bd (l : List Int) (h : ∀ x ∈ l, 0 ≤ x) : 0 ≤ capL l ∧ capL l < 18446744073709551616 := by
  have := totI_ge l h
  unfold capL
  split <;> omega
def tokV (n u : Nat) : Int := if (n : Int) * u < 18446744073709551616 then (n : Int) * u else 18446744073709551615
theorem tokV_eq (n u : Nat) : capN (mulV n u) (mulE n u) = tokV n u := by
  unfold capN tokV mulV mulE
  by_cases h : (n : Int) * u < 18446744073709551616
  · rw [if_pos h, if_pos h, if_pos rfl, if_pos h]
  · rw [if_neg h, if_neg h, if_neg (by omega), if_neg h]
theorem tokV_bd (n u : Nat) : 0 ≤ tokV n u ∧ tokV n u < 18446744073709551616 := by
  have : (0 : Int) ≤ (n : Int) * u := Int.mul_nonneg (by omega) (by omega)
  unfold tokV
  split <;> omega
theorem sl_u64 {w : World} {g : Nat} {t : TypeId} {l : List Int} {cs : Array Value} (h : Blk w g t cs) (hc : cs.toList = l.map (Value.int .u64)) : Sl w w.heap.size 1 u64c (some ⟨g, 0, none⟩) l := fun _ => ⟨g, 0, rfl, h.lt, fun i x hx j u hu => by
  match j, hu with
  | 0, hu =>
    simp [u64c] at hu
    subst hu
    rw [h.cell, ← Array.getElem?_toList, hc, List.getElem?_map]
    simp only [Nat.zero_add, Nat.mul_one, Nat.add_zero, hx]
    rfl
  | j + 1, hu => simp [u64c] at hu⟩
def paidV (s : St) (more : Nat) : Int := capL [(s.am : Int), tokV s.tokens s.lock.o.unit, (more : Int)]
def worthV (s : St) : Int := paidV s s.faces
def creditV (s : St) : Int := paidV s s.nominal
theorem paidV_bd (s : St) (m : Nat) : 0 ≤ paidV s m ∧ paidV s m < 18446744073709551616 := capL_bd _ (by
  intro x hx
  simp only [List.mem_cons, List.not_mem_nil, or_false] at hx
  rcases hx with h | h | h
  · rw [h]; exact Int.natCast_nonneg _
  · rw [h]; exact (tokV_bd s.tokens s.lock.o.unit).1
  · rw [h]; exact Int.natCast_nonneg _)
set_option maxRecDepth 100000 in
set_option maxHeartbeats 1000000 in
theorem spaid_any (s : St) (more : Nat) (w : World) (hf : s.fit) (hm : more < 18446744073709551616) :
    Calls Tryz.prog 38 #[.agg s.cs, .int .u64 (more : Nat)] w fun e w' => e = .returned (.int .u64 (paidV s more)) ∧ Below w.heap.size w w' := by
  have HX := Lib.hid (Blk.new w 35 s.cs)
  have c16 : (w.alloc (.cells s.cs 35)).cell? ⟨w.heap.size, 16, none⟩ = some (.int .i64 s.tokens) := HX.out.cell 16
  have c8 : (w.alloc (.cells s.cs 35)).cell? ⟨w.heap.size, 8, none⟩ = some (.int .u64 s.lock.o.unit) := HX.out.cell 8
  have c12 : (w.alloc (.cells s.cs 35)).cell? ⟨w.heap.size, 12, none⟩ = some (.int .u64 s.am) := HX.out.cell 12
  have HV := fun W => Lib.hid (pvalue_any s.tokens s.lock.o.unit W (by have := hf.tokens; omega) hf.lunit)
  have HTE := Lib.hid (tokV_eq s.tokens s.lock.o.unit)
  have ht := tokV_bd s.tokens s.lock.o.unit
  have ha := hf.am
  show Calls Tryz.prog 38 _ _ fun e w' => e = .returned (.int .u64 (capL [(s.am : Int), tokV s.tokens s.lock.o.unit, (more : Int)])) ∧ _
  generalize tokV s.tokens s.lock.o.unit = tv at HTE ht ⊢
  clear hf
  go_enter Tryz.func38, Tryz.ntmps38
  go_wp2_with fail
  refine (HV _).out.mono ?_
  rintro e w1 ⟨rfl, rfl⟩
  go_wp2_with fail
  refine (capped_any _ _ _).mono ?_
  rintro e w1 ⟨rfl, rfl⟩
  rw [HTE.out]
  go_wp2_with fail
  refine (sum64_any (some ⟨w.heap.size + 1, 0, none⟩) [(s.am : Int), tv, (more : Int)] 3 _ (by simp) (by intro x hx; simp at hx; rcases hx with rfl | rfl | rfl <;> omega) (sl_u64 (Blk.newAt (by simp)) rfl)).mono ?_
  rintro e w1 ⟨rfl, rfl⟩
  go_wp2_with fail
  refine (capped_any _ _ _).mono ?_
  rintro e w1 ⟨rfl, rfl⟩
  rw [capL_eq]
  go_wp2_with fail
  go_ret
  exact ⟨rfl, ((Below.refl _ _).alloc (Nat.le_refl _) _).alloc (by simp) _⟩
set_option maxRecDepth 100000 in
set_option maxHeartbeats 1000000 in
theorem sworth_any (s : St) (w : World) (hf : s.fit) : Calls Tryz.prog 13 #[.agg s.cs] w fun e w' => e = .returned (.int .u64 (worthV s)) ∧ Below w.heap.size w w' := by
  have HX := Lib.hid (Blk.new w 35 s.cs)
  have c17 : (w.alloc (.cells s.cs 35)).cell? ⟨w.heap.size, 17, none⟩ = some (.int .u64 s.faces) := HX.out.cell 17
  have HP := fun W => Lib.hid (spaid_any s s.faces W hf hf.faces)
  have HW : Hid (paidV s s.faces = worthV s) := rfl
  clear hf
  go_enter Tryz.func13, Tryz.ntmps13
  go_wp2_with (refine wpList_load_blk rfl 35 (.tmp 1) rfl w.heap.size 0 20 HX.out s.cs (by rfl) (st_ext s) Tryz.underlying35 infoSta (st_le s) ?_)
  refine (HP _).out.mono ?_
  rintro e w1 ⟨rfl, hb⟩
  rw [HW.out]
  have HB : Hid (Below w.heap.size w w1) := ((Below.refl _ _).alloc (Nat.le_refl _) _).trans (hb.mono (by simp))
  clear hb
  go_wp2_with fail
  go_ret
  exact ⟨rfl, HB.out⟩
set_option maxRecDepth 100000 in
set_option maxHeartbeats 1000000 in
theorem scredit_any (s : St) (w : World) (hf : s.fit) : Calls Tryz.prog 15 #[.agg s.cs] w fun e w' => e = .returned (.int .u64 (creditV s)) ∧ Below w.heap.size w w' := by
  have HX := Lib.hid (Blk.new w 35 s.cs)
  have c18 : (w.alloc (.cells s.cs 35)).cell? ⟨w.heap.size, 18, none⟩ = some (.int .u64 s.nominal) := HX.out.cell 18
  have HP := fun W => Lib.hid (spaid_any s s.nominal W hf hf.nominal)
  have HW : Hid (paidV s s.nominal = creditV s) := rfl
  clear hf
  go_enter Tryz.func15, Tryz.ntmps15
  go_wp2_with (refine wpList_load_blk rfl 35 (.tmp 1) rfl w.heap.size 0 20 HX.out s.cs (by rfl) (st_ext s) Tryz.underlying35 infoSta (st_le s) ?_)
  refine (HP _).out.mono ?_
  rintro e w1 ⟨rfl, hb⟩
  rw [HW.out]
  have HB : Hid (Below w.heap.size w w1) := ((Below.refl _ _).alloc (Nat.le_refl _) _).trans (hb.mono (by simp))
  clear hb
  go_wp2_with fail
  go_ret
  exact ⟨rfl, HB.out⟩
/-! names -/
def nameO (tx : ByteArray) (out : Int) : ByteArray := nameB tx (out % 256).toNat
theorem nameO_size (tx : ByteArray) (out : Int) : (nameO tx out).size = 16 := nameB_size _ _
set_option maxRecDepth 100000 in
set_option maxHeartbeats 1000000 in
theorem cname_gen (tx : ByteArray) (out : Int) (w : World) (hz : tx.size ≤ 1000000) :
    Calls Tryz.prog 28 #[.agg #[.string tx, .int .i64 out]] w fun e w' => e = .returned (.string (nameO tx out)) ∧ Below w.heap.size w w' := by
  obtain ⟨b, hb⟩ : ∃ b : Nat, (out % 256).toNat = b := ⟨_, rfl⟩
  have hw : IntKind.u8.wrap out = (b : Int) := by rw [IntKind.wrap_u8]; omega
  have kc := conv1 (w.alloc (.cells #[.string tx, .int .i64 out] 23)) b
  rw [World.size_alloc] at kc
  have k1 := num1_size
  unfold nameO
  rw [hb]
  clear hb
  go_enter Tryz.func28, Tryz.ntmps28
  go_wp2_with fail
  refine (tag2 ⟨#[108, 111, 99, 107]⟩ tx (strOfNums [(b : Int)]) _ _ ?_ (by decide) hz (by rw [k1]; omega)).mono ?_
  · simp
  rintro e w1 ⟨rfl, hb⟩
  have HB : Hid (Below w.heap.size w w1) := (((Below.refl _ _).alloc (Nat.le_refl _) _).alloc (by simp) _).trans (hb.mono (by simp; omega))
  clear hb
  go_wp2
  go_ret
  exact ⟨rfl, HB.out⟩
def St.name (s : St) : ByteArray := nameO s.lock.tx s.lock.out
set_option maxRecDepth 100000 in
set_option maxHeartbeats 1000000 in
theorem sname_gen (s : St) (w : World) (hf : s.fit) : Calls Tryz.prog 55 #[.agg s.cs] w fun e w' => e = .returned (.string s.name) ∧ Below w.heap.size w w' := by
  have HX := Lib.hid (Blk.new w 35 s.cs)
  have HP := fun W => Lib.hid (cname_gen s.lock.tx s.lock.out W hf.tx)
  have HW : Hid (nameO s.lock.tx s.lock.out = s.name) := rfl
  clear hf
  go_enter Tryz.func55, Tryz.ntmps55
  go_wp2_with (refine wpList_load_blk rfl 23 (.tmp 4) rfl w.heap.size 0 2 HX.out #[.string s.lock.tx, .int .i64 s.lock.out] (by rfl) (by rfl) Tryz.underlying23 infoPnt (by show 2 ≤ 20; omega) ?_)
  refine (HP _).out.mono ?_
  rintro e w1 ⟨rfl, hb⟩
  rw [HW.out]
  have HB : Hid (Below w.heap.size w w1) := ((Below.refl _ _).alloc (Nat.le_refl _) _).trans (hb.mono (by simp))
  clear hb
  go_wp2_with fail
  go_ret
  exact ⟨rfl, HB.out⟩
end Go.Proofs.YtpbcfeghfcodcaaGreat
namespace Go.Proofs.YtpbcfeghfcodcaaGreat
open Go.RowKit Go.Maps
/-- one of a list of entries is read -/
theorem wpList_load_en {ops : Array Oper} {rest : List Oper} {o : Oper} {a : Act} {w : World} {Q : Exit → Act → World → Prop} (hgd : o.guard = none) (x : Operand) (ho : o.op = .load 28 x) (b off : Nat) (hx : a.eval x = .pointer (some ⟨b, off, none⟩)) (y : En)
    (hc : ∀ j u, y.cl[j]? = some u → w.cell? ⟨b, off + j, none⟩ = some u) (h : wpList Tryz.prog ops Q rest (a.put o.dst (.agg y.cs)) w) : wpList Tryz.prog ops Q (o :: rest) a w := by
  refine wpList_load_mid (P := Tryz.prog) hgd 28 x ho b off hx y.cl _ hc Tryz.underlying28 rfl (by rw [infoEnt]; rfl) ?_
  show wpList Tryz.prog ops Q rest (a.put o.dst (.agg y.cs.toList.toArray)) w
  rw [Array.toArray_toList]
  exact h
def zEn0 : Array Value := #[.string ByteArray.empty, .int .i64 0, .int .i64 0, .int .u64 0, .string ByteArray.empty, .string ByteArray.empty, .int .i64 0, .string ByteArray.empty, .int .u64 0, .int .i64 0, .string ByteArray.empty]
def topsI (l : List En) : List Int := l.map fun e => (e.o.am : Int)
def wholeV (s : St) : Int := capL ((s.lock.o.am : Int) :: topsI s.tops)
theorem wholeV_bd (s : St) : 0 ≤ wholeV s ∧ wholeV s < 18446744073709551616 := capL_bd _ (by
  intro x hx
  rcases List.mem_cons.1 hx with rfl | hx
  · omega
  · obtain ⟨e, _, rfl⟩ := List.mem_map.1 hx; omega)
def encA (l : List Int) : List Value := l.map (Value.int .u64)
theorem topsI_snoc (l : List En) (k : Nat) (hk : k < l.length) : topsI (l.take (k + 1)) = topsI (l.take k) ++ [(l[k].o.am : Int)] := by
  unfold topsI
  rw [List.take_succ_eq_append_getElem hk, List.map_append]; rfl
theorem encA_snoc (a : Int) (l : List Int) (b : Int) : encA (a :: (l ++ [b])) = encA (a :: l) ++ [.int .u64 b] := by simp [encA]
set_option maxRecDepth 100000 in
set_option maxHeartbeats 2000000 in
theorem swhole_gen (s : St) (w : World) (hf : s.fit) (hS : Sl w w.heap.size 11 En.cl s.A s.tops) :
    Calls Tryz.prog 14 #[.agg s.cs] w fun e w' => e = .returned (.int .u64 (wholeV s)) ∧ Below w.heap.size w w' := by
  obtain ⟨i0, hi, hz0, hz1, hz2⟩ := info_parts Tryz.infoU64
  have Hhz := Lib.hid hz0
  have HS := Lib.hid hS
  have hlen := hf.tops
  have HX := Lib.hid (Blk.new w 35 s.cs)
  have HA0 : Hid (Below w.heap.size w (w.alloc (.cells s.cs 35))) := (Below.refl _ _).alloc (Nat.le_refl _) _
  have c3 : (w.alloc (.cells s.cs 35)).cell? ⟨w.heap.size, 3, none⟩ = some (.int .u64 s.lock.o.am) := HX.out.cell 3
  have c11 : ∀ o, ((w.alloc (.cells s.cs 35)).alloc o).cell? ⟨w.heap.size, 11, none⟩ = some (.slice s.A s.tops.length s.c) := fun o => (HX.out.alloc o).cell 11
  have HO0 : Hid (((w.alloc (.cells s.cs 35)).alloc (.cells #[.int .u64 (s.lock.o.am : Nat)] 24)).ownsRow w.heap.size 24 1 (.slice (some ⟨w.heap.size + 1, 0, none⟩) 1 1) 1 (encA [(s.lock.o.am : Int)])) := Lib.hid (own_lit (base := w.heap.size) (k := 1) (Blk.newAt (by simp)) (by omega) rfl (by decide))
  have HAB := Lib.hid (hf.tams)
  have hla := hf.lam
  have HSUM := fun A c W h => Lib.hid (sum64_any A ((s.lock.o.am : Int) :: topsI s.tops) c W (by simp [topsI]; omega) (by
    intro x hx
    rcases List.mem_cons.1 hx with rfl | hx
    · omega
    · obtain ⟨e, he, rfl⟩ := List.mem_map.1 hx
      have := HAB.out e he
      omega) h)
  have HWV : Hid (capN (totV ((s.lock.o.am : Int) :: topsI s.tops)) (totE ((s.lock.o.am : Int) :: topsI s.tops)) = wholeV s) := Lib.hid (capL_eq _)
  have HSN := fun k h => Lib.hid (topsI_snoc s.tops k h)
  have HTZ : Hid (((s.lock.o.am : Int) :: topsI s.tops).length = s.tops.length + 1) := Lib.hid (by simp [topsI])
  have HTK : Hid (topsI (s.tops.take s.tops.length) = topsI s.tops) := Lib.hid (by rw [List.take_length])
  obtain ⟨A, hA⟩ : ∃ A, A = s.A := ⟨_, rfl⟩
  rw [← hA] at c11 HS
  clear hz0 hf hS hA
  go_enter Tryz.func14, Tryz.ntmps14
  go_wp2_with fail
  go_loopw [3, 14] (fun v i wr => ∃ (k : Nat) (B : Option Addr) (c : Nat), k ≤ s.tops.length ∧ i = .int .i64 k ∧ v = .slice B (k + 1) c ∧ Hid (wr.ownsRow w.heap.size 24 1 (.slice B (k + 1) c) (k + 1) (encA ((s.lock.o.am : Int) :: topsI (s.tops.take k)))) ∧ Hid (Below w.heap.size w wr)) (fun _ i _ => s.tops.length - (intOf i).toNat)
  case atStart => exact ⟨0, _, _, Nat.zero_le _, rfl, rfl, HO0, HA0.out.alloc HA0.out.size _⟩
  case round =>
    obtain ⟨k, B, cc, hk, rfl, rfl, HO, HB⟩ := hrel
    have hz := HB.out.size
    clear c11 c3 HO0 HA0
    by_cases hlt : k < s.tops.length
    · obtain ⟨ab, off, rfl, hbB, hc⟩ := (HS.out.below HB.out).at_ hlt
      have HSN1 := HSN k hlt
      have HAM := HAB.out _ (List.getElem_mem hlt)
      generalize s.tops[k] = x at hc HSN1 HAM
      generalize topsI (s.tops.take k) = ff at HO HSN1
      have HCC := Lib.hid hc
      clear hc HSN
      go_wp2_with (first
        | (refine wpList_load_en rfl (.tmp 16) rfl ab (off + k * 11) (by rfl) x HCC.out ?_)
        | (refine wpList_store_part rfl 28 (.tmp 5) (.tmp 17) rfl wr.heap.size 0 (cs := zEn0) (Blk.new _ _ _) x.cs x.cs (by rfl) (by rfl) (Nat.le_refl 11) infoEnt (encs_one x) (en_over x rfl) ?_; intro W1 hb1 hc1; have hb := bel_st' hc1; have HOW := Lib.hid (Ch.owns (Ch.of_below hb []) HO.out (by simp)); have g3 : W1.cell? ⟨wr.heap.size, 3, none⟩ = some (.int .u64 x.o.am) := hb1.cell 3; have HBW := Lib.hid (HB.out.trans (hb.mono hz)); have hzw1 : w.heap.size ≤ W1.heap.size := Nat.le_trans hz hb.size; clear hb1 hc1 hb)
        | (at_builtin; go_must (refine wpList_append_own _ rfl (.tmp 18) (.tmp 22) _ rfl w.heap.size 24 i0 _ 1 8 Tryz.underlying85 hi Hhz.out hz1 hz2 rfl (by decide) _ (k + 1) _ rfl (HOW.out.alloc _) ⟨W1.heap.size, 0, none⟩ 1 1 [.int .u64 (x.o.am : Nat)] rfl rfl (news_alloc _ _ _ _ _ rfl rfl) (one_int _) (by simp only [maxLen]; omega) (by omega) (by simp; omega) ?_); intro v' W2 hown1 hg1 hnil1; have HO1 := Lib.hid hown1; have HB2 := Lib.hid ((HBW.out.alloc HBW.out.size _).grown hg1 (HBW.out.alloc HBW.out.size _).size (own_base HOW.out)); clear hown1 hg1 hnil1))
      obtain ⟨B3, c3, rfl⟩ := own_form HO1.out
      go_roundw
      case rel => exact ⟨k + 1, B3, c3, by omega, by go_num, rfl, Lib.hid (by rw [HSN1.out, encA_snoc]; exact HO1.out), HB2⟩
      case measure => simp [intOf]; omega
    · have hkl : k = s.tops.length := by omega
      subst hkl
      rw [HTK.out] at HO
      go_wp2_with fail
      have hsl := HSUM B cc wr (Sl.of_own (base := w.heap.size) (n := s.tops.length + 1) (c := cc) (e := 24) (fun _ => rfl) (by rw [u64_flat, HTZ.out]; exact HO.out))
      rw [HTZ.out] at hsl
      refine hsl.out.mono ?_
      rintro e w6 ⟨rfl, rfl⟩
      go_wp2_with fail
      refine (capped_any _ _ _).mono ?_
      rintro e w6 ⟨rfl, rfl⟩
      rw [HWV.out]
      go_wp2_with fail
      go_ret
      exact ⟨rfl, HB.out⟩
end Go.Proofs.YtpbcfeghfcodcaaGreat
namespace Go.Proofs.YtpbcfeghfcodcaaGreat
open Go.RowKit Go.Maps
def capA (a b : Int) : Int := capN (plusV a b) (plusE a b)
def xroomB (s : St) (r : Nat) : Bool := decide (worthV s < 18446744073709551615) && decide (capA (worthV s) r ≤ wholeV s) && decide ((r : Int) ≤ 18446744073709551615 - worthV s)
theorem int_nat {x : Int} (h : 0 ≤ x) : ∃ n : Nat, x = n := ⟨x.toNat, by omega⟩
set_option maxRecDepth 100000 in
set_option maxHeartbeats 2000000 in
theorem xroom_any (s : St) (r : Nat) (w : World) (hf : s.fit) (hr : r < 18446744073709551616) (hS : s.mem w) :
    Calls Tryz.prog 67 #[.agg s.cs, .int .u64 (r : Nat)] w fun e w' => e = .returned (.bool (xroomB s r)) ∧ Below w.heap.size w w' := by
  have HX := Lib.hid (Blk.new w 35 s.cs)
  have HA0 : Hid (Below w.heap.size w (w.alloc (.cells s.cs 35))) := (Below.refl _ _).alloc (Nat.le_refl _) _
  have HWO := fun W => Lib.hid (sworth_any s W hf)
  have HWH := fun W hW => Lib.hid (swhole_gen s W hf (hS.bel (w' := W) hW).tops)
  have HR : Hid (xroomB s r = (decide (worthV s < 18446744073709551615) && decide (capA (worthV s) r ≤ wholeV s) && decide ((r : Int) ≤ 18446744073709551615 - worthV s))) := rfl
  obtain ⟨wv, hwv⟩ := int_nat (paidV_bd s s.faces).1
  have hwl := (paidV_bd s s.faces).2
  rw [hwv] at hwl
  have hwv' : worthV s = wv := hwv
  rw [hwv'] at HWO HR
  have HAD := fun W => Lib.hid (add_any wv r W (by omega) (by omega) (by omega) (by omega))
  have HCA := fun W => Lib.hid (capped_any (plusV wv r) (plusE wv r) W)
  have HCQ : Hid (capN (plusV wv r) (plusE wv r) = capA wv r) := rfl
  rw [HCQ.out] at HCA
  generalize capA wv r = cp at HCA HR
  generalize wholeV s = wh at HWH HR
  generalize xroomB s r = rb at HR ⊢
  have hwr : IntKind.u64.wrap ((18446744073709551615 : Int) - (wv : Int)) = 18446744073709551615 - wv := by rw [IntKind.wrap_u64]; omega
  clear hf hS hwv hwv' HCQ hr
  go_enter Tryz.func67, Tryz.ntmps67
  go_wp2_with (refine wpList_load_blk rfl 35 (.tmp 2) rfl w.heap.size 0 20 HX.out s.cs (by rfl) (st_ext s) Tryz.underlying35 infoSta (st_le s) ?_)
  refine (HWO _).out.mono ?_
  rintro e w1 ⟨rfl, hb⟩
  replace HX := Lib.hid (HX.out.bel hb)
  replace HA0 := Lib.hid (HA0.out.trans (hb.mono HA0.out.size))
  clear hb HWO
  go_wp2_with fail
  have hW1 : ∀ W, Below w1.heap.size w1 W → Below w.heap.size w W := fun W h => HA0.out.trans (h.mono HA0.out.size)
  have HW1 := Lib.hid hW1
  clear hW1
  by_cases h1 : (wv : Int) < 18446744073709551615
  · rw [decide_eq_true h1] at HR
    have d1 : decide ((wv : Int) < 18446744073709551615) = true := decide_eq_true h1
    obtain ⟨b3, hb3⟩ : ∃ b3, decide ((r : Int) ≤ 18446744073709551615 - (wv : Int)) = b3 := ⟨_, rfl⟩
    rw [hb3] at HR
    by_cases h2 : cp ≤ wh
    · rw [decide_eq_true h2] at HR
      have d2 : decide (cp ≤ wh) = true := decide_eq_true h2
      obtain rfl : rb = b3 := by rw [HR.out]; simp
      clear h1 h2 hwl HR
      refine wp_region_quiet_below (by kernel_rfl) (by kernel_rfl) ?_
      repeat (first | go_big_quiet_skip | (go_big_quiet_want; first | ((refine quiet_load_blk 35 (.tmp 2) rfl w.heap.size 0 20 HX.out s.cs (by rfl) (st_ext s) Tryz.underlying35 infoSta (st_le s) ?_; go_simp); go_big_quiet_on) | (go_big_quiet_op; first | go_big_quiet_on | go_big_quiet_call ((first
              | (go_at_call 75; exact Calls.rg_same fun W _ => (HAD W).out)
              | (go_at_call 39; exact Calls.rg_same fun W _ => (HCA W).out)
              | (go_at_call 14; exact Calls.rg fun W hW => (HWH W (HW1.out W hW)).out))))))
      refine wpQuiet_nil ?_
      intro U hp
      have hb := bel_regrown hp
      clear hp
      go_wp2_with fail
      go_ret
      exact ⟨rfl, HW1.out _ hb⟩
    · rw [decide_eq_false h2] at HR
      have d2 : decide (cp ≤ wh) = false := decide_eq_false h2
      obtain rfl : rb = false := by rw [HR.out]; simp
      clear h1 h2 hwl HR
      refine wp_region_quiet_below (by kernel_rfl) (by kernel_rfl) ?_
      repeat (first | go_big_quiet_skip | (go_big_quiet_want; first | ((refine quiet_load_blk 35 (.tmp 2) rfl w.heap.size 0 20 HX.out s.cs (by rfl) (st_ext s) Tryz.underlying35 infoSta (st_le s) ?_; go_simp); go_big_quiet_on) | (go_big_quiet_op; first | go_big_quiet_on | go_big_quiet_call ((first
              | (go_at_call 75; exact Calls.rg_same fun W _ => (HAD W).out)
              | (go_at_call 39; exact Calls.rg_same fun W _ => (HCA W).out)
              | (go_at_call 14; exact Calls.rg fun W hW => (HWH W (HW1.out W hW)).out))))))
      refine wpQuiet_nil ?_
      intro U hp
      have hb := bel_regrown hp
      clear hp
      go_wp2_with fail
      go_ret
      exact ⟨rfl, HW1.out _ hb⟩
  · rw [decide_eq_false h1] at HR
    have d1 : decide ((wv : Int) < 18446744073709551615) = false := decide_eq_false h1
    obtain rfl : rb = false := by rw [HR.out]; simp
    clear h1 hwl HR
    refine wp_region_quiet_below (by kernel_rfl) (by kernel_rfl) ?_
    repeat (first | go_big_quiet_skip | (go_big_quiet_want; first | (fail; go_big_quiet_on) | (go_big_quiet_op; first | go_big_quiet_on | go_big_quiet_call (fail))))
    refine wpQuiet_nil ?_
    intro U hp
    have hb := bel_regrown hp
    clear hp
    go_wp2_with fail
    go_ret
    exact ⟨rfl, HW1.out _ hb⟩
theorem capA_is (a b : Int) : capN (plusV a b) (plusE a b) = capA a b := rfl
attribute [irreducible] capA
end Go.Proofs.YtpbcfeghfcodcaaGreat
namespace Go.Proofs.YtpbcfeghfcodcaaGreat
open Go.RowKit
def Of.cl (o : Of) : List Value := o.cs.toList
theorem ofcs_one (o : Of) : o.cs.all (·.oneCell') = true := by
  rw [Array.all_eq_true']
  intro x hx
  simp only [Of.cs, List.mem_toArray, List.mem_cons, List.not_mem_nil, or_false] at hx
  rcases hx with rfl | rfl | rfl | rfl | rfl | rfl | rfl | rfl | rfl <;> rfl
theorem ofcs_over (cs : Array Value) (o : Of) (h : cs.size = 9) : over cs 0 o.cs.toList = o.cs := (over_full o.cs.toList cs (by rw [h]; rfl)).trans (Array.toArray_toList ..)
/-- a book in memory -/
def bookC (ch client : ByteArray) (next : Nat) (A : Option Addr) (n c : Nat) : Array Value := #[.string ch, .string client, .int .u64 (next : Nat), .slice A n c]
end Go.Proofs.YtpbcfeghfcodcaaGreat
namespace Go.Proofs.YtpbcfeghfcodcaaGreat
open Go.RowKit
def opn1 (o : Of) : Nat := if o.taken then 0 else o.face
def opnN (l : List Of) : Nat := (l.map opn1).sum
def opnV (l : List Of) : Nat := opnN l % 18446744073709551616
theorem opnV_snoc (l : List Of) (k : Nat) (h : k < l.length) : opnV (l.take (k + 1)) = (opnV (l.take k) + opn1 l[k]) % 18446744073709551616 := by
  unfold opnV opnN
  rw [List.take_succ_eq_append_getElem h, List.map_append, List.sum_append]
  simp
end Go.Proofs.YtpbcfeghfcodcaaGreat
namespace Go.Proofs.YtpbcfeghfcodcaaGreat
open Go.RowKit
/-- the greatest word that tells of one of so many numbers -/
def topV (m : Nat) : Nat := 18446744073709551615 - (18446744073709551615 % m + 1) % m
/-- whether there is room for one more offer -/
def roomN (l : List Of) (face : Nat) : Int := if 8 ≤ l.length then 9 else plusE (opnV l : Nat) (face : Nat)
end Go.Proofs.YtpbcfeghfcodcaaGreat
