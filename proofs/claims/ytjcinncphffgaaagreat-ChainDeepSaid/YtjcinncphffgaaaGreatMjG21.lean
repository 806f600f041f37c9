/- utxo.Terms of a channel. channel, of any state: words; capped, paid, Worth, Credit, name. Places of outputs, sorted lists of outputs at places; a map of them in memory. -/
import Derived.Outline
import Derived.Deep.RegionHeld3
import Derived.DeepKeys4
import Derived.Maps.RangeWalk
import Derived.Sort.LotA
import Derived.Test.YtjcinncphffgaaaGreatMjG15
import Derived.Test.YtjcinncphffgaaaGreatMjNote
import Derived.Test.YtjcinncphffgaaaGreatMjNum
import Derived.Test.YtjcinncphffgaaaGreatMjSdkB
import Derived.Test.YtjcinncphffgaaaGreatMjSdkC
set_option linter.unusedVariables false
set_option linter.unusedSimpArgs false
namespace Go.Proofs.YtjcinncphffgaaaGreat
open Go.RowKit Go.Maps
def zTm : Tm := ⟨ByteArray.empty, ByteArray.empty, ByteArray.empty, 0, 0⟩
theorem tmcs_one (t : Tm) : t.cs.all (·.oneCell') = true := by
  rw [Array.all_eq_true']
  intro x hx
  simp only [Tm.cs, List.mem_toArray, List.mem_cons, List.not_mem_nil, or_false] at hx
  rcases hx with rfl | rfl | rfl | rfl | rfl <;> rfl
theorem tmcs_over (t : Tm) : over zTm.cs 0 t.cs.toList = t.cs := (over_full t.cs.toList zTm.cs rfl).trans (Array.toArray_toList ..)
end Go.Proofs.YtjcinncphffgaaaGreat
namespace Go.Proofs.YtjcinncphffgaaaGreat
open Go.RowKit Go.Maps
/-- an output of any kind -/
structure Ou where
  kind : Int
  am : Nat
  key : ByteArray
  gate : ByteArray
  ex : Int
  anchor : ByteArray
  unit : Nat
  tok : Int
  of_ : ByteArray
def Ou.cs (o : Ou) : Array Value := #[.int .i64 o.kind, .int .u64 (o.am : Nat), .string o.key, .string o.gate, .int .i64 o.ex, .string o.anchor, .int .u64 (o.unit : Nat), .int .i64 o.tok, .string o.of_]
/-- an output with its place -/
structure En where
  tx : ByteArray
  out : Int
  o : Ou
def En.cs (e : En) : Array Value := #[.string e.tx, .int .i64 e.out, .int .i64 e.o.kind, .int .u64 (e.o.am : Nat), .string e.o.key, .string e.o.gate, .int .i64 e.o.ex, .string e.o.anchor, .int .u64 (e.o.unit : Nat), .int .i64 e.o.tok, .string e.o.of_]
def En.cl (e : En) : List Value := e.cs.toList
theorem oucs_one (o : Ou) : o.cs.all (·.oneCell') = true := by
  rw [Array.all_eq_true']
  intro x hx
  simp only [Ou.cs, List.mem_toArray, List.mem_cons, List.not_mem_nil, or_false] at hx
  rcases hx with rfl | rfl | rfl | rfl | rfl | rfl | rfl | rfl | rfl <;> rfl
theorem encs_one (e : En) : e.cs.all (·.oneCell') = true := by
  rw [Array.all_eq_true']
  intro x hx
  simp only [En.cs, List.mem_toArray, List.mem_cons, List.not_mem_nil, or_false] at hx
  rcases hx with rfl | rfl | rfl | rfl | rfl | rfl | rfl | rfl | rfl | rfl | rfl <;> rfl
theorem en_ext (s : En) : s.cs.extract 0 (0 + 11) = s.cs := by rw [Array.extract_eq_self_of_le (show s.cs.size ≤ 0 + 11 from Nat.le_refl 11)]
theorem en_over (s : En) {cs : Array Value} (h : cs.size = 11) : over cs 0 s.cs.toList = s.cs := (over_full s.cs.toList cs (by rw [h]; rfl)).trans (Array.toArray_toList ..)
def zOu : Ou := ⟨0, 0, ByteArray.empty, ByteArray.empty, 0, ByteArray.empty, 0, 0, ByteArray.empty⟩
def zEn : En := ⟨ByteArray.empty, 0, zOu⟩
/-! numbers -/
def capN (v f : Int) : Int := if f = 0 then v else 18446744073709551615
theorem totI_ge : ∀ (l : List Int), (∀ x ∈ l, 0 ≤ x) → 0 ≤ totI l
  | [], _ => Int.le_refl 0
  | a :: r, h => by
    have h1 := h a (by simp)
    have h2 := totI_ge r (fun x hx => h x (by simp [hx]))
    show 0 ≤ a + totI r
    omega
/-! names -/
def nameO (tx : ByteArray) (out : Int) : ByteArray := nameB tx (out % 256).toNat
theorem nameO_size (tx : ByteArray) (out : Int) : (nameO tx out).size = 16 := nameB_size _ _
set_option maxRecDepth 100000 in
set_option maxHeartbeats 1000000 in
theorem cname_gen (tx : ByteArray) (out : Int) (w : World) (hz : tx.size ≤ 1000000) :
    Calls Tryz.prog 34 #[.agg #[.string tx, .int .i64 out]] w fun e w' => e = .returned (.string (nameO tx out)) ∧ Below w.heap.size w w' := by
  obtain ⟨b, hb⟩ : ∃ b : Nat, (out % 256).toNat = b := ⟨_, rfl⟩
  have hw : IntKind.u8.wrap out = (b : Int) := by rw [IntKind.wrap_u8]; omega
  have kc := conv1 (w.alloc (.cells #[.string tx, .int .i64 out] 57)) b
  rw [World.size_alloc] at kc
  have k1 := num1_size
  unfold nameO
  rw [hb]
  clear hb
  go_enter Tryz.func34, Tryz.ntmps34
  go_wp2_with fail
  refine (tag2 ⟨#[108, 111, 99, 107]⟩ tx (strOfNums [(b : Int)]) _ _ ?_ (by decide) hz (by rw [k1]; omega)).mono ?_
  · simp
  rintro e w1 ⟨rfl, hb⟩
  have HB : Hid (Below w.heap.size w w1) := (((Below.refl _ _).alloc (Nat.le_refl _) _).alloc (by simp) _).trans (hb.mono (by simp; omega))
  clear hb
  go_wp2
  go_ret
  exact ⟨rfl, HB.out⟩
end Go.Proofs.YtjcinncphffgaaaGreat
namespace Go.Proofs.YtjcinncphffgaaaGreat
open Go.RowKit Go.Maps Go.Sort
/-! places -/
abbrev Pt := ByteArray × Int
def Pt.cs (p : Pt) : Array Value := #[.string p.1, .int .i64 p.2]
def Pt.ok (p : Pt) : Prop := p.1.size ≤ maxLen ∧ (Lit.int .i64 p.2).wf = true
def En.pt (e : En) : Pt := (e.tx, e.out)
theorem laidUt : laidOutB Tryz.prog = true := by kernel_rfl
theorem rowPt : (57 : TypeId) < Tryz.prog.types.size := of_decide_eq_true (by kernel_rfl)
theorem widePt : (match Tryz.prog.underlying 57 with | some (.array _ _) | some (.struct _) => true | _ => false) = true := by kernel_rfl
theorem keyAtPt : Tryz.prog.keyTypeAt 2 57 = true := by kernel_rfl
set_option maxRecDepth 100000 in
theorem lawPt : Keyed Tryz.prog 57 := Keyed.of_law (deep_law_laid laidUt (m := 2) (by decide) rowPt keyAtPt widePt)
theorem keyPt_type : Tryz.prog.keyType 57 = true := by kernel_rfl
theorem cellsPt : Tryz.prog.cellsOf 57 = 2 := by kernel_rfl
theorem typesUt : ∃ n, Tryz.prog.types.size + 1 = n + 2 := ⟨Tryz.prog.types.size - 1, by have h : 0 < Tryz.prog.types.size := Nat.lt_of_le_of_lt (Nat.zero_le _) rowPt; omega⟩
noncomputable def kp (p : Pt) : Lit := .string (keyBytes [.string p.1.data.toList, .int .i64 p.2])
set_option maxRecDepth 100000 in
theorem keyLits_pt (p : Pt) (h : p.ok) : Tryz.prog.keyLits (Tryz.prog.types.size + 1) 57 [.string p.1, .int .i64 p.2] = some [.string p.1.data.toList, .int .i64 p.2] := by
  obtain ⟨n, hn⟩ := typesUt
  rw [hn]
  have hc := cellsPt
  have c1 : Tryz.prog.cellsOf 9 = 1 := by kernel_rfl
  have c2 : Tryz.prog.cellsOf 3 = 1 := by kernel_rfl
  simp [Program.keyLits, Tryz.underlying57, Tryz.underlying9, Tryz.underlying3, hc, c1, c2, h.1, h.2]
theorem kp_key (p : Pt) (h : p.ok) : keyOf Tryz.prog 57 (.agg p.cs) = some (kp p) := by
  have hf : (Value.agg p.cs).formed Tryz.prog 57 = true := by
    simp [Value.formed, Tryz.underlying57, cellsPt, Pt.cs]
  unfold keyOf
  rw [Tryz.underlying57]
  simp only [keyPt_type, hf, Bool.and_self, if_true]
  rw [show (Value.agg p.cs).cells.toList = [.string p.1, .int .i64 p.2] from rfl, keyLits_pt p h]
  rfl
set_option maxRecDepth 100000 in
theorem keyPt_inv {key : Value} {kl : Lit} (h : keyOf Tryz.prog 57 key = some kl) : ∃ p : Pt, key = .agg p.cs ∧ p.ok ∧ kl = kp p := by
  have h0 := h
  unfold keyOf at h
  rw [Tryz.underlying57] at h
  simp only [keyPt_type, Bool.true_and] at h
  obtain ⟨n, hn⟩ := typesUt
  have hc := cellsPt
  have c1 : Tryz.prog.cellsOf 9 = 1 := by kernel_rfl
  have c2 : Tryz.prog.cellsOf 3 = 1 := by kernel_rfl
  split at h
  · rename_i hf
    cases key <;> simp [Value.formed, Tryz.underlying57, cellsPt] at hf
    rename_i xs
    obtain ⟨l⟩ := xs
    match l, hf with
    | [a, b], _ =>
      rw [hn] at h
      simp [Program.keyLits, Tryz.underlying57, Tryz.underlying9, Tryz.underlying3, hc, c1, c2, Value.cells] at h
      cases a with
      | string t =>
        by_cases hs : t.size ≤ maxLen
        · cases b with
          | int q m =>
            by_cases hw : q = .i64 ∧ (Lit.int .i64 m).wf = true
            · obtain ⟨rfl, hw⟩ := hw
              exact ⟨(t, m), rfl, ⟨hs, hw⟩, Option.some.inj (h0.symm.trans (kp_key (t, m) ⟨hs, hw⟩))⟩
            · simp [hs, hw] at h
          | _ => simp [hs] at h
        · simp [hs] at h
      | _ => simp at h
  · cases h
theorem kp_inj {p q : Pt} (hp : p.ok) (hq : q.ok) (h : kp p = kp q) : p = q := by
  have := lawPt.inj (kp_key p hp) (h ▸ kp_key q hq)
  simp only [Pt.cs, Value.agg.injEq, Array.mk.injEq, List.cons.injEq, Value.string.injEq, Value.int.injEq, true_and, and_true] at this
  exact Prod.ext this.1 this.2
theorem kp_is (p : Pt) : WideAt.IsKeyLit (kp p) := trivial
theorem kp_same {p q : Pt} (hp : p.ok) (hq : q.ok) : (kp p).sameKey (kp q) = decide (p = q) := by
  by_cases e : p = q
  · subst e
    rw [WideAt.sameKey_self (kp_is p)]; simp
  · rw [decide_eq_false e]
    exact sameKey_ne (fun h => e (kp_inj hp hq h))
/-! the order of places -/
def ltP (p q : Pt) : Bool := ltB p.1.data.toList q.1.data.toList || (decide (p.1 = q.1) && decide (p.2 < q.2))
theorem ltP_irrefl (p : Pt) : ltP p p = false := by simp [ltP, ltB_irrefl]
theorem ba_of_list {s t : ByteArray} (h : s.data.toList = t.data.toList) : s = t := ByteArray.ext (Array.ext' h)
theorem ltP_trans {p q r : Pt} (h : ltP p q = true) (h' : ltP q r = true) : ltP p r = true := by
  simp only [ltP, Bool.or_eq_true, Bool.and_eq_true, decide_eq_true_eq] at *
  rcases h with h | ⟨e, h⟩
  · rcases h' with h' | ⟨e', h'⟩
    · exact .inl (ltB_trans _ _ _ h h')
    · exact .inl (by rw [← e']; exact h)
  · rcases h' with h' | ⟨e', h'⟩
    · exact .inl (by rw [e]; exact h')
    · exact .inr ⟨e.trans e', by omega⟩
theorem ltP_eq {p q : Pt} (h : ltP p q = false) (h' : ltP q p = false) : p = q := by
  simp only [ltP, Bool.or_eq_false_iff] at h h'
  have e : p.1 = q.1 := ba_of_list (ltB_eq _ _ h.1 h'.1)
  have h2 := h.2
  have h3 := h'.2
  rw [e] at h2 h3
  simp at h2 h3
  exact Prod.ext e (by omega)
theorem ltP_ne {p q : Pt} (h : ltP p q = true) : p ≠ q := by
  rintro rfl
  rw [ltP_irrefl] at h; cases h
/-! sorted lists of outputs at places -/
def SrtE (T : List En) : Prop := T.Pairwise fun a b => ltP a.pt b.pt = true
def En.okp (e : En) : Prop := e.tx.size = 16 ∧ 0 ≤ e.out ∧ e.out < 256
theorem En.okp.ok {e : En} (h : e.okp) : e.pt.ok := ⟨by show e.tx.size ≤ maxLen; rw [h.1]; simp [maxLen], by
  have := h.2
  show (Lit.int .i64 e.out).wf = true
  simp [Lit.wf, IntKind.min, IntKind.max, IntKind.signed, IntKind.bits]; omega⟩
def getU (T : List En) (p : Pt) : Option Ou := (T.find? fun e => decide (e.pt = p)).map (·.o)
def insE (e : En) : List En → List En
  | [] => [e]
  | x :: r => if ltP x.pt e.pt then x :: insE e r else e :: x :: r
def delU (p : Pt) (T : List En) : List En := T.filter fun e => !decide (e.pt = p)
def putU (e : En) (T : List En) : List En := insE e (delU e.pt T)
theorem insE_perm (e : En) : ∀ l, (insE e l).Perm (e :: l)
  | [] => .refl _
  | x :: r => by
    unfold insE
    split
    · exact ((insE_perm e r).cons x).trans (List.Perm.swap e x r)
    · exact .refl _
theorem insE_srt (e : En) : ∀ l, SrtE l → (∀ x ∈ l, x.pt ≠ e.pt) → SrtE (insE e l)
  | [], _, _ => List.pairwise_singleton _ _
  | x :: r, h, hn => by
    unfold insE
    obtain ⟨h1, h2⟩ := List.pairwise_cons.1 h
    split
    · rename_i hx
      refine List.pairwise_cons.2 ⟨fun y hy => ?_, insE_srt e r h2 (fun y hy => hn y (by simp [hy]))⟩
      rcases List.mem_cons.1 ((insE_perm e r).mem_iff.1 hy) with rfl | hy
      · exact hx
      · exact h1 y hy
    · rename_i hx
      have hex : ltP e.pt x.pt = true := by
        cases hc : ltP e.pt x.pt with
        | true => rfl
        | false => exact absurd (ltP_eq (by simpa using hx) hc) (hn x (by simp))
      exact List.pairwise_cons.2 ⟨fun y hy => by
        rcases List.mem_cons.1 hy with rfl | hy
        · exact hex
        · exact ltP_trans hex (h1 y hy), h⟩
theorem delU_srt (p : Pt) {T : List En} (h : SrtE T) : SrtE (delU p T) := List.Pairwise.filter _ h
theorem delU_ne (p : Pt) {T : List En} : ∀ x ∈ delU p T, x.pt ≠ p := fun x hx => by
  have := (List.mem_filter.1 hx).2
  simpa using this
theorem putU_srt (e : En) {T : List En} (h : SrtE T) : SrtE (putU e T) := insE_srt e _ (delU_srt _ h) (delU_ne _)
theorem putU_mem {e x : En} {T : List En} (h : x ∈ putU e T) : x = e ∨ x ∈ T := by
  rcases List.mem_cons.1 ((insE_perm e _).mem_iff.1 h) with h | h
  · exact .inl h
  · exact .inr (List.mem_filter.1 h).1
theorem putU_len (e : En) (T : List En) : (putU e T).length ≤ T.length + 1 := by
  rw [putU, (insE_perm e _).length_eq, List.length_cons]
  have : (delU e.pt T).length ≤ T.length := List.length_filter_le _ _
  omega
theorem delU_len (p : Pt) (T : List En) : (delU p T).length ≤ T.length := List.length_filter_le _ _
theorem srt_pts {T : List En} (h : SrtE T) : (T.map En.pt).Nodup := List.pairwise_map.2 (h.imp fun h => ltP_ne h)
/-! a map of them -/
noncomputable abbrev DE := DataW Value
noncomputable abbrev elO : Value → Option (DE × List MemPlace) := fun v => some (.held v, [])
noncomputable def enK (e : En) : Lit × DE := (kp e.pt, .held (.agg e.o.cs))
theorem getU_cons (e : En) (T : List En) (p : Pt) : getU (e :: T) p = if e.pt = p then some e.o else getU T p := by
  unfold getU
  by_cases h : e.pt = p
  · rw [List.find?_cons_of_pos (by simpa using h), if_pos h]; rfl
  · rw [List.find?_cons_of_neg (by simpa using h), if_neg h]
theorem any_sameKey (p : Pt) (hp : p.ok) : ∀ (T : List En), (∀ e ∈ T, e.okp) → ((T.map enK).any fun q => q.1.sameKey (kp p)) = (getU T p).isSome
  | [], _ => rfl
  | e :: T, hT => by
    rw [List.map_cons, List.any_cons, any_sameKey p hp T (fun x hx => hT x (by simp [hx])), getU_cons]
    show ((kp e.pt).sameKey (kp p) || _) = _
    rw [kp_same (hT e (by simp)).ok hp]
    by_cases h : e.pt = p
    · rw [if_pos h, decide_eq_true h]; rfl
    · rw [if_neg h, decide_eq_false h]; rfl
theorem getU_mem {T : List En} {p : Pt} {o : Ou} (h : getU T p = some o) : ∃ e ∈ T, e.pt = p ∧ e.o = o := by
  unfold getU at h
  obtain ⟨e, he, rfl⟩ := Option.map_eq_some_iff.1 h
  exact ⟨e, List.mem_of_find?_eq_some he, by simpa using List.find?_some he, rfl⟩
theorem getU_of_mem : ∀ {T : List En}, SrtE T → ∀ {e : En}, e ∈ T → getU T e.pt = some e.o
  | x :: r, h, e, he => by
    obtain ⟨h1, h2⟩ := List.pairwise_cons.1 h
    rw [getU_cons]
    rcases List.mem_cons.1 he with rfl | he
    · rw [if_pos rfl]
    · rw [if_neg (ltP_ne (h1 e he)), getU_of_mem h2 he]
/-- what a map reads as that has the outputs T -/
def UtD (D : DE) (T : List En) : Prop := ∃ es, D = .map es ∧ es.Perm (T.map enK)
theorem UtD.has {D : DE} {T : List En} (h : UtD D T) (hT : ∀ e ∈ T, e.okp) {p : Pt} (hp : p.ok) : Maps.has D (kp p) = (getU T p).isSome := by
  obtain ⟨es, rfl, hpm⟩ := h
  rw [has_eq, hpm.any_eq, any_sameKey p hp T hT]
theorem UtD.at_ {D : DE} {T : List En} (h : UtD D T) (hD : Tidy D) (hT : ∀ e ∈ T, e.okp) {p : Pt} (hp : p.ok) (zd : DE) : D.atKey (kp p) zd = match getU T p with | some o => .held (.agg o.cs) | none => zd := by
  cases hg : getU T p with
  | none => exact atKey_of_not_has (by rw [h.has hT hp, hg]; rfl) zd
  | some o =>
    obtain ⟨e, he, rfl, rfl⟩ := getU_mem hg
    obtain ⟨es, rfl, hpm⟩ := h
    obtain ⟨es', e', hap⟩ := hD
    injection e' with e'
    subst e'
    exact WideAt.atKey_mem zd (kp_is _) hap (hpm.mem_iff.2 (List.mem_map.2 ⟨e, he, rfl⟩))
theorem UtD.size {D : DE} {T : List En} (h : UtD D T) : Maps.size D = T.length := by
  obtain ⟨es, rfl, hpm⟩ := h
  show es.length = _
  rw [hpm.length_eq, List.length_map]
theorem filter_enK (p : Pt) (hp : p.ok) : ∀ (T : List En), (∀ e ∈ T, e.okp) → ((T.map enK).filter fun q => !q.1.sameKey (kp p)) = (delU p T).map enK
  | [], _ => rfl
  | e :: T, hT => by
    have ih := filter_enK p hp T (fun x hx => hT x (by simp [hx]))
    have hs : (enK e).1.sameKey (kp p) = decide (e.pt = p) := kp_same (hT e (by simp)).ok hp
    unfold delU at ih ⊢
    by_cases h : e.pt = p
    · rw [List.map_cons, List.filter_cons_of_neg (by rw [hs]; simp [h]), List.filter_cons_of_neg (by simp [h]), ih]
    · rw [List.map_cons, List.filter_cons_of_pos (by rw [hs]; simp [h]), List.filter_cons_of_pos (by simp [h]), List.map_cons, ih]
theorem UtD.put {D : DE} {T : List En} (h : UtD D T) (hT : ∀ e ∈ T, e.okp) (e : En) (he : e.okp) : UtD (D.put (kp e.pt) (.held (.agg e.o.cs))) (putU e T) := by
  obtain ⟨es, rfl, hpm⟩ := h
  refine ⟨_, rfl, ?_⟩
  refine (WideShapes.insert_perm _ _).trans ?_
  refine List.Perm.trans ?_ ((insE_perm e (delU e.pt T)).map enK).symm
  rw [List.map_cons]
  refine List.Perm.cons _ ?_
  rw [← filter_enK e.pt he.ok T hT]
  exact hpm.filter _
theorem UtD.del {D : DE} {T : List En} (h : UtD D T) (hT : ∀ e ∈ T, e.okp) (p : Pt) (hp : p.ok) : UtD (D.del (kp p)) (delU p T) := by
  obtain ⟨es, rfl, hpm⟩ := h
  refine ⟨_, rfl, ?_⟩
  rw [← filter_enK p hp T hT]
  exact hpm.filter _
/-- block b is a map that has the outputs T -/
structure Ut (w : World) (b : Nat) (T : List En) : Prop where
  own : ∃ D, w.ownsMap Tryz.prog 57 elO b T.length D ∧ UtD D T
  srt : SrtE T
  ok : ∀ e ∈ T, e.okp
theorem zeroOu (w : World) : (zeroValue 81).run Tryz.prog w = .ok (.agg zOu.cs) w := by kernel_rfl
section
variable {w w' : World} {b n : Nat} {T : List En}
theorem own_tight {D : DE} (h : w.ownsMap Tryz.prog 57 elO b n D) : w.ownsMap Tryz.prog 57 elO b (Maps.size D) D := by
  obtain ⟨es, clock, hb, F, hs, hD⟩ := h
  refine ⟨es, clock, hb, F, ?_, hD⟩
  rw [hD]
  simp [Maps.size, length_sorted]
theorem Ut.mk_ {D : DE} (h : w.ownsMap Tryz.prog 57 elO b n D) (hD : UtD D T) (hs : SrtE T) (ho : ∀ e ∈ T, e.okp) : Ut w b T := ⟨⟨D, by rw [← hD.size]; exact own_tight h, hD⟩, hs, ho⟩
theorem Ut.new (w : World) : Ut (w.alloc (.map #[] 0)) w.heap.size [] := ⟨⟨_, World.ownsMap_made _ _ _ _, ⟨[], rfl, .refl _⟩⟩, .nil, fun _ h => by simp at h⟩
theorem Ut.ch {S : List Nat} (h : Ut w b T) (hc : Ch S w w') (hn : b ∉ S) : Ut w' b T := by
  obtain ⟨D, ho, hD⟩ := h.own
  exact ⟨⟨D, Ch.map hc ho hn, hD⟩, h.srt, h.ok⟩
theorem Ut.lt (h : Ut w b T) : b < w.heap.size := by
  obtain ⟨D, ho, _⟩ := h.own
  exact ho.lt
theorem Ut.bel (h : Ut w b T) {n : Nat} (hb : Below n w w') (hn : b < n) : Ut w' b T := by
  obtain ⟨D, ⟨es, clock, hbb, F⟩, hD⟩ := h.own
  exact ⟨⟨D, ⟨es, clock, (hb.block b hn).trans hbb, F⟩, hD⟩, h.srt, h.ok⟩
theorem Ut.ne_blk {g : Nat} {t : TypeId} {cs : Array Value} (h : Ut w b T) (hg : Blk w g t cs) : b ≠ g := by
  rintro rfl
  obtain ⟨D, ⟨es, clock, hb, _⟩, _⟩ := h.own
  unfold Blk at hg
  rw [hb] at hg; cases hg
theorem Ut.look (h : Ut w b T) (p : Pt) (hp : p.ok) : (Instr.lookup 184 (.map (some b)) (.agg p.cs) true).run Tryz.prog w = .ok (.tuple #[.agg ((getU T p).getD zOu).cs, .bool (getU T p).isSome]) w := by
  obtain ⟨D, ho, hD⟩ := h.own
  obtain ⟨v, ps, hrun, hv⟩ := World.ownsMap.look_ok ho lawPt Tryz.underlying184 (zeroOu w) (zd := .held (.agg zOu.cs)) (zp := []) rfl (kp_key p hp)
  rw [hrun, hD.has h.ok hp]
  rw [hD.at_ (ho.tidy lawPt) h.ok hp] at hv
  have hv1 : DataW.held v = match getU T p with | some o => .held (.agg o.cs) | none => .held (.agg zOu.cs) := congrArg Prod.fst (Option.some.inj hv)
  cases hg : getU T p with
  | none =>
    have hv2 : v = .agg zOu.cs := DataW.held.inj (hv1.trans (by rw [hg]))
    rw [hv2]; rfl
  | some o =>
    have hv2 : v = .agg o.cs := DataW.held.inj (hv1.trans (by rw [hg]))
    rw [hv2]; rfl
theorem Ut.look1 (h : Ut w b T) (p : Pt) (hp : p.ok) : (Instr.lookup 184 (.map (some b)) (.agg p.cs) false).run Tryz.prog w = .ok (.agg ((getU T p).getD zOu).cs) w := by
  obtain ⟨D, ho, hD⟩ := h.own
  obtain ⟨v, ps, hrun, hv⟩ := World.ownsMap.lookup ho lawPt Tryz.underlying184 (zeroOu w) (zd := .held (.agg zOu.cs)) (zp := []) rfl (kp_key p hp)
  rw [hrun]
  rw [hD.at_ (ho.tidy lawPt) h.ok hp] at hv
  have hv1 : DataW.held v = match getU T p with | some o => .held (.agg o.cs) | none => .held (.agg zOu.cs) := congrArg Prod.fst (Option.some.inj hv)
  cases hg : getU T p with
  | none =>
    have hv2 : v = .agg zOu.cs := DataW.held.inj (hv1.trans (by rw [hg]))
    rw [hv2]; rfl
  | some o =>
    have hv2 : v = .agg o.cs := DataW.held.inj (hv1.trans (by rw [hg]))
    rw [hv2]; rfl
theorem Ut.store (h : Ut w b T) (e : En) (he : e.okp) (hn : T.length < maxLen) :
    ∃ w', (Instr.mapUpdate 184 (.map (some b)) (.agg e.pt.cs) (.agg e.o.cs)).run Tryz.prog w = .ok () w' ∧ Ut w' b (putU e T) ∧ Ch [b] w w' := by
  obtain ⟨D, ho, hD⟩ := h.own
  obtain ⟨w', hrun, h1, h2⟩ := World.ownsMap.store ho lawPt Tryz.underlying184 hn (kp_key e.pt he.ok) (val := .agg e.o.cs) (d := .held (.agg e.o.cs)) (ps := []) rfl
  exact ⟨w', hrun, Ut.mk_ h1 (hD.put h.ok e he) (putU_srt e h.srt) (fun x hx => by rcases putU_mem hx with rfl | hx; exact he; exact h.ok x hx), Ch.of_grown h2.grown⟩
theorem Ut.drop (h : Ut w b T) (p : Pt) (hp : p.ok) (ty : TypeId) :
    ∃ w', (Builtin.delete_ #[184, 57] ty #[.map (some b), .agg p.cs]).run Tryz.prog w = .ok (.tuple #[]) w' ∧ Ut w' b (delU p T) ∧ Ch [b] w w' := by
  obtain ⟨D, ho, hD⟩ := h.own
  obtain ⟨w', hrun, h1, h2⟩ := World.ownsMap.drop ho lawPt Tryz.underlying184 (kp_key p hp) ty
  exact ⟨w', hrun, Ut.mk_ h1 (hD.del h.ok p hp) (delU_srt p h.srt) (fun x hx => h.ok x (List.mem_filter.1 hx).1), Ch.of_grown h2.grown⟩
end
/-! the keys that a range meets -/
def CollP (D0 : DE) (left : Lit → Bool) (ps : List Pt) : Prop := ps.Nodup ∧ (∀ p ∈ ps, p.ok) ∧ ∀ p : Pt, p.ok → (p ∈ ps ↔ (Maps.has D0 (kp p) = true ∧ left (kp p) = false))
theorem CollP.start (D0 : DE) : CollP D0 (Maps.has D0) [] := ⟨List.nodup_nil, by simp, fun p _ => by cases Maps.has D0 (kp p) <;> simp⟩
theorem CollP.step {D0 : DE} {left : Lit → Bool} {ps : List Pt} (h : CollP D0 left ps) {p : Pt} (hp : p.ok) {y : DE} (hlk : left (kp p) = true) (hat : ∀ zd, D0.atKey (kp p) zd = y) : CollP D0 (fun z => left z && !z.sameKey (kp p)) (ps ++ [p]) := by
  have hhas : Maps.has D0 (kp p) = true := has_true_of_atKey hat
  obtain ⟨h1, h2, h3⟩ := h
  refine ⟨?_, ?_, fun q hq => ?_⟩
  · rw [List.nodup_append]
    refine ⟨h1, by simp, fun a ha b hb e => ?_⟩
    rw [List.mem_singleton] at hb
    subst hb; subst e
    have := ((h3 a hp).1 ha).2
    rw [hlk] at this; cases this
  · intro q hq
    rcases List.mem_append.1 hq with hq | hq
    · exact h2 q hq
    · rw [List.mem_singleton] at hq; subst hq; exact hp
  · rw [List.mem_append, List.mem_singleton, h3 q hq]
    show _ ↔ (_ ∧ (left (kp q) && !(kp q).sameKey (kp p)) = false)
    rw [kp_same hq hp]
    by_cases e : q = p
    · subst e; simp [hhas]
    · simp [e]
theorem CollP.perm {D0 : DE} {left : Lit → Bool} {ps : List Pt} {T : List En} (h : CollP D0 left ps) (hD : UtD D0 T) (hs : SrtE T) (hT : ∀ e ∈ T, e.okp) (hl : ∀ kl, left kl = false) : ps.Perm (T.map En.pt) := by
  obtain ⟨h1, h2, h3⟩ := h
  refine (List.perm_ext_iff_of_nodup h1 (srt_pts hs)).2 fun p => ?_
  constructor
  · intro hp
    have := ((h3 p (h2 p hp)).1 hp).1
    rw [hD.has hT (h2 p hp)] at this
    obtain ⟨o, ho⟩ := Option.isSome_iff_exists.1 this
    obtain ⟨e, he, rfl, _⟩ := getU_mem ho
    exact List.mem_map.2 ⟨e, he, rfl⟩
  · intro hp
    obtain ⟨e, he, rfl⟩ := List.mem_map.1 hp
    refine (h3 e.pt (hT e he).ok).2 ⟨?_, hl _⟩
    rw [hD.has hT (hT e he).ok, getU_of_mem hs he]; rfl
end Go.Proofs.YtjcinncphffgaaaGreat
