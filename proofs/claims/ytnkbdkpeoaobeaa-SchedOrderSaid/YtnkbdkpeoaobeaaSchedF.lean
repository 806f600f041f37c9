/- sched's stable sort of at most 19 items. -/
import Derived.Test.YtnkbdkpeoaobeaaBase
import Derived.Test.YtnkbdkpeoaobeaaPlain20
import Derived.Test.YtnkbdkpeoaobeaaPlain20c
import Derived.Test.YtnkbdkpeoaobeaaSchedD
import Derived.Test.YtnkbdkpeoaobeaaSchedE
import Derived.Test.YtnkbdkpeoaobeaaShelf

namespace Go.Proofs.Ytnkbdkpeoaobeaa
open Go.RowKit Go.Lib Go.Sort

theorem lt_cfI : ltOf cfI = ltI := by
  funext x y
  have e : x.ch.data.toList = x.chl := rfl
  have e' : y.ch.data.toList = y.chl := rfl
  have hb := compareBytes_neg x.chl y.chl
  unfold ltOf cfI ltI orI compareInt
  rw [e, e', ← hb]
  by_cases h1 : x.ex < y.ex
  · simp [h1]
  · by_cases h2 : y.ex < x.ex
    · simp [h1, h2]; omega
    · have : x.ex = y.ex := by omega
      simp [this]

theorem holdsK_of_own {α : Type} [Inhabited α] {enc : α → List Value} {k : Nat} (hk : ∀ x, (enc x).length = k) {w : World} {base g cap : Nat} {e : TypeId} {l : List α} (h : w.ownsRow base e k (.slice (some ⟨g, 0, none⟩) l.length cap) l.length (l.flatMap enc)) :
    HoldsK enc k w g 0 l.toArray := by
  intro t ht
  rw [size_flatK] at ht
  have ht' : t < l.length * k := by simpa using ht
  refine ⟨?_, by rw [Nat.zero_add]; exact h.frozenAt t⟩
  have hk0 : 0 < k := by
    rcases Nat.eq_zero_or_pos k with h0 | h0
    · subst h0; simp at ht'
    · exact h0
  have hi : t / k < l.length := Nat.div_lt_of_lt_mul (by rw [Nat.mul_comm]; exact ht')
  have hj : t % k < k := Nat.mod_lt _ hk0
  have hget : (l.flatMap enc)[t]? = some ((enc l[t / k])[t % k]'(by rw [hk]; exact hj)) := by
    have := flatMap_get enc k hk l (t / k) (t % k) l[t / k] _ (List.getElem?_eq_getElem hi) (List.getElem?_eq_getElem (by rw [hk]; exact hj))
    rwa [Nat.div_add_mod' t k] at this
  rw [Nat.zero_add, h.cellAt t ht', hget, get_flatK enc k _ t ht]
  simp [hi, hk, hj]
theorem Sl.of_holdsK {α : Type} [Inhabited α] {enc : α → List Value} {k : Nat} (hk : ∀ x, (enc x).length = k) {w : World} {g B : Nat} {d : Array α} (hg : g < B) (h : HoldsK enc k w g 0 d) : Sl w B k enc (some ⟨g, 0, none⟩) d.toList := by
  intro _
  refine ⟨g, 0, rfl, hg, fun i x hx j u hu => ?_⟩
  have hi : i < d.size := by have := (List.getElem?_eq_some_iff.1 hx).1; simpa using this
  have hj : j < k := by have := (List.getElem?_eq_some_iff.1 hu).1; rwa [hk] at this
  have hlt : i * k + j < d.size * k := by
    have : (i + 1) * k ≤ d.size * k := Nat.mul_le_mul_right k hi
    rw [Nat.add_mul] at this; omega
  have := (h (i * k + j) (by rw [size_flatK]; exact hlt)).1
  rw [get_flatK enc k _ _ hlt, Nat.mul_comm i k, Nat.mul_add_div (by omega), Nat.div_eq_of_lt hj, Nat.add_zero, Nat.mul_add_mod, Nat.mod_eq_of_lt hj] at this
  have hd : d[i]! = x := by
    have hx' := (List.getElem?_eq_some_iff.1 hx).2
    rw [getElem!_pos d i hi, ← hx']; simp
  rw [hd] at this
  have hu' : (enc x)[j]! = u := by simp [hu]
  rw [hu'] at this
  rw [Nat.mul_comm i k, Nat.add_assoc]; exact this
theorem grownBy_sortK {α : Type} [Inhabited α] {enc : α → List Value} {k : Nat} {w : World} {g n : Nat} {os : Array Obj} (d : Array α) : w.grownBy (sortWorldK enc k w g 0 n d os) (some g) := by
  unfold sortWorldK putRowK
  refine ⟨rfl, rfl, rfl, by simp [Sort.ahead], fun i hk hne => ?_⟩
  rw [heap_grow_old _ _ (by simpa [Sort.ahead] using hk)]
  have : g ≠ i := fun e => hne (by rw [e])
  simp [putRow, mapBlock, Sort.ahead, Array.getElem?_modify, this]
instance : Inhabited It := ⟨⟨ByteArray.empty, 0, 0, false⟩⟩
theorem sorted_list {d d' : Array It} (hp : PermIn 0 d.size d d') (hs : SortedIn ltI 0 d.size d') : d'.toList.Perm d.toList ∧ Asc d'.toList := by
  obtain ⟨hsz, _, hperm⟩ := hp
  have e1 : d'.extract 0 d.size = d' := by rw [← hsz]; exact Array.extract_size
  rw [e1, Array.extract_size] at hperm
  refine ⟨hperm, ?_⟩
  unfold Asc
  rw [List.pairwise_iff_getElem]
  intro i j hi hj hij
  have hi' : i < d'.size := by simpa using hi
  have hj' : j < d'.size := by simpa using hj
  have := hs i j (Nat.zero_le _) hij (by omega)
  rw [getElem!_pos d' j hj', getElem!_pos d' i hi'] at this
  simpa using this

theorem isAgg37 : ∀ w, (isAgg 37).run Try.prog w = .ok true w := fun _ => by kernel_rfl
theorem sizeOf37 : ∀ w, (Go.sizeOf 37).run Try.prog w = .ok 4 w := fun _ => by kernel_rfl
/-- what the sort leaves -/
def SortedTo (base : Nat) (l : List It) (A : Option Addr) (w : World) (e : Ending) (w' : World) : Prop :=
  e = .returned (.tuple #[]) ∧ Below base w w' ∧ ∃ l' : List It, l'.Perm l ∧ Asc l' ∧ Sl w' w'.heap.size 4 It.cells A l'

set_option maxHeartbeats 400000 in
theorem ins_none (A : Option Addr) (c : Nat) (f : Value) (w : World) : Calls Try.prog 34 #[.slice A 0 c, .int .i64 0, .int .i64 0, f] w fun e w' => e = .returned (.tuple #[]) ∧ w = w' := by
  go_enter Try.func34, Try.ntmps34
  go_wp2
  refine wp_loop_rounds 1 ?_
  rw [rounds_succ]
  go_wp2
  go_end0
  exact ⟨rfl, rfl⟩
set_option maxHeartbeats 1000000 in
theorem ins_any (A : Option Addr) (l : List It) (c base : Nat) (w : World) (hl : l.length ≤ 4096) (hbase : base ≤ w.heap.size) (hown : w.ownsRow base 37 4 (.slice A l.length c) l.length (l.flatMap It.cells)) :
    Calls Try.prog 34 #[.slice A l.length c, .int .i64 0, .int .i64 l.length, .func (.func 25) #[] #[]] w (SortedTo base l A w) := by
  have eg : ∀ args w, (callFunc 25 args).run Try.prog w = .ok (.enter 25 args) w := enters_of Try.func25 (by kernel_rfl) rfl
  by_cases h0 : l.length = 0
  · have hn : l = [] := List.eq_nil_of_length_eq_zero h0
    subst hn
    refine Calls.mono (ins_none A c _ w) ?_
    rintro e w' ⟨rfl, rfl⟩
    exact ⟨rfl, Below.refl _ _, [], List.Perm.refl _, List.Pairwise.nil, Sl.nil _ _ _ _ _⟩
  · obtain ⟨g, cap, hv, hgb, hglt⟩ := hown.form (by omega)
    have hA : A = some ⟨g, 0, none⟩ := by injection hv
    subst hA
    have hH := holdsK_of_own It.cells_len hown
    have hs : l.toArray.size = l.length := by simp
    have h := AnyQ.insertionSortCmpFunc Try.insSort 4 isAgg37 sizeOf37 It.cells It.cells_len It.cells_one cfI 25 #[] g 0 c 0 l.length l.toArray w eg (fun m os dk _ x y => ahead_any x y _) hH hglt (Nat.zero_le _) (by simp) (by simp; omega)
    rw [hs] at h
    refine Calls.mono h ?_
    rintro e w' ⟨rfl, n, os, rfl⟩
    rw [lt_cfI]
    obtain ⟨hp, hso⟩ := insertionSort_holds ltI_swo l.toArray 0 l.toArray.size (Nat.zero_le _) (Nat.le_refl _)
    rw [hs] at hp hso
    have hh := holdsK_sortWorldK_c It.cells 4 w g 0 l.toArray (insertionSort ltI l.toArray 0 l.length) n os hH hglt hp.1
    have hsl := sorted_list (d := l.toArray) (by rw [hs]; exact hp) (by rw [hs]; exact hso)
    refine ⟨rfl, ?_, _, hsl.1, hsl.2, Sl.of_holdsK It.cells_len ?_ hh⟩
    · exact (Below.refl _ _).grown (grownBy_sortK _) hbase (fun k hk => by injection hk with hk; omega)
    · have := (grownBy_sortK (enc := It.cells) (k := 4) (w := w) (g := g) (n := n) (os := os) (insertionSort ltI l.toArray 0 l.length)).size
      omega

set_option maxHeartbeats 1000000 in
theorem stableCmp_any (A : Option Addr) (l : List It) (c base : Nat) (w : World) (hl : l.length ≤ 19) (hbase : base ≤ w.heap.size) (hown : w.ownsRow base 37 4 (.slice A l.length c) l.length (l.flatMap It.cells)) :
    Calls Try.prog 29 #[.slice A l.length c, .int .i64 l.length, .func (.func 25) #[] #[]] w (SortedTo base l A w) := by
  have H := Lib.hid (ins_any A l c base w (by omega) hbase hown)
  clear hown
  go_enter Try.func29, Try.ntmps29
  go_wp2_with fail
  refine wp_loop_rounds 1 ?_
  rw [rounds_succ]
  go_wp2_with fail
  refine H.out.mono ?_
  rintro e w1 ⟨rfl, hb, hr⟩
  have HR := Lib.hid hr
  clear hr
  go_wp2_with fail
  refine wp_loop_rounds 1 ?_
  rw [rounds_succ]
  go_wp2_with fail
  go_end0
  exact ⟨rfl, hb, HR.out⟩
set_option maxHeartbeats 1000000 in
theorem stable_any (A : Option Addr) (l : List It) (c base : Nat) (w : World) (hl : l.length ≤ 19) (hbase : base ≤ w.heap.size) (hown : w.ownsRow base 37 4 (.slice A l.length c) l.length (l.flatMap It.cells)) :
    Calls Try.prog 24 #[.slice A l.length c, .func (.func 25) #[] #[]] w (SortedTo base l A w) := by
  have H := Lib.hid (stableCmp_any A l c base w (by omega) hbase hown)
  clear hown
  go_enter Try.func24, Try.ntmps24
  go_wp2_with fail
  refine H.out.mono ?_
  rintro e w1 ⟨rfl, hb, hr⟩
  have HR := Lib.hid hr
  clear hr
  go_wp2_with fail
  go_end0
  exact ⟨rfl, hb, HR.out⟩
end Go.Proofs.Ytnkbdkpeoaobeaa
