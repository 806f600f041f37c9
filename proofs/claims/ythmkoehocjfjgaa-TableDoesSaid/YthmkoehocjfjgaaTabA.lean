/- table.Table: New, may, Put, Del, Get, Len. -/
import Derived.Test.YthmkoehocjfjgaaBlk
import Derived.Test.YthmkoehocjfjgaaPlain15

import Derived.StringKeys
import Derived.Lib.Bytealg
import Derived.Lib.Small
namespace Go.Proofs.Ythmkoehocjfjgaa
open Go.RowKit Go.Maps Go.WideMaps

theorem lawS : Keyed Try.prog 9 := string_keyed Try.underlying9
theorem zeroS (w : World) : (zeroValue 9).run Try.prog w = .ok (.string ByteArray.empty) w := by kernel_rfl
noncomputable abbrev elS : Value → Option (DataW Unit × List MemPlace) := plainElem Try.prog 9
theorem elS_mk {s : ByteArray} (hs : s.size ≤ maxLen) : elS (.string s) = some (vLit s, []) := plainElem_string Try.underlying9 hs
theorem keyS {s : ByteArray} (hs : s.size ≤ maxLen) : keyOf Try.prog 9 (.string s) = some (kLit s) := keyOf_string_mk Try.underlying9 hs
/-- block b is a map that has the rows T -/
def Mp (w : World) (b : Nat) (T : List KV) : Prop := w.ownsMap Try.prog 9 elS b T.length (dm T)
section
variable {w w' : World} {b n : Nat} {T : List KV}
theorem Mp.tight (h : w.ownsMap Try.prog 9 elS b n (dm T)) : Mp w b T := by
  obtain ⟨es, clock, hb, F, hs, hD⟩ := h
  refine ⟨es, clock, hb, F, ?_, hD⟩
  have h1 := congrArg Maps.size hD
  rw [dm_size] at h1
  have h2 : Maps.size (DataW.map ((es.toList.map (WideElems.rg Try.prog 9 elS)).foldr DataW.insert [])) = es.size := by simp [Maps.size, length_sorted]
  rw [h2] at h1
  omega
theorem Mp.new (w : World) : Mp (w.alloc (.map #[] 0)) w.heap.size [] := World.ownsMap_made _ _ _ _
theorem Mp.ch {S : List Nat} (h : Mp w b T) (hc : Ch S w w') (hn : b ∉ S) : Mp w' b T := Ch.map hc h hn
theorem Mp.lt (h : Mp w b T) : b < w.heap.size := World.ownsMap.lt h
theorem Mp.ne_blk {g : Nat} {t : TypeId} {cs : Array Value} (h : Mp w b T) (hg : Blk w g t cs) : b ≠ g := by
  rintro rfl
  obtain ⟨es, clock, hb, _⟩ := h
  unfold Blk at hg
  rw [hb] at hg; cases hg
theorem Mp.look (h : Mp w b T) (k : ByteArray) (hk : k.size ≤ maxLen) : (Instr.lookup 60 (.map (some b)) (.string k) true).run Try.prog w = .ok (.tuple #[.string ((getT k T).getD ByteArray.empty), .bool (getT k T).isSome]) w := by
  obtain ⟨v, ps, hrun, hv⟩ := World.ownsMap.look_ok h lawS Try.underlying60 (zeroS w) (zd := vLit ByteArray.empty) (zp := []) (elS_mk (by simp [maxLen])) (keyS hk)
  obtain ⟨s, rfl, hs, _⟩ := plainElem_string_inv Try.underlying9 hv
  rw [hrun, dm_has]
  have hs' := congrArg Prod.fst hs
  rw [dm_at] at hs'
  have e : s = (getT k T).getD ByteArray.empty := by
    refine ba_ext ?_
    cases hg : getT k T with
    | none => rw [hg] at hs'; simp [vLit] at hs'; simp [hs']
    | some v => rw [hg] at hs'; simp [vLit] at hs'; simp [hs']
  rw [e]
theorem Mp.look1 (h : Mp w b T) (k : ByteArray) (hk : k.size ≤ maxLen) : (Instr.lookup 60 (.map (some b)) (.string k) false).run Try.prog w = .ok (.string ((getT k T).getD ByteArray.empty)) w := by
  obtain ⟨v, ps, hrun, hv⟩ := World.ownsMap.lookup h lawS Try.underlying60 (zeroS w) (zd := vLit ByteArray.empty) (zp := []) (elS_mk (by simp [maxLen])) (keyS hk)
  obtain ⟨s, rfl, hs, _⟩ := plainElem_string_inv Try.underlying9 hv
  rw [hrun]
  have hs' := congrArg Prod.fst hs
  rw [dm_at] at hs'
  have e : s = (getT k T).getD ByteArray.empty := by
    refine ba_ext ?_
    cases hg : getT k T with
    | none => rw [hg] at hs'; simp [vLit] at hs'; simp [hs']
    | some v => rw [hg] at hs'; simp [vLit] at hs'; simp [hs']
  rw [e]
theorem Mp.len (h : Mp w b T) : (Builtin.len_ #[60] 3 #[.map (some b)]).run Try.prog w = .ok (.int .i64 (T.length : Int)) w := by
  have := World.ownsMap.len h Try.underlying60 3
  rw [dm_size] at this; exact this
theorem Mp.store (h : Mp w b T) (hs : Srt T) {k v : ByteArray} (hk : k.size ≤ maxLen) (hv : v.size ≤ maxLen) (hn : T.length < maxLen) :
    ∃ w', (Instr.mapUpdate 60 (.map (some b)) (.string k) (.string v)).run Try.prog w = .ok () w' ∧ Mp w' b (putT k v T) ∧ Ch [b] w w' := by
  obtain ⟨w', hrun, h1, h2⟩ := World.ownsMap.store h lawS Try.underlying60 hn (keyS hk) (elS_mk hv)
  rw [dm_put hs] at h1
  exact ⟨w', hrun, Mp.tight h1, Ch.of_grown h2.grown⟩
theorem Mp.drop (h : Mp w b T) {k : ByteArray} (hk : k.size ≤ maxLen) (ty : TypeId) :
    ∃ w', (Builtin.delete_ #[60, 9] ty #[.map (some b), .string k]).run Try.prog w = .ok (.tuple #[]) w' ∧ Mp w' b (delT k T) ∧ Ch [b] w w' := by
  obtain ⟨w', hrun, h1, h2⟩ := World.ownsMap.drop h lawS Try.underlying60 (keyS hk) ty
  rw [dm_del] at h1
  exact ⟨w', hrun, Mp.tight h1, Ch.of_grown h2.grown⟩
end

theorem str_nil {s : ByteArray} (h : s.toList = []) : s.size = 0 := by
  rw [Lib.toList_data] at h
  have := congrArg List.length h
  simpa using this
theorem str_pos {s : ByteArray} (h : ¬ s.toList = []) : 1 ≤ s.size := by
  rcases Nat.eq_zero_or_pos s.size with e | e
  · exfalso; apply h; rw [Lib.toList_data]; exact List.eq_nil_of_length_eq_zero (by simpa using e)
  · exact e
theorem mayB_eq (k v : ByteArray) : mayB k v = (decide (1 ≤ k.size) && decide (k.size ≤ 64) && decide (v.size ≤ 2048)) := rfl
set_option maxHeartbeats 400000 in
theorem may_any (k v : ByteArray) (w : World) (hk : k.size ≤ maxLen) (hv : v.size ≤ maxLen) : Calls Try.prog 32 #[.string k, .string v] w fun e w' => e = .returned (.bool (mayB k v)) ∧ w = w' := by
  unfold maxLen at hk hv
  go_enter Try.func32, Try.ntmps32
  go_wp2
  · next h => go_ret; exact ⟨ret_bool (by rw [mayB_eq]; simp [str_nil h]), rfl⟩
  · have h := ‹¬ k.toList = []›
    go_ret; exact ⟨ret_bool (by rw [mayB_eq, Bool.eq_iff_iff]; have := str_pos h; simp [h]; omega), rfl⟩
  · have h := ‹¬ k.toList = []›
    go_ret; exact ⟨ret_bool (by rw [mayB_eq, Bool.eq_iff_iff]; have := str_pos h; simp; omega), rfl⟩

def TabAt (w : World) (tb mb : Nat) (most : Int) (T : List KV) : Prop := Blk w tb 62 #[.map (some mb), .int .i64 most] ∧ Mp w mb T
theorem TabAt.ch {w w' : World} {tb mb : Nat} {most : Int} {T : List KV} {S : List Nat} (h : TabAt w tb mb most T) (hc : Ch S w w') (h1 : tb ∉ S) (h2 : mb ∉ S) : TabAt w' tb mb most T := ⟨h.1.ch hc h1, h.2.ch hc h2⟩
theorem TabAt.ne_ {w : World} {tb mb : Nat} {most : Int} {T : List KV} (h : TabAt w tb mb most T) : mb ≠ tb := h.2.ne_blk h.1

set_option maxHeartbeats 400000 in
theorem get_any (tb mb : Nat) (most : Int) (T : List KV) (k : ByteArray) (w : World) (hk : k.size ≤ maxLen) (h : TabAt w tb mb most T) :
    Calls Try.prog 22 #[.pointer (some ⟨tb, 0, none⟩), .string k] w fun e w' => e = .returned (.tuple #[.string ((getT k T).getD ByteArray.empty), .int .i64 (delE k T)]) ∧ w = w' := by
  have c0 : w.cell? ⟨tb, 0, none⟩ = some (.map (some mb)) := h.1.cell 0
  have hl := h.2.look k hk
  have HD : Hid (delE k T = if (getT k T).isNone then 6 else 0) := rfl
  unfold maxLen at hk
  generalize delE k T = d at HD ⊢
  cases hg : getT k T with
  | none =>
    rw [hg] at hl HD
    simp at hl
    clear hg h
    go_enter Try.func22, Try.ntmps22
    go_wp2
    go_ret2
    exact ⟨by rw [HD.out]; rfl, rfl⟩
  | some v =>
    rw [hg] at hl HD
    simp at hl
    clear hg h
    go_enter Try.func22, Try.ntmps22
    go_wp2
    go_ret2
    exact ⟨by rw [HD.out]; rfl, rfl⟩
set_option maxHeartbeats 400000 in
theorem len_any (tb mb : Nat) (most : Int) (T : List KV) (w : World) (h : TabAt w tb mb most T) :
    Calls Try.prog 21 #[.pointer (some ⟨tb, 0, none⟩)] w fun e w' => e = .returned (.int .i64 (T.length : Int)) ∧ w = w' := by
  have c0 : w.cell? ⟨tb, 0, none⟩ = some (.map (some mb)) := h.1.cell 0
  have hl := h.2.len
  clear h
  go_enter Try.func21, Try.ntmps21
  go_wp2
  go_ret
  exact ⟨rfl, rfl⟩
set_option maxHeartbeats 400000 in
theorem new_ok (m : Int) (w : World) (h1 : 1 ≤ m) (h2 : m ≤ 1000) :
    Calls Try.prog 9 #[.int .i64 m] w fun e w' => ∃ tb mb, e = .returned (.tuple #[.pointer (some ⟨tb, 0, none⟩), .int .i64 0]) ∧ TabAt w' tb mb m [] ∧ w.heap.size ≤ tb ∧ w.heap.size ≤ mb ∧ Below w.heap.size w w' := by
  have hmm := @run_makeMap Try.prog
  go_enter Try.func9, Try.ntmps9
  go_wp2
  go_ret2
  refine ⟨w.heap.size + 1, w.heap.size, rfl, ⟨?_, ?_⟩, by omega, Nat.le_refl _, ((Below.refl _ _).alloc (Nat.le_refl _) _).alloc (by simp) _⟩
  · have := Blk.new (w.alloc (.map #[] 0)) 62 #[.map (some w.heap.size), .int .i64 m]
    simpa using this
  · exact (Mp.new w).ch (Ch.alloc [] _ _) (by simp)
set_option maxHeartbeats 400000 in
theorem new_no (m : Int) (w : World) (h : m < 1 ∨ 1000 < m) :
    Calls Try.prog 9 #[.int .i64 m] w fun e w' => e = .returned (.tuple #[.pointer none, .int .i64 1]) ∧ w = w' := by
  rcases h with h | h
  · go_enter Try.func9, Try.ntmps9
    go_wp2
    go_ret2
    exact ⟨rfl, rfl⟩
  · have h' : ¬ m < 1 := by omega
    go_enter Try.func9, Try.ntmps9
    go_wp2
    go_ret2
    exact ⟨rfl, rfl⟩
end Go.Proofs.Ythmkoehocjfjgaa
