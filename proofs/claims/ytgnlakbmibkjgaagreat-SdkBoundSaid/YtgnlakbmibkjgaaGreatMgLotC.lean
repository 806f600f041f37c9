/- lottery: Open, room, of any book; draw.Top, Fair. -/
import Derived.Outline
import Derived.Test.YtgnlakbmibkjgaaGreatMgLotB
import Derived.Test.YtgnlakbmibkjgaaGreatMgNum
set_option linter.unusedVariables false
set_option linter.unusedSimpArgs false
namespace Go.Proofs.YtgnlakbmibkjgaaGreat
open Go.RowKit
theorem wpList_load_of {ops : Array Oper} {rest : List Oper} {o : Oper} {a : Act} {w : World} {Q : Exit → Act → World → Prop} (hgd : o.guard = none) (x : Operand) (ho : o.op = .load 51 x) (b off : Nat) (hx : a.eval x = .pointer (some ⟨b, off, none⟩)) (y : Of)
    (hc : ∀ j u, y.cl[j]? = some u → w.cell? ⟨b, off + j, none⟩ = some u) (h : wpList Tryz.prog ops Q rest (a.put o.dst (.agg y.cs)) w) : wpList Tryz.prog ops Q (o :: rest) a w := by
  refine wpList_load_mid (P := Tryz.prog) hgd 51 x ho b off hx y.cl _ hc Tryz.underlying51 rfl (by rw [infoOffer]; rfl) ?_
  show wpList Tryz.prog ops Q rest (a.put o.dst (.agg y.cs.toList.toArray)) w
  rw [Array.toArray_toList]
  exact h
def opn1 (o : Of) : Nat := if o.taken then 0 else o.face
def opnN (l : List Of) : Nat := (l.map opn1).sum
def opnV (l : List Of) : Nat := opnN l % 18446744073709551616
theorem opnV_snoc (l : List Of) (k : Nat) (h : k < l.length) : opnV (l.take (k + 1)) = (opnV (l.take k) + opn1 l[k]) % 18446744073709551616 := by
  unfold opnV opnN
  rw [List.take_succ_eq_append_getElem h, List.map_append, List.sum_append]
  simp
set_option maxRecDepth 100000 in
set_option maxHeartbeats 1000000 in
theorem open_any (b next : Nat) (ch client : ByteArray) (l : List Of) (w : World) (h : BookAt w b ch client next l) (hl : l.length ≤ 1000) (hf : ∀ o ∈ l, o.face < 18446744073709551616) :
    Calls Tryz.prog 189 #[.pointer (some ⟨b, 0, none⟩)] w fun e w' => e = .returned (.int .u64 (opnV l : Nat)) ∧ Below w.heap.size w w' := by
  obtain ⟨A, c, h1, h2, _⟩ := h
  have HS := Lib.hid h2
  have HF := Lib.hid hf
  have c3 : w.cell? ⟨b, 3, none⟩ = some (.slice A l.length c) := h1.cell 3
  clear h1 h2 hf
  go_enter Tryz.func189, Tryz.ntmps189
  go_wp2_with fail
  go_loopw [3, 11] (fun v i wr => ∃ k : Nat, k ≤ l.length ∧ i = .int .i64 k ∧ v = .int .u64 (opnV (l.take k) : Nat) ∧ Hid (Below w.heap.size w wr)) (fun _ i _ => l.length - (intOf i).toNat)
  case atStart => exact ⟨0, Nat.zero_le _, rfl, rfl, Below.refl _ _⟩
  case round =>
    obtain ⟨k, hk, rfl, rfl, HB⟩ := hrel
    have hz := HB.out.size
    clear c3
    by_cases hlt : k < l.length
    · obtain ⟨ab, off, rfl, hbB, hc⟩ := (HS.out.below HB.out).at_ hlt
      have HN := Lib.hid (opnV_snoc l k hlt)
      have hfx := HF.out _ (List.getElem_mem hlt)
      have hv : opnV (l.take k) < 18446744073709551616 := Nat.mod_lt _ (by decide)
      generalize l[k] = x at hc HN hfx
      generalize hve : opnV (l.take k) = v at hv HN ⊢
      have HCC := Lib.hid hc
      have hwr : Hid (IntKind.u64.wrap ((v : Int) + (x.face : Int)) = (((v + x.face) % 18446744073709551616 : Nat) : Int)) := by
        show _ = _
        rw [IntKind.wrap_u64]; omega
      clear hc hve
      cases htk : x.taken with
      | true =>
        have HT := Lib.hid htk
        clear htk
        go_wp2_with (first
          | (refine wpList_load_of rfl (.tmp 13) rfl ab (off + k * 9) (by rfl) x HCC.out ?_)
          | (refine wpList_store_part rfl 51 (.tmp 5) (.tmp 14) rfl wr.heap.size 0 (cs := zOf) (Blk.new _ _ _) x.cs x.cs (by rfl) (by rfl) (Nat.le_refl 9) infoOffer (ofcs_one x) (ofcs_over zOf x rfl) ?_; intro W1 hb1 hc1; have hb := Lib.hid (bel_st hc1); have g8 : W1.cell? ⟨wr.heap.size, 8, none⟩ = some (.bool true) := by rw [← HT.out]; exact hb1.cell 8
             clear hb1 hc1))
        go_roundw
        case rel => exact ⟨k + 1, by omega, by go_num, by rw [HN.out]; unfold opn1; rw [HT.out, if_pos rfl, Nat.add_zero, Nat.mod_eq_of_lt hv], HB.out.trans (hb.out.mono hz)⟩
        case measure => simp [intOf]; omega
      | false =>
        have HT := Lib.hid htk
        clear htk
        go_wp2_with (first
          | (refine wpList_load_of rfl (.tmp 13) rfl ab (off + k * 9) (by rfl) x HCC.out ?_)
          | (refine wpList_store_part rfl 51 (.tmp 5) (.tmp 14) rfl wr.heap.size 0 (cs := zOf) (Blk.new _ _ _) x.cs x.cs (by rfl) (by rfl) (Nat.le_refl 9) infoOffer (ofcs_one x) (ofcs_over zOf x rfl) ?_; intro W1 hb1 hc1; have hb := Lib.hid (bel_st hc1); have g8 : W1.cell? ⟨wr.heap.size, 8, none⟩ = some (.bool false) := by rw [← HT.out]; exact hb1.cell 8
             have g2 : W1.cell? ⟨wr.heap.size, 2, none⟩ = some (.int .u64 x.face) := hb1.cell 2
             clear hb1 hc1))
        go_roundw
        case rel => exact ⟨k + 1, by omega, by go_num, by rw [HN.out]; unfold opn1; rw [HT.out, hwr.out]; rfl, HB.out.trans (hb.out.mono hz)⟩
        case measure => simp [intOf]; omega
    · have hkl : k = l.length := by omega
      subst hkl
      rw [List.take_length]
      go_wp2_with fail
      go_ret
      exact ⟨rfl, HB.out⟩
end Go.Proofs.YtgnlakbmibkjgaaGreat
