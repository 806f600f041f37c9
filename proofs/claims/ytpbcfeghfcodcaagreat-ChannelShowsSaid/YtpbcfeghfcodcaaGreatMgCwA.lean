/- coin.Whole: what a list of outputs is on the whole. -/
import Derived.Test.YtpbcfeghfcodcaaGreatMgChA
import Derived.Test.YtpbcfeghfcodcaaGreatMgUt
set_option linter.unusedVariables false
set_option linter.unusedSimpArgs false
namespace Go.Proofs.YtpbcfeghfcodcaaGreat
open Go.RowKit Go.Maps
def ousI (l : List Ou) : List Int := l.map fun o => (o.am : Int)
theorem ousI_snoc (l : List Ou) (k : Nat) (hk : k < l.length) : ousI (l.take (k + 1)) = ousI (l.take k) ++ [(l[k].am : Int)] := by
  unfold ousI
  rw [List.take_succ_eq_append_getElem hk, List.map_append]; rfl
theorem encA_snoc' (l : List Int) (b : Int) : encA (l ++ [b]) = encA l ++ [.int .u64 b] := by simp [encA]
set_option maxRecDepth 100000 in
set_option maxHeartbeats 2000000 in
theorem coinwhole_any (A : Option Addr) (l : List Ou) (c : Nat) (w : World) (hS : Sl w w.heap.size 9 Ou.cl A l) (hl : l.length ≤ 1000) (ha : ∀ o ∈ l, o.am < 18446744073709551616) :
    Calls Tryz.prog 16 #[.slice A l.length c] w fun e w' => e = .returned (.tuple #[.int .u64 (totV (ousI l)), .int .i64 (totE (ousI l))]) ∧ Below w.heap.size w w' := by
  obtain ⟨i0, hi, hz0, hz1, hz2⟩ := info_parts Tryz.infoU64
  have Hhz := Lib.hid hz0
  have HS := Lib.hid hS
  have HSUM := fun A c W h => Lib.hid (sum64_any A (ousI l) c W (by simp [ousI]; omega) (by
    intro x hx
    obtain ⟨e, he, rfl⟩ := List.mem_map.1 hx
    have := ha e he
    omega) h)
  have HSN := fun k h => Lib.hid (ousI_snoc l k h)
  have HTZ : Hid ((ousI l).length = l.length) := Lib.hid (by simp [ousI])
  have HTK : Hid (ousI (l.take l.length) = ousI l) := Lib.hid (by rw [List.take_length])
  clear hz0 hS ha
  go_enter Tryz.func16, Tryz.ntmps16
  go_wp2_with fail
  go_loopw [4, 9] (fun v i wr => ∃ (k : Nat) (B : Option Addr) (c : Nat), k ≤ l.length ∧ i = .int .i64 k ∧ v = .slice B k c ∧ Hid (wr.ownsRow w.heap.size 24 1 (.slice B k c) k (encA (ousI (l.take k)))) ∧ Hid (Below w.heap.size w wr)) (fun _ i _ => l.length - (intOf i).toNat)
  case atStart => exact ⟨0, none, 0, Nat.zero_le _, rfl, rfl, Lib.hid (own_nil _ _ _ _), Lib.hid (Below.refl _ _)⟩
  case round =>
    obtain ⟨k, B, cc, hk, rfl, rfl, HO, HB⟩ := hrel
    have hz := HB.out.size
    by_cases hlt : k < l.length
    · obtain ⟨ab, off, rfl, hbB, hc⟩ := (HS.out.below HB.out).at_ hlt
      have HSN1 := HSN k hlt
      generalize l[k] = x at hc HSN1
      generalize ousI (l.take k) = ff at HO HSN1
      have HCC := Lib.hid hc
      clear hc HSN
      go_wp2_with (first
        | (refine wpList_load_ou rfl (.tmp 11) rfl ab (off + k * 9) (by rfl) x HCC.out ?_)
        | (refine wpList_store_part rfl 26 (.tmp 6) (.tmp 12) rfl wr.heap.size 0 (cs := zOu.cs) (Blk.new _ _ _) x.cs x.cs (by rfl) (by rfl) (Nat.le_refl 9) infoOu9 (oucs_one x) (ouv_over x rfl) ?_; intro W1 hb1 hc1; have hb := bel_st' hc1; have HOW := Lib.hid (Ch.owns (Ch.of_below hb []) HO.out (by simp)); have g1 : W1.cell? ⟨wr.heap.size, 1, none⟩ = some (.int .u64 x.am) := hb1.cell 1; have HBW := Lib.hid (HB.out.trans (hb.mono hz)); have hzw1 : w.heap.size ≤ W1.heap.size := Nat.le_trans hz hb.size; clear hb1 hc1 hb)
        | (at_builtin; go_must (refine wpList_append_own _ rfl (.tmp 13) (.tmp 16) _ rfl w.heap.size 24 i0 _ 1 8 Tryz.underlying85 hi Hhz.out hz1 hz2 rfl (by decide) _ k _ rfl (HOW.out.alloc _) ⟨W1.heap.size, 0, none⟩ 1 1 [.int .u64 (x.am : Nat)] rfl rfl (news_alloc _ _ _ _ _ rfl rfl) (one_int _) (by simp only [maxLen]; omega) (by omega) (by simp; omega) ?_); intro v' W2 hown1 hg1 hnil1; have HO1 := Lib.hid hown1; have HB2 := Lib.hid ((HBW.out.alloc HBW.out.size _).grown hg1 (HBW.out.alloc HBW.out.size _).size (own_base HOW.out)); clear hown1 hg1 hnil1))
      obtain ⟨B3, c3, rfl⟩ := own_form HO1.out
      go_roundw
      case rel => exact ⟨k + 1, B3, c3, by omega, by go_num, rfl, Lib.hid (by rw [HSN1.out, encA_snoc']; exact HO1.out), HB2⟩
      case measure => simp [intOf]; omega
    · have hkl : k = l.length := by omega
      subst hkl
      rw [HTK.out] at HO
      have hsl := HSUM B cc wr (Sl.of_own (base := w.heap.size) (n := l.length) (c := cc) (e := 24) (fun _ => rfl) (by rw [u64_flat, HTZ.out]; exact HO.out))
      rw [HTZ.out] at hsl
      go_wp2_with fail
      refine hsl.out.mono ?_
      rintro e w6 ⟨rfl, rfl⟩
      go_wp2_with fail
      go_ret2
      exact ⟨rfl, HB.out⟩
end Go.Proofs.YtpbcfeghfcodcaaGreat
