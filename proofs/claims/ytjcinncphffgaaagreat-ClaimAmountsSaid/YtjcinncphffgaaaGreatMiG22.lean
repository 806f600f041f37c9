/- channel.Whole of any state. channel: room, of any state. lottery: New, Shown, Open, room, of any book. lottery: Open, room, of any book; draw.Top, Fair. -/
import Derived.Outline
import Derived.Test.YtjcinncphffgaaaGreatMiG21
import Derived.Test.YtjcinncphffgaaaGreatMiNum
import Derived.Test.YtjcinncphffgaaaGreatMiSdkA
import Derived.Test.YtjcinncphffgaaaGreatMiWonA
set_option linter.unusedVariables false
set_option linter.unusedSimpArgs false
namespace Go.Proofs.YtjcinncphffgaaaGreat
section
open Go.RowKit Go.Maps
/-- one of a list of entries is read -/
theorem wpList_load_en {ops : Array Oper} {rest : List Oper} {o : Oper} {a : Act} {w : World} {Q : Exit → Act → World → Prop} (hgd : o.guard = none) (x : Operand) (ho : o.op = .load 89 x) (b off : Nat) (hx : a.eval x = .pointer (some ⟨b, off, none⟩)) (y : En)
  (hc : ∀ j u, y.cl[j]? = some u → w.cell? ⟨b, off + j, none⟩ = some u) (h : wpList Tryz.prog ops Q rest (a.put o.dst (.agg y.cs)) w) : wpList Tryz.prog ops Q (o :: rest) a w := by
 refine wpList_load_mid (P := Tryz.prog) hgd 89 x ho b off hx y.cl _ hc Tryz.underlying89 rfl (by rw [infoEnt]; rfl) ?_
 show wpList Tryz.prog ops Q rest (a.put o.dst (.agg y.cs.toList.toArray)) w
 rw [Array.toArray_toList]
 exact h
def zEn0 : Array Value := #[.string ByteArray.empty, .int .i64 0, .int .i64 0, .int .u64 0, .string ByteArray.empty, .string ByteArray.empty, .int .i64 0, .string ByteArray.empty, .int .u64 0, .int .i64 0, .string ByteArray.empty]
def topsI (l : List En) : List Int := l.map fun e => (e.o.am : Int)
def wholeV (s : St) : Int := capL ((s.lock.o.am : Int) :: topsI s.tops)
theorem wholeV_bd (s : St) : 0 ≤ wholeV s ∧ wholeV s < 18446744073709551616 := capL_bd _ (by
 intro x hx
 rcases List.mem_cons.1 hx with rfl | hx
 ·omega
 ·obtain ⟨e, _, rfl⟩ := List.mem_map.1 hx; omega)
def encA (l : List Int) : List Value := l.map (Value.int .u64)
theorem topsI_snoc (l : List En) (k : Nat) (hk : k < l.length) : topsI (l.take (k + 1)) = topsI (l.take k) ++ [(l[k].o.am : Int)] := by
 unfold topsI
 rw [List.take_succ_eq_append_getElem hk, List.map_append]; rfl
theorem encA_snoc (a : Int) (l : List Int) (b : Int) : encA (a :: (l ++ [b])) = encA (a :: l) ++ [.int .u64 b] := by simp [encA]
set_option maxRecDepth 100000 in
set_option maxHeartbeats 2000000 in
theorem swhole_gen (s : St) (w : World) (hf : s.fit) (hS : Sl w w.heap.size 11 En.cl s.A s.tops) :
  Calls Tryz.prog 53 #[.agg s.cs] w fun e w' => e = .returned (.int .u64 (wholeV s)) ∧ Below w.heap.size w w' := by
 obtain ⟨i0, hi, hz0, hz1, hz2⟩ := info_parts Tryz.infoU64
 have Hhz := Lib.hid hz0
 have HS := Lib.hid hS
 have hlen := hf.tops
 have HX := Lib.hid (Blk.new w 103 s.cs)
 have HA0 : Hid (Below w.heap.size w (w.alloc (.cells s.cs 103))) := (Below.refl _ _).alloc (Nat.le_refl _) _
 have c3 : (w.alloc (.cells s.cs 103)).cell? ⟨w.heap.size, 3, none⟩ = some (.int .u64 s.lock.o.am) := HX.out.cell 3
 have c11 : ∀ o, ((w.alloc (.cells s.cs 103)).alloc o).cell? ⟨w.heap.size, 11, none⟩ = some (.slice s.A s.tops.length s.c) := fun o => (HX.out.alloc o).cell 11
 have HO0 : Hid (((w.alloc (.cells s.cs 103)).alloc (.cells #[.int .u64 (s.lock.o.am : Nat)] 48)).ownsRow w.heap.size 48 1 (.slice (some ⟨w.heap.size + 1, 0, none⟩) 1 1) 1 (encA [(s.lock.o.am : Int)])) := Lib.hid (own_lit (base := w.heap.size) (k := 1) (Blk.newAt (by simp)) (by omega) rfl (by decide))
 have HAB := Lib.hid (hf.tams)
 have hla := hf.lam
 have HSUM := fun A c W h => Lib.hid (sum64_any A ((s.lock.o.am : Int) :: topsI s.tops) c W (by simp [topsI]; omega) (by
  intro x hx
  rcases List.mem_cons.1 hx with rfl | hx
  ·omega
  ·obtain ⟨e, he, rfl⟩ := List.mem_map.1 hx
   have := HAB.out e he
   omega) h)
 have HWV : Hid (capN (totV ((s.lock.o.am : Int) :: topsI s.tops)) (totE ((s.lock.o.am : Int) :: topsI s.tops)) = wholeV s) := Lib.hid (capL_eq _)
 have HSN := fun k h => Lib.hid (topsI_snoc s.tops k h)
 have HTZ : Hid (((s.lock.o.am : Int) :: topsI s.tops).length = s.tops.length + 1) := Lib.hid (by simp [topsI])
 have HTK : Hid (topsI (s.tops.take s.tops.length) = topsI s.tops) := Lib.hid (by rw [List.take_length])
 obtain ⟨A, hA⟩ : ∃ A, A = s.A := ⟨_, rfl⟩
 rw [← hA] at c11 HS
 clear hz0 hf hS hA
 go_enter Tryz.func53, Tryz.ntmps53
 go_wp2_with fail
 go_loopw [3, 14] (fun v i wr => ∃ (k : Nat) (B : Option Addr) (c : Nat), k ≤ s.tops.length ∧ i = .int .i64 k ∧ v = .slice B (k + 1) c ∧ Hid (wr.ownsRow w.heap.size 48 1 (.slice B (k + 1) c) (k + 1) (encA ((s.lock.o.am : Int) :: topsI (s.tops.take k)))) ∧ Hid (Below w.heap.size w wr)) (fun _ i _ => s.tops.length - (intOf i).toNat)
 case atStart => exact ⟨0, _, _, Nat.zero_le _, rfl, rfl, HO0, HA0.out.alloc HA0.out.size _⟩
 case round =>
  obtain ⟨k, B, cc, hk, rfl, rfl, HO, HB⟩ := hrel
  have hz := HB.out.size
  clear c11 c3 HO0 HA0
  by_cases hlt : k < s.tops.length
  ·obtain ⟨ab, off, rfl, hbB, hc⟩ := (HS.out.below HB.out).at_ hlt
   have HSN1 := HSN k hlt
   have HAM := HAB.out _ (List.getElem_mem hlt)
   generalize s.tops[k] = x at hc HSN1 HAM
   generalize topsI (s.tops.take k) = ff at HO HSN1
   have HCC := Lib.hid hc
   clear hc HSN
   go_wp2_with (first
    | (refine wpList_load_en rfl (.tmp 16) rfl ab (off + k * 11) (by rfl) x HCC.out ?_)
    | (refine wpList_store_part rfl 89 (.tmp 5) (.tmp 17) rfl wr.heap.size 0 (cs := zEn0) (Blk.new _ _ _) x.cs x.cs (by rfl) (by rfl) (Nat.le_refl 11) infoEnt (encs_one x) (en_over x rfl) ?_; intro W1 hb1 hc1; have hb := bel_st' hc1; have HOW := Lib.hid (Ch.owns (Ch.of_below hb []) HO.out (by simp)); have g3 : W1.cell? ⟨wr.heap.size, 3, none⟩ = some (.int .u64 x.o.am) := hb1.cell 3; have HBW := Lib.hid (HB.out.trans (hb.mono hz)); have hzw1 : w.heap.size ≤ W1.heap.size := Nat.le_trans hz hb.size; clear hb1 hc1 hb)
    | (at_builtin; go_must (refine wpList_append_own _ rfl (.tmp 18) (.tmp 22) _ rfl w.heap.size 48 i0 _ 1 8 Tryz.underlying199 hi Hhz.out hz1 hz2 rfl (by decide) _ (k + 1) _ rfl (HOW.out.alloc _) ⟨W1.heap.size, 0, none⟩ 1 1 [.int .u64 (x.o.am : Nat)] rfl rfl (news_alloc _ _ _ _ _ rfl rfl) (one_int _) (by simp only [maxLen]; omega) (by omega) (by simp; omega) ?_); intro v' W2 hown1 hg1 hnil1; have HO1 := Lib.hid hown1; have HB2 := Lib.hid ((HBW.out.alloc HBW.out.size _).grown hg1 (HBW.out.alloc HBW.out.size _).size (own_base HOW.out)); clear hown1 hg1 hnil1))
   obtain ⟨B3, c3, rfl⟩ := own_form HO1.out
   go_roundw
   case rel => exact ⟨k + 1, B3, c3, by omega, by go_num, rfl, Lib.hid (by rw [HSN1.out, encA_snoc]; exact HO1.out), HB2⟩
   case measure => simp [intOf]; omega
  ·have hkl : k = s.tops.length := by omega
   subst hkl
   rw [HTK.out] at HO
   go_wp2_with fail
   have hsl := HSUM B cc wr (Sl.of_own (base := w.heap.size) (n := s.tops.length + 1) (c := cc) (e := 48) (fun _ => rfl) (by rw [u64_flat, HTZ.out]; exact HO.out))
   rw [HTZ.out] at hsl
   refine hsl.out.mono ?_
   rintro e w6 ⟨rfl, rfl⟩
   go_wp2_with fail
   refine (capped_any _ _ _).mono ?_
   rintro e w6 ⟨rfl, rfl⟩
   rw [HWV.out]
   go_wp2_with fail
   go_ret
   exact ⟨rfl, HB.out⟩
end
section
open Go.RowKit Go.Maps
def capA (a b : Int) : Int := capN (plusV a b) (plusE a b)
def xroomB (s : St) (r : Nat) : Bool := decide (worthV s < 18446744073709551615) && decide (capA (worthV s) r ≤ wholeV s) && decide ((r : Int) ≤ 18446744073709551615 - worthV s)
theorem int_nat {x : Int} (h : 0 ≤ x) : ∃ n : Nat, x = n := ⟨x.toNat, by omega⟩
set_option maxRecDepth 100000 in
set_option maxHeartbeats 2000000 in
theorem xroom_any (s : St) (r : Nat) (w : World) (hf : s.fit) (hr : r < 18446744073709551616) (hS : s.mem w) :
  Calls Tryz.prog 120 #[.agg s.cs, .int .u64 (r : Nat)] w fun e w' => e = .returned (.bool (xroomB s r)) ∧ Below w.heap.size w w' := by
 have HX := Lib.hid (Blk.new w 103 s.cs)
 have HA0 : Hid (Below w.heap.size w (w.alloc (.cells s.cs 103))) := (Below.refl _ _).alloc (Nat.le_refl _) _
 have HWO := fun W => Lib.hid (sworth_any s W hf)
 have HWH := fun W hW => Lib.hid (swhole_gen s W hf (hS.bel (w' := W) hW).tops)
 have HR : Hid (xroomB s r = (decide (worthV s < 18446744073709551615) && decide (capA (worthV s) r ≤ wholeV s) && decide ((r : Int) ≤ 18446744073709551615 - worthV s))) := rfl
 obtain ⟨wv, hwv⟩ := int_nat (paidV_bd s s.faces).1
 have hwl := (paidV_bd s s.faces).2
 rw [hwv] at hwl
 have hwv' : worthV s = wv := hwv
 rw [hwv'] at HWO HR
 have HAD := fun W => Lib.hid (add_any wv r W (by omega) (by omega) (by omega) (by omega))
 have HCA := fun W => Lib.hid (capped_any (plusV wv r) (plusE wv r) W)
 have HCQ : Hid (capN (plusV wv r) (plusE wv r) = capA wv r) := rfl
 rw [HCQ.out] at HCA
 generalize capA wv r = cp at HCA HR
 generalize wholeV s = wh at HWH HR
 generalize xroomB s r = rb at HR ⊢
 have hwr : IntKind.u64.wrap ((18446744073709551615 : Int) - (wv : Int)) = 18446744073709551615 - wv := by rw [IntKind.wrap_u64]; omega
 clear hf hS hwv hwv' HCQ hr
 go_enter Tryz.func120, Tryz.ntmps120
 go_wp2_with (refine wpList_load_blk rfl 103 (.tmp 2) rfl w.heap.size 0 20 HX.out s.cs (by rfl) (st_ext s) Tryz.underlying103 infoSta (st_le s) ?_)
 refine (HWO _).out.mono ?_
 rintro e w1 ⟨rfl, hb⟩
 replace HX := Lib.hid (HX.out.bel hb)
 replace HA0 := Lib.hid (HA0.out.trans (hb.mono HA0.out.size))
 clear hb HWO
 go_wp2_with fail
 have hW1 : ∀ W, Below w1.heap.size w1 W → Below w.heap.size w W := fun W h => HA0.out.trans (h.mono HA0.out.size)
 have HW1 := Lib.hid hW1
 clear hW1
 by_cases h1 : (wv : Int) < 18446744073709551615
 ·rw [decide_eq_true h1] at HR
  have d1 : decide ((wv : Int) < 18446744073709551615) = true := decide_eq_true h1
  obtain ⟨b3, hb3⟩ : ∃ b3, decide ((r : Int) ≤ 18446744073709551615 - (wv : Int)) = b3 := ⟨_, rfl⟩
  rw [hb3] at HR
  by_cases h2 : cp ≤ wh
  ·rw [decide_eq_true h2] at HR
   have d2 : decide (cp ≤ wh) = true := decide_eq_true h2
   obtain rfl : rb = b3 := by rw [HR.out]; simp
   clear h1 h2 hwl HR
   refine wp_region_quiet_below (by kernel_rfl) (by kernel_rfl) ?_
   repeat (first | go_big_quiet_skip | (go_big_quiet_want; first | ((refine quiet_load_blk 103 (.tmp 2) rfl w.heap.size 0 20 HX.out s.cs (by rfl) (st_ext s) Tryz.underlying103 infoSta (st_le s) ?_; go_simp); go_big_quiet_on) | (go_big_quiet_op; first | go_big_quiet_on | go_big_quiet_call ((first
       | (go_at_call 102; exact Calls.rg_same fun W _ => (HAD W).out)
       | (go_at_call 127; exact Calls.rg_same fun W _ => (HCA W).out)
       | (go_at_call 53; exact Calls.rg fun W hW => (HWH W (HW1.out W hW)).out))))))
   refine wpQuiet_nil ?_
   intro U hp
   have hb := bel_regrown hp
   clear hp
   go_wp2_with fail
   go_ret
   exact ⟨rfl, HW1.out _ hb⟩
  ·rw [decide_eq_false h2] at HR
   have d2 : decide (cp ≤ wh) = false := decide_eq_false h2
   obtain rfl : rb = false := by rw [HR.out]; simp
   clear h1 h2 hwl HR
   refine wp_region_quiet_below (by kernel_rfl) (by kernel_rfl) ?_
   repeat (first | go_big_quiet_skip | (go_big_quiet_want; first | ((refine quiet_load_blk 103 (.tmp 2) rfl w.heap.size 0 20 HX.out s.cs (by rfl) (st_ext s) Tryz.underlying103 infoSta (st_le s) ?_; go_simp); go_big_quiet_on) | (go_big_quiet_op; first | go_big_quiet_on | go_big_quiet_call ((first
       | (go_at_call 102; exact Calls.rg_same fun W _ => (HAD W).out)
       | (go_at_call 127; exact Calls.rg_same fun W _ => (HCA W).out)
       | (go_at_call 53; exact Calls.rg fun W hW => (HWH W (HW1.out W hW)).out))))))
   refine wpQuiet_nil ?_
   intro U hp
   have hb := bel_regrown hp
   clear hp
   go_wp2_with fail
   go_ret
   exact ⟨rfl, HW1.out _ hb⟩
 ·rw [decide_eq_false h1] at HR
  have d1 : decide ((wv : Int) < 18446744073709551615) = false := decide_eq_false h1
  obtain rfl : rb = false := by rw [HR.out]; simp
  clear h1 hwl HR
  refine wp_region_quiet_below (by kernel_rfl) (by kernel_rfl) ?_
  repeat (first | go_big_quiet_skip | (go_big_quiet_want; first | (fail; go_big_quiet_on) | (go_big_quiet_op; first | go_big_quiet_on | go_big_quiet_call (fail))))
  refine wpQuiet_nil ?_
  intro U hp
  have hb := bel_regrown hp
  clear hp
  go_wp2_with fail
  go_ret
  exact ⟨rfl, HW1.out _ hb⟩
theorem capA_is (a b : Int) : capN (plusV a b) (plusE a b) = capA a b := rfl
attribute [irreducible] capA
end
section
open Go.RowKit
end
section
open Go.RowKit
end
end Go.Proofs.YtjcinncphffgaaaGreat
