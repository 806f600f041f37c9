/- sha.New, Write, Copy. sha: Copy, Sum, Short, Tag. Plain words: steps, signatures, trees, over a hash tagB of a word and parts (16 bytes). No program. wots.Step; the calls of Tag with one, two, three parts. -/
import Derived.Outline
import Derived.WalkMore
import Derived.ScopeJumps
import Derived.Deep.RegionHeld3
import Derived.Test.YtdoebmikjgmnaaaGreatMgG04
import Derived.Test.YtdoebmikjgmnaaaGreatMgG05
set_option linter.unusedVariables false
set_option linter.unusedSimpArgs false
namespace Go.Proofs.YtdoebmikjgmnaaaGreat
open Go.RowKit
set_option maxRecDepth 100000 in
set_option maxHeartbeats 400000 in
theorem begin_any (w : World) : Calls Tryz.prog 147 #[] w fun e w' => e = .returned (.agg #[.int .u32 beginV.a, .int .u32 beginV.b, .int .u32 beginV.c, .int .u32 beginV.d, .int .u32 beginV.e, .int .u32 beginV.f, .int .u32 beginV.g, .int .u32 beginV.h]) ∧ Below w.heap.size w w' := by
  go_enter Tryz.func147, Tryz.ntmps147
  go_wp2_with fail
  exact bodyPost_ret (v := .agg #[.int .u32 beginV.a, .int .u32 beginV.b, .int .u32 beginV.c, .int .u32 beginV.d, .int .u32 beginV.e, .int .u32 beginV.f, .int .u32 beginV.g, .int .u32 beginV.h]) (by simp [results, Tryz.results147, go_sem, beginV]) rfl ⟨rfl, (Below.refl _ _).alloc (Nat.le_refl _) _⟩
set_option maxRecDepth 100000 in
set_option maxHeartbeats 400000 in
theorem hnew_any (w : World) : Calls Tryz.prog 128 #[] w fun e w' => ∃ g, e = .returned (.pointer (some ⟨g, 0, none⟩)) ∧ w.heap.size ≤ g ∧ HashAt w' g beginV ByteArray.empty 0 ∧ Below w.heap.size w w' := by
  go_enter Tryz.func128, Tryz.ntmps128
  go_wp2_with fail
  refine (begin_any _).mono ?_
  rintro e w1 ⟨rfl, hb⟩
  go_wp2_with fail
  go_ret
  exact ⟨w1.heap.size, rfl, hb.size, Blk.new _ _ _, hb.alloc hb.size _⟩
def leftOf (g : Nat) (w : World) : Nat := match w.cell? ⟨g, 8, none⟩ with
  | some (.string t) => t.size
  | _ => 0
theorem leftOf_at {w : World} {g : Nat} {v : V8} {left : ByteArray} {n : Int} (h : HashAt w g v left n) : leftOf g w = left.size := by
  unfold leftOf
  rw [Blk.cell h 8]; rfl
theorem HashAt.drewN {w : World} {g : Nat} {v : V8} {left : ByteArray} {n : Int} (h : HashAt w g v left n) (q : Nat) : HashAt (w.drewN q) g v left n := Blk.drewN h q
set_option maxRecDepth 100000 in
set_option maxHeartbeats 1000000 in
theorem hwrite_any (g : Nat) (v : V8) (left s : ByteArray) (n : Int) (w : World) (h0 : 0 ≤ n) (h1 : n ≤ 1099511627776) (hl : left.size ≤ 1099511627776) (hs : s.size ≤ 1099511627776) (h : HashAt w g v left n) :
    Calls Tryz.prog 129 #[.pointer (some ⟨g, 0, none⟩), .string s] w fun e w' => e = .returned (.tuple #[]) ∧ HashAt w' g (writeV v left s).1 (writeV v left s).2 (n + s.size) ∧ Ch [g] w w' := by
  have H := Lib.hid h
  have c8 : w.cell? ⟨g, 8, none⟩ = some (.string left) := Blk.cell h 8
  have c9 : w.cell? ⟨g, 9, none⟩ = some (.int .i64 n) := Blk.cell h 9
  have f8 : w.frozen? ⟨g, 8, none⟩ = false := Blk.frozen h 8
  have f9 : w.frozen? ⟨g, 9, none⟩ = false := Blk.frozen h 9
  have H2 : Hid (HashAt ((w.setCell ⟨g, 9, none⟩ (.int .i64 (n + s.size))).setCell ⟨g, 8, none⟩ (.string (left ++ s))) g v (left ++ s) (n + s.size)) := Blk.set_ (Blk.set_ h 9 _) 8 _
  have HC : Hid (Ch [g] w ((w.setCell ⟨g, 9, none⟩ (.int .i64 (n + s.size))).setCell ⟨g, 8, none⟩ (.string (left ++ s)))) := (Ch.set_ (by simp) _ _ _).trans (Ch.set_ (by simp) _ _ _)
  have HZ : Hid ((left ++ s).size = left.size + s.size) := ByteArray.size_append
  clear h
  go_enter Tryz.func129, Tryz.ntmps129
  go_wp2_with fail
  refine wp_scope_jumps 0 (fun a' w' => ∃ (k : Nat) (u2 u3 u4 u5 u6 u7 u8 u9 u10 u11 u12 u13 u14 u15 u16 u17 u18 u19 u20 u21 u22 u23 u24 u25 u26 u27 u28 u29 u30 u31 u32 u33 u34 u35 u36 u37 u38 u39 u40 u41 u42 u43 : Value), a' = { tmps := #[.pointer (some ⟨g, 0, none⟩), .string s, u2, u3, u4, u5, u6, u7, u8, u9, u10, u11, u12, u13, u14, u15, u16, u17, u18, u19, u20, u21, u22, u23, u24, u25, u26, u27, u28, u29, u30, u31, u32, u33, u34, u35, u36, u37, u38, u39, u40, u41, u42, u43], defers := [] } ∧ 64 * k ≤ left.size + s.size ∧ Hid (HashAt w' g (eatV k v (left ++ s)).1 (eatV k v (left ++ s)).2 (n + s.size)) ∧ Hid (Ch [g] w w')) (fun _ w' => leftOf g w') rfl ?_ ?_
  · have HG : Hid (left.size + s.size < 64 → HashAt ((w.setCell ⟨g, 9, none⟩ (.int .i64 (n + s.size))).setCell ⟨g, 8, none⟩ (.string (left ++ s))) g (writeV v left s).1 (writeV v left s).2 (n + s.size)) := fun hlt => by
      rw [writeV, show (left.size + s.size) / 64 = 0 by omega]; exact H2.out
    have HH : Hid (HashAt ((w.setCell ⟨g, 9, none⟩ (.int .i64 (n + s.size))).setCell ⟨g, 8, none⟩ (.string (left ++ s))) g (eatV 0 v (left ++ s)).1 (left ++ s) (n + s.size)) := H2.out
    go_wp2_with fail
    go_step3
    go_wp2_with fail
    · have hsz : 64 ≤ (left ++ s).size := by rw [HZ.out]; omega
      have hls : 64 ≤ left.size + s.size := by omega
      have k8 : ((w.setCell ⟨g, 9, none⟩ (.int .i64 (n + s.size))).setCell ⟨g, 8, none⟩ (.string (left ++ s))).cell? ⟨g, 8, none⟩ = some (.string (left ++ s)) := Blk.cell HH.out 8
      have HSZ : Hid ((ByteArray.extract (left ++ s) 0 64).size = 64) := by show _ = _; rw [ByteArray.size_extract]; omega
      go_region_held3 (fun w' => w'.cell? ⟨g, 8, none⟩ = some (.string (left ++ s)))
        (first | go_keep | assumption)
        ((first | (go_at_call 148; refine (mix_any g (eatV 0 v (left ++ s)).1 (left ++ s) (n + s.size) _ _ HSZ.out (by exact HH.out)).mono ?_; rintro e w3 ⟨rfl, hh, hc⟩; have c83 : w3.cell? ⟨g, 8, none⟩ = some (.string (left ++ s)) := Blk.cell hh 8; have f83 : w3.frozen? ⟨g, 8, none⟩ = false := Blk.frozen hh 8; have H3 := Lib.hid hh; have HC3 := Lib.hid (HC.out.trans ((Ch.drewN [g] _ 1).trans hc)); clear hh hc)))
      go_wp2_with fail
      go_step3
      have h4 := Blk.set_ H3.out 8 (.string ((left ++ s).extract 64 (left.size + s.size)))
      have h5 : HashAt (w3.setCell ⟨g, 8, none⟩ (.string ((left ++ s).extract 64 (left.size + s.size)))) g (eatV 1 v (left ++ s)).1 (eatV 1 v (left ++ s)).2 (n + s.size) := by
        show HashAt _ g (mixV (eatV 0 v (left ++ s)).1 ((left ++ s).extract 0 64)) ((left ++ s).extract 64 (left ++ s).size) _
        rw [HZ.out]
        exact h4
      refine ⟨rfl, 1, _, _, _, _, _, _, _, _, _, _, _, _, _, _, _, _, _, _, _, _, _, _, _, _, _, _, _, _, _, _, _, _, _, _, _, _, _, _, _, _, _, _, rfl, by omega, h5, HC3.out.trans (Ch.set_ (by simp) _ _ _)⟩
    · have hlt : left.size + s.size < 64 := by omega
      simp only [Exit.jump]
      go_end0
      exact ⟨rfl, HG.out hlt, HC.out⟩
  · rintro a' w' ⟨k, u2, u3, u4, u5, u6, u7, u8, u9, u10, u11, u12, u13, u14, u15, u16, u17, u18, u19, u20, u21, u22, u23, u24, u25, u26, u27, u28, u29, u30, u31, u32, u33, u34, u35, u36, u37, u38, u39, u40, u41, u42, u43, rfl, hk, HK, HCK⟩
    have k8 : w'.cell? ⟨g, 8, none⟩ = some (.string (eatV k v (left ++ s)).2) := Blk.cell HK.out 8
    have kf8 : w'.frozen? ⟨g, 8, none⟩ = false := Blk.frozen HK.out 8
    have HL := Lib.hid (leftOf_at HK.out)
    have HES := Lib.hid (eatV_size v (left ++ s) k)
    generalize hrest : (eatV k v (left ++ s)).2 = rest at HK HL HES k8
    have Hrest := Lib.hid hrest
    clear hrest
    go_wp2_with fail
    · have hsz : 64 ≤ rest.size := by omega
      have HSZ : Hid ((ByteArray.extract rest 0 64).size = 64) := by show _ = _; rw [ByteArray.size_extract]; omega
      go_region_held3 (fun w' => w'.cell? ⟨g, 8, none⟩ = some (.string (rest)))
        (first | go_keep | assumption)
        ((first | (go_at_call 148; refine (mix_any g (eatV k v (left ++ s)).1 (rest) (n + s.size) _ _ HSZ.out (by exact HK.out)).mono ?_; rintro e w3 ⟨rfl, hh, hc⟩; have c83 : w3.cell? ⟨g, 8, none⟩ = some (.string (rest)) := Blk.cell hh 8; have f83 : w3.frozen? ⟨g, 8, none⟩ = false := Blk.frozen hh 8; have H3 := Lib.hid hh; have HC3 := Lib.hid (HCK.out.trans ((Ch.drewN [g] _ 1).trans hc)); clear hh hc)))
      go_wp2_with fail
      go_step3
      have h4 := Blk.set_ H3.out 8 (.string (rest.extract 64 rest.size))
      refine ⟨rfl, ⟨k + 1, _, _, _, _, _, _, _, _, _, _, _, _, _, _, _, _, _, _, _, _, _, _, _, _, _, _, _, _, _, _, _, _, _, _, _, _, _, _, _, _, _, _, rfl, ?_, ?_, HC3.out.trans (Ch.set_ (by simp) _ _ _)⟩, ?_⟩
      · have := HES.out
        have := HZ.out
        omega
      · show HashAt _ g (mixV (eatV k v (left ++ s)).1 ((eatV k v (left ++ s)).2.extract 0 64)) ((eatV k v (left ++ s)).2.extract 64 (eatV k v (left ++ s)).2.size) _
        rw [Hrest.out]
        exact h4
      · rw [leftOf_at (show HashAt _ g (mixV (eatV k v (left ++ s)).1 (rest.extract 0 64)) (rest.extract 64 rest.size) (n + s.size) from h4), HL.out, ByteArray.size_extract]
        omega
    · simp only [Exit.jump]
      have hlt : rest.size < 64 := by omega
      go_end0
      refine ⟨rfl, ?_, HCK.out⟩
      have e1 := HES.out
      have e2 := HZ.out
      have e3 : (left.size + s.size) / 64 = k := by omega
      rw [writeV, e3, Hrest.out]
      exact HK.out
end Go.Proofs.YtdoebmikjgmnaaaGreat
namespace Go.Proofs.YtdoebmikjgmnaaaGreat
open Go.RowKit
set_option maxRecDepth 100000 in
set_option maxHeartbeats 400000 in
theorem hcopy_any (g : Nat) (v : V8) (left : ByteArray) (n : Int) (w : World) (h : HashAt w g v left n) :
    Calls Tryz.prog 149 #[.pointer (some ⟨g, 0, none⟩)] w fun e w' => ∃ g', e = .returned (.pointer (some ⟨g', 0, none⟩)) ∧ w.heap.size ≤ g' ∧ HashAt w' g' v left n ∧ Below w.heap.size w w' := by
  have k0 := Blk.cell h 0
  have k1 := Blk.cell h 1
  have k2 := Blk.cell h 2
  have k3 := Blk.cell h 3
  have k4 := Blk.cell h 4
  have k5 := Blk.cell h 5
  have k6 := Blk.cell h 6
  have k7 := Blk.cell h 7
  have k8 := Blk.cell h 8
  have k9 := Blk.cell h 9
  simp only [hashC, List.getElem?_toArray, List.getElem?_cons_zero, List.getElem?_cons_succ] at k0 k1 k2 k3 k4 k5 k6 k7 k8 k9
  clear h
  go_enter Tryz.func149, Tryz.ntmps149
  go_wp2_with fail
  go_region
  go_wp2_with fail
  go_ret
  exact ⟨_, rfl, Nat.le_refl _, Blk.new _ _ _, ((Below.refl _ _).alloc (Nat.le_refl _) _).drew⟩
def lenOf : Value → Nat
  | .slice _ n _ => n
  | _ => 0
def lensL (n : Nat) (q : Int) : List Int := (List.range (7 - q).toNat).map fun i => lenB n (7 - i)
theorem lensL_next (n q : Nat) (h : q ≤ 7) : lensL n ((q : Int) - 1) = lensL n q ++ [lenB n q] := by
  unfold lensL
  rw [show (7 - ((q : Int) - 1)).toNat = (7 - (q : Int)).toNat + 1 by omega, List.range_succ, List.map_append, List.map_singleton, show 7 - (7 - (q : Int)).toNat = q by omega]
theorem padL_eq (left n : Nat) : 128 :: (List.replicate (padN left) 0 ++ lensL n (-1)) = padL left n := rfl
theorem padL_len (left n : Nat) : (padL left n).length = 1 + padN left + 8 := by
  simp [padL]; omega
theorem idxS (u : V8) (k : Nat) (h : k < 8) (w : World) : (Instr.index 223 (.agg #[.int .u32 u.a, .int .u32 u.b, .int .u32 u.c, .int .u32 u.d, .int .u32 u.e, .int .u32 u.f, .int .u32 u.g, .int .u32 u.h]) (.int .i64 k)).run Tryz.prog w = .ok (.int .u32 (atW u.list k)) w := by
  rcases lt8 h with rfl | rfl | rfl | rfl | rfl | rfl | rfl | rfl <;> kernel_rfl
theorem words_next (l : List Int) (k : Nat) (h : k < l.length) : ((l.take (k + 1)).flatMap wordL).map (Value.int .u8) = ((l.take k).flatMap wordL).map (Value.int .u8) ++ (wordL (atW l k)).map (Value.int .u8) := by
  rw [List.take_succ_eq_append_getElem h, List.flatMap_append, List.map_append]
  simp [atW, List.getD_eq_getElem?_getD, h]
set_option maxRecDepth 100000 in
set_option maxHeartbeats 2000000 in
theorem hsum_any (g : Nat) (v : V8) (left : ByteArray) (n : Nat) (w : World) (hl : left.size ≤ 1099511627776) (hn : n ≤ 1099511627776) (h : HashAt w g v left n) :
    Calls Tryz.prog 130 #[.pointer (some ⟨g, 0, none⟩)] w fun e w' => e = .returned (.string (sumV v left n)) ∧ Below w.heap.size w w' := by
  have H := Lib.hid h
  have hg := Blk.lt h
  obtain ⟨i0, hi, hz0, hz1, hz2⟩ := info_parts Tryz.infoU8
  have Hz := Lib.hid hz0
  clear h hz0
  go_enter Tryz.func130, Tryz.ntmps130
  go_wp2_with fail
  refine (hcopy_any g v left n _ H.out).mono ?_
  rintro e w1 ⟨g', rfl, hg', h', hb1⟩
  have H1 := Lib.hid h'
  have hg1 := Blk.lt h'
  have HG1 := Lib.hid (Blk.bel H.out hb1)
  have HB1 := Lib.hid hb1
  have hs1 := hb1.size
  clear h' hb1
  go_wp2_with fail
  go_loopw [4] (fun b wr => ∃ z : Nat, z ≤ padN left.size ∧ Hid (wr.ownsRow w1.heap.size 5 1 b (1 + z) ((128 :: List.replicate z 0).map (Value.int .u8))) ∧ Hid (Below w1.heap.size w1 wr)) (fun b _ => 200 - lenOf b)
  case atStart =>
    exact ⟨0, Nat.zero_le _, own_lit (Blk.new _ _ _) (Nat.le_refl _) (by simp) (by unfold maxLen; omega), (Below.refl _ _).alloc (Nat.le_refl _) _⟩
  case round =>
    obtain ⟨z, hz, HO, HB⟩ := hrel
    obtain ⟨A, c, rfl⟩ := own_form HO.out
    have k8 : wr.cell? ⟨g, 8, none⟩ = some (.string left) := Blk.cell (Blk.below HG1.out HB.out (by omega)) 8
    have hpn : padN left.size < 64 := Nat.mod_lt _ (by omega)
    by_cases hzp : z < padN left.size
    · have hpos : (left.size + (1 + z) + 8) % 64 ≠ 0 := by unfold padN at hzp; omega
      have hzs := HB.out.size
      go_wp2_with (first | (at_builtin; go_must (refine wpList_append_own _ rfl (.tmp 23) (.tmp 24) _ rfl w1.heap.size 5 i0 _ 1 1 Tryz.underlying107 hi Hz.out hz1 hz2 rfl (by decide) _ (1 + z) _ rfl (HO.out.alloc _) ⟨wr.heap.size, 0, none⟩ 1 1 [.int .u8 0] rfl rfl (news_alloc _ _ _ _ _ rfl rfl) (one_int _) (by simp only [maxLen]; omega) (by omega) (by simp; omega) ?_); intro v' w2 hown1 hg1 _))
      · obtain ⟨A', c', rfl⟩ := own_form hown1
        go_roundw
        case rel =>
          refine ⟨z + 1, by omega, ?_, (HB.out.alloc hzs _).grown hg1 (by simp; omega) (fun r hr => (HO.out.lt r hr).1)⟩
          show World.ownsRow _ _ _ _ _ _ _
          have e : (128 :: List.replicate (z + 1) 0).map (Value.int .u8) = (128 :: List.replicate z 0).map (Value.int .u8) ++ [.int .u8 0] := by
            rw [List.replicate_succ', List.map_cons, List.map_append]; rfl
          rw [e]
          exact hown1
        case measure => simp [lenOf]; omega
    · have hpos : (left.size + (1 + z) + 8) % 64 = 0 := by unfold padN at hzp hz; omega
      obtain rfl : z = padN left.size := by omega
      go_wp2_with fail
      go_loopw [4, 5] (fun b i wr => ∃ q : Int, -1 ≤ q ∧ q ≤ 7 ∧ i = .int .i64 q ∧ Hid (wr.ownsRow w1.heap.size 5 1 b (1 + padN left.size + (7 - q).toNat) ((128 :: (List.replicate (padN left.size) 0 ++ lensL n q)).map (Value.int .u8))) ∧ Hid (Below w1.heap.size w1 wr)) (fun _ i _ => (intOf i + 1).toNat)
      case atStart => 
        refine ⟨7, by omega, by omega, rfl, ?_, HB⟩
        show World.ownsRow _ _ _ _ _ _ _
        have := HO.out
        simpa [lensL] using this
      case round =>
        obtain ⟨q, hq1, hq2, rfl, HO2, HB2⟩ := hrel
        have k9 : wr.cell? ⟨g, 9, none⟩ = some (.int .i64 n) := Blk.cell (Blk.below HG1.out HB2.out (by omega)) 9
        have hzs := HB2.out.size
        obtain ⟨A2, c2, rfl⟩ := own_form HO2.out
        by_cases hq3 : 0 ≤ q
        · obtain ⟨q, rfl⟩ := Int.eq_ofNat_of_zero_le hq3
          go_wp2_with (first | (at_builtin; go_must (refine wpList_append_own _ rfl (.tmp 30) (.tmp 41) _ rfl w1.heap.size 5 i0 _ 1 1 Tryz.underlying107 hi Hz.out hz1 hz2 rfl (by decide) _ (1 + padN left.size + (7 - (q : Int)).toNat) _ rfl (HO2.out.alloc _) ⟨wr.heap.size, 0, none⟩ 1 1 _ rfl rfl (news_alloc _ _ _ _ _ rfl rfl) (one_int _) (by simp only [maxLen]; omega) (by omega) (by simp; omega) ?_); intro v' w2 hown1 hg1 _))
          obtain ⟨A', c', rfl⟩ := own_form hown1
          go_roundw
          case rel =>
            refine ⟨(q : Int) - 1, by omega, by omega, rfl, ?_, (HB2.out.alloc hzs _).grown hg1 (by simp; omega) (fun r hr => (HO2.out.lt r hr).1)⟩
            show World.ownsRow _ _ _ _ _ _ _
            rw [lensL_next n q (by omega), show 1 + padN left.size + (7 - ((q : Int) - 1)).toNat = 1 + padN left.size + (7 - (q : Int)).toNat + 1 by omega, ← List.append_assoc, ← List.cons_append, List.map_append]
            exact hown1
          case measure => simp [intOf]
        · obtain rfl : q = -1 := by omega
          have HO3 : Hid (wr.ownsRow w1.heap.size 5 1 (.slice A2 (1 + padN left.size + 8) c2) (1 + padN left.size + 8) ((padL left.size n).map (Value.int .u8))) := HO2.out
          have hcv := conv_own HO3.out
          have hpz : (strOfNums (padL left.size n)).size ≤ 100 := by rw [strOfNums_size, padL_len]; omega
          have HH := Lib.hid (Blk.below H1.out HB2.out hg1)
          have HBW := Lib.hid (HB1.out.trans (HB2.out.mono hs1))
          go_wp2_with fail
          refine (hwrite_any g' v left (strOfNums (padL left.size n)) n _ (by omega) (by omega) hl (by omega) (by exact HH.out)).mono ?_
          rintro e w3 ⟨rfl, h3, hc3⟩
          have HBW3 := Lib.hid (HBW.out.trans (hc3.below (B := w.heap.size) (by omega) (by simp; omega)))
          have hz3 := hc3.size
          clear hc3
          have HF : Hid (sumV v left n = strOfNums ((writeV v left (strOfNums (padL left.size n))).1.list.flatMap wordL)) := rfl
          generalize (writeV v left (strOfNums (padL left.size n))).1 = u at h3 HF
          generalize (writeV v left (strOfNums (padL left.size n))).2 = lf at h3
          have k0 := Blk.cell h3 0
          have k1 := Blk.cell h3 1
          have k2 := Blk.cell h3 2
          have k3 := Blk.cell h3 3
          have k4 := Blk.cell h3 4
          have k5 := Blk.cell h3 5
          have k6 := Blk.cell h3 6
          have k7 := Blk.cell h3 7
          simp only [hashC, List.getElem?_toArray, List.getElem?_cons_zero, List.getElem?_cons_succ] at k0 k1 k2 k3 k4 k5 k6 k7
          clear h3 hcv
          go_wp2_with fail
          clear k0 k1 k2 k3 k4 k5 k6 k7
          have HX := Lib.hid (idxS u)
          go_loopw [6, 51] (fun o i wr => ∃ k : Nat, k ≤ 8 ∧ i = .int .i64 k ∧ Hid (wr.ownsRow w3.heap.size 5 1 o (4 * k) (((u.list.take k).flatMap wordL).map (Value.int .u8))) ∧ Hid (Below w3.heap.size w3 wr)) (fun _ i _ => 8 - (intOf i).toNat)
          case atStart => exact ⟨0, by omega, rfl, World.ownsRow_nil _ _ _ _, Below.refl _ _⟩
          case round =>
            obtain ⟨k, hk, rfl, HO4, HB4⟩ := hrel
            obtain ⟨A4, c4, rfl⟩ := own_form HO4.out
            have hzs4 := HB4.out.size
            by_cases hk8 : k < 8
            · have hix := HX.out k hk8
              have HN := Lib.hid (words_next u.list k hk8)
              generalize atW u.list k = x at hix HN
              go_wp2_with (first | (at_builtin; go_must (refine wpList_append_own _ rfl (.tmp 54) (.tmp 66) _ rfl w3.heap.size 5 i0 _ 1 1 Tryz.underlying107 hi Hz.out hz1 hz2 rfl (by decide) _ (4 * k) _ rfl (HO4.out.alloc _) ⟨wr.heap.size, 0, none⟩ 4 4 _ rfl rfl (news_alloc _ _ _ _ _ rfl rfl) (one_ints (wordL x)) (by simp only [maxLen]; omega) (by omega) (by simp; omega) ?_); intro v' w2 hown1 hg1 _))
              obtain ⟨A', c', rfl⟩ := own_form hown1
              go_roundw
              case rel =>
                refine ⟨k + 1, by omega, by go_num, ?_, (HB4.out.alloc hzs4 _).grown hg1 (by simp; omega) (fun r hr => (HO4.out.lt r hr).1)⟩
                show World.ownsRow _ _ _ _ _ _ _
                rw [HN.out, Nat.mul_succ]
                exact hown1
              case measure => simp [intOf]; omega
            · obtain rfl : k = 8 := by omega
              have hcv := conv_own HO4.out
              have e8 : u.list.take 8 = u.list := rfl
              rw [e8, ← HF.out] at hcv
              go_wp2_with fail
              go_ret
              exact ⟨rfl, HBW3.out.trans (HB4.out.mono (by omega))⟩
set_option maxHeartbeats 400000 in
theorem sum_any (s : ByteArray) (w : World) (hs : s.size ≤ 1099511627776) :
    Calls Tryz.prog 108 #[.string s] w fun e w' => e = .returned (.string (sumB s)) ∧ Below w.heap.size w w' := by
  have HF := Lib.hid (sumB_eq s)
  have HL : Hid ((writeV beginV ByteArray.empty s).2.size ≤ 1099511627776) := by
    show _ ≤ _
    rw [writeV, eatV_size, ByteArray.size_append]
    have : ByteArray.empty.size = 0 := rfl
    omega
  go_enter Tryz.func108, Tryz.ntmps108
  go_wp2_with fail
  refine (hnew_any _).mono ?_
  rintro e w1 ⟨g, rfl, hg, h1, hb1⟩
  have hs1 := hb1.size
  go_wp2_with fail
  refine (hwrite_any g beginV ByteArray.empty s 0 _ (by omega) (by omega) (by decide) hs h1).mono ?_
  rintro e w2 ⟨rfl, h2, hc2⟩
  rw [Int.zero_add] at h2
  have HB2 := Lib.hid (hb1.trans (hc2.below (B := w.heap.size) hs1 (by simp; omega)))
  clear hb1 hc2 h1
  go_wp2_with fail
  refine (hsum_any g _ _ s.size _ HL.out hs h2).mono ?_
  rintro e w3 ⟨rfl, hb3⟩
  go_wp2_with fail
  go_ret
  exact ⟨ret_str HF.out.symm, HB2.out.trans (hb3.mono HB2.out.size)⟩
set_option maxHeartbeats 400000 in
theorem short_any (s : ByteArray) (w : World) (hs : s.size ≤ 1099511627776) :
    Calls Tryz.prog 76 #[.string s] w fun e w' => e = .returned (.string (shortB s)) ∧ Below w.heap.size w w' := by
  have hz : 16 ≤ (sumB s).size := by rw [sumB_size]; omega
  have HF : Hid (shortB s = (sumB s).extract 0 16) := rfl
  go_enter Tryz.func76, Tryz.ntmps76
  go_wp2_with fail
  refine (sum_any s _ hs).mono ?_
  rintro e w1 ⟨rfl, hb⟩
  go_wp2_with fail
  go_ret
  exact ⟨ret_str HF.out.symm, hb⟩
set_option maxRecDepth 100000 in
set_option maxHeartbeats 1000000 in
theorem tag_any (word : ByteArray) (A : Option Addr) (c : Nat) (l : List ByteArray) (w : World) (hw : word.size ≤ 1000) (hl : l.length ≤ 1000) (hp : ∀ p ∈ l, p.size ≤ 1000000) (h : Sl w w.heap.size 1 strC A l) :
    Calls Tryz.prog 43 #[.string word, .slice A l.length c] w fun e w' => e = .returned (.string (tagB word l)) ∧ Below w.heap.size w w' := by
  have H := Lib.hid h
  have HP := Lib.hid hp
  have HT : Hid (∀ k, (tagIn word (l.take k).reverse).size ≤ 1099511627776) := fun k => by
    have := tagIn_le word hw (l.take k).reverse (fun p hp' => HP.out p (List.mem_of_mem_take (by simpa using hp')))
    have h2 : (l.take k).reverse.length ≤ 1000 := by rw [List.length_reverse, List.length_take]; omega
    omega
  have HF := Lib.hid (tagB_eq word l)
  have kc := conv1
  have k1 := num1_size
  clear h hp
  go_enter Tryz.func43, Tryz.ntmps43
  go_wp2_with fail
  clear kc k1
  go_loopw [5, 17] (fun t i wr => ∃ k : Nat, k ≤ l.length ∧ i = .int .i64 k ∧ t = .string (tagIn word (l.take k).reverse) ∧ Hid (Below w.heap.size w wr)) (fun _ i _ => l.length - (intOf i).toNat)
  case atStart => exact ⟨0, by omega, rfl, rfl, (Below.refl _ _).alloc (Nat.le_refl _) _⟩
  case round =>
    obtain ⟨k, hk, rfl, rfl, HB⟩ := hrel
    have hT := HT.out k
    by_cases hkl : k < l.length
    · obtain ⟨b, off, rfl, hbB, hcl⟩ := (Sl.below H.out HB.out).at_ hkl
      have hN := Lib.hid (tagIn_next word l k hkl)
      have hpz := HP.out _ (List.getElem_mem hkl)
      generalize l[k] = p at hcl hN hpz
      have hc0 : wr.cell? ⟨b, off + k, none⟩ = some (.string p) := by have := hcl 0 _ rfl; simpa using this
      clear hcl
      generalize tagIn word (l.take k).reverse = t at hT hN ⊢
      have kc := conv2
      have k2 := num2_size
      go_wp2_with fail
      go_roundw
      case rel => exact ⟨k + 1, by omega, by go_num, by rw [hN.out]; rfl, HB.out.alloc HB.out.size _⟩
      case measure => simp [intOf]; omega
    · obtain rfl : k = l.length := by omega
      rw [List.take_length] at hT
      go_wp2_with fail
      refine (short_any _ _ hT).mono ?_
      rintro e w1 ⟨rfl, hb⟩
      go_wp2_with fail
      go_ret
      exact ⟨ret_str HF.out.symm, HB.out.trans (hb.mono HB.out.size)⟩
end Go.Proofs.YtdoebmikjgmnaaaGreat
namespace Go.Proofs.YtdoebmikjgmnaaaGreat
/-- of the words of the hash -/
def oneB (n : Nat) : ByteArray := strOfNums [(n : Int)]
theorem oneB_size (n : Nat) : (oneB n).size = 1 := strOfNums_size _
theorem ba_ext' {s t : ByteArray} (h : s.data.toList = t.data.toList) : s = t := ByteArray.ext (Array.ext' h)
theorem ba_append_data (s t : ByteArray) : (s ++ t).data.toList = s.data.toList ++ t.data.toList := by
  rw [ByteArray.data_append, Array.toList_append]
theorem ba_extract_data (s : ByteArray) (a b : Nat) : (s.extract a b).data.toList = (s.data.toList.drop a).take (b - a) := Lib.extract_data s a b
theorem ba_size (s : ByteArray) : s.data.toList.length = s.size := Array.length_toList
theorem ba_append_empty (s : ByteArray) : s ++ ByteArray.empty = s := ba_ext' (by rw [ba_append_data]; exact List.append_nil _)
theorem ba_empty_append (s : ByteArray) : ByteArray.empty ++ s = s := ba_ext' (by rw [ba_append_data]; rfl)
theorem ba_append_assoc (a b c : ByteArray) : a ++ b ++ c = a ++ (b ++ c) := ba_ext' (by simp only [ba_append_data, List.append_assoc])
/-- a piece in the middle -/
theorem ext_mid {a b c : ByteArray} {i j : Nat} (hi : a.size = i) (hj : j = i + b.size) : (a ++ b ++ c).extract i j = b := by
  refine ba_ext' ?_
  rw [ba_extract_data, ba_append_data, ba_append_data, List.append_assoc, ← hi, ← ba_size a, List.drop_left]
  have : j - a.data.toList.length = b.data.toList.length := by rw [ba_size, ba_size]; omega
  rw [this, List.take_left]
theorem ext_mid2 {a b : ByteArray} {i j : Nat} (hi : a.size = i) (hj : j = i + b.size) : (a ++ b).extract i j = b := by
  have := ext_mid (a := a) (b := b) (c := ByteArray.empty) hi hj
  rwa [ba_append_empty] at this
/-- one behind the other -/
def catN (f : Nat → ByteArray) : Nat → ByteArray
  | 0 => ByteArray.empty
  | n + 1 => catN f n ++ f n
theorem catN_congr {f g : Nat → ByteArray} : ∀ n, (∀ i, i < n → f i = g i) → catN f n = catN g n
  | 0, _ => rfl
  | n + 1, h => by rw [catN, catN, catN_congr n (fun i hi => h i (by omega)), h n (by omega)]
theorem catN_size {f : Nat → ByteArray} {k : Nat} : ∀ n, (∀ i, i < n → (f i).size = k) → (catN f n).size = k * n
  | 0, _ => rfl
  | n + 1, h => by rw [catN, ByteArray.size_append, catN_size n (fun i hi => h i (by omega)), h n (by omega), Nat.mul_succ]
theorem catN_part {f : Nat → ByteArray} {k : Nat} : ∀ n, (∀ i, i < n → (f i).size = k) → ∀ i, i < n → (catN f n).extract (k * i) (k * (i + 1)) = f i
  | 0, _, i, hi => by omega
  | n + 1, h, i, hi => by
    have hn := catN_size n (fun i hi => h i (by omega))
    rw [catN]
    by_cases e : i = n
    · subst e
      exact ext_mid2 hn (by rw [h i (by omega), Nat.mul_succ])
    · have := catN_part n (fun i hi => h i (by omega)) i (by omega)
      have hle : k * (i + 1) ≤ k * n := Nat.mul_le_mul_left k (by omega)
      refine Eq.trans (ba_ext' ?_) this
      rw [ba_extract_data, ba_extract_data, ba_append_data, List.drop_append_of_le_length (by rw [ba_size]; have := Nat.mul_le_mul_left k (show i ≤ i + 1 by omega); omega),
        List.take_append_of_le_length (by rw [List.length_drop, ba_size]; omega)]
/-! wots -/
def stp (i : Nat) (x : ByteArray) : ByteArray := tagB wStep [oneB i, x]
def stepN (i : Nat) : Nat → ByteArray → ByteArray
  | 0, x => x
  | n + 1, x => stp i (stepN i n x)
theorem stepN_add (i a : Nat) (x : ByteArray) : ∀ b, stepN i (b + a) x = stepN i b (stepN i a x)
  | 0 => by rw [Nat.zero_add]; rfl
  | b + 1 => by rw [show b + 1 + a = (b + a) + 1 by omega, stepN, stepN_add i a x b]; rfl
theorem stepN_size (i : Nat) {x : ByteArray} (hx : x.size = 16) : ∀ n, (stepN i n x).size = 16
  | 0 => hx
  | _ + 1 => tagB_size _ _
/-- a digit's byte -/
def digC (msg : ByteArray) (j : Nat) : Nat := ((tagB wMessage [msg]).data.toList.getD j 0).toNat
def lackN (msg : ByteArray) : Nat → Nat
  | 0 => 0
  | j + 1 => lackN msg j + (30 - digC msg j / 16 - digC msg j % 16)
def digN (msg : ByteArray) (i : Nat) : Nat :=
  if i < 16 then (if i % 2 = 0 then digC msg (i / 2) / 16 else digC msg (i / 2) % 16) else if i = 16 then lackN msg 8 / 16 else lackN msg 8 % 16
theorem digC_lt (msg : ByteArray) (j : Nat) : digC msg j < 256 := UInt8.toNat_lt _
theorem lackN_le (msg : ByteArray) : ∀ j, lackN msg j ≤ 30 * j
  | 0 => Nat.le_refl _
  | j + 1 => by have := lackN_le msg j; simp only [lackN]; omega
theorem digN_le (msg : ByteArray) (i : Nat) : digN msg i ≤ 15 := by
  unfold digN
  have h1 := digC_lt msg (i / 2)
  have h2 := lackN_le msg 8
  split
  · split <;> omega
  · split <;> omega
def secB (seed : ByteArray) (i : Nat) : ByteArray := tagB wSecret [seed, oneB i]
theorem secB_size (seed : ByteArray) (i : Nat) : (secB seed i).size = 16 := tagB_size _ _
def pubB (seed : ByteArray) : ByteArray := tagB wPublic [catN (fun i => stepN i 15 (secB seed i)) 18]
def sigB (seed msg : ByteArray) : ByteArray := catN (fun i => stepN i (digN msg i) (secB seed i)) 18
def fromB (msg sig : ByteArray) : ByteArray := tagB wPublic [catN (fun i => stepN i (15 - digN msg i) (sig.extract (16 * i) (16 * (i + 1)))) 18]
theorem sigB_size (seed msg : ByteArray) : (sigB seed msg).size = 288 := catN_size 18 fun i _ => stepN_size i (tagB_size _ _) _
theorem pubB_size (seed : ByteArray) : (pubB seed).size = 16 := tagB_size _ _
theorem from_sig (seed msg : ByteArray) : fromB msg (sigB seed msg) = pubB seed := by
  have h : ∀ i, i < 18 → stepN i (15 - digN msg i) ((sigB seed msg).extract (16 * i) (16 * (i + 1))) = stepN i 15 (secB seed i) := fun i hi => by
    have e := catN_part 18 (fun i (_ : i < 18) => stepN_size i (tagB_size wSecret [seed, oneB i]) (digN msg i)) i hi
    have e' : (sigB seed msg).extract (16 * i) (16 * (i + 1)) = stepN i (digN msg i) (secB seed i) := e
    rw [e', ← stepN_add, Nat.sub_add_cancel (digN_le msg i)]
  rw [fromB, pubB, catN_congr 18 h]
/-! merkle -/
def nodeB (a b : ByteArray) : ByteArray := tagB wNode [a, b]
def topB (h : Nat) (x : ByteArray) : ByteArray := tagB wRoot [oneB h, x]
def above : List ByteArray → List ByteArray
  | a :: b :: r => nodeB a b :: above r
  | _ => []
theorem above_length : ∀ l, (above l).length = l.length / 2
  | [] => rfl
  | [_] => by simp [above]
  | a :: b :: r => by simp only [above, List.length_cons, above_length r]; omega
theorem above_get : ∀ (l : List ByteArray) (i : Nat), 2 * i + 1 < l.length → (above l).getD i ByteArray.empty = nodeB (l.getD (2 * i) ByteArray.empty) (l.getD (2 * i + 1) ByteArray.empty)
  | [], _, h => by simp at h
  | [_], _, h => by simp at h
  | a :: b :: r, 0, _ => rfl
  | a :: b :: r, i + 1, h => by
    have := above_get r i (by simp at h; omega)
    simp only [above, List.getD_cons_succ]
    rw [this, show 2 * (i + 1) = 2 * i + 1 + 1 by omega]
    rfl
def topR : Nat → List ByteArray → ByteArray
  | 0, l => l.getD 0 ByteArray.empty
  | h + 1, l => topR h (above l)
/-- the neighbour -/
def mate (i : Nat) : Nat := if i % 2 = 0 then i + 1 else i - 1
def pathR : Nat → List ByteArray → Nat → List ByteArray
  | 0, _, _ => []
  | h + 1, l, i => l.getD (mate i) ByteArray.empty :: pathR h (above l) (i / 2)
def upR : ByteArray → Nat → List ByteArray → ByteArray
  | x, _, [] => x
  | x, i, y :: r => upR (if i % 2 = 0 then nodeB x y else nodeB y x) (i / 2) r
theorem up_path : ∀ (h : Nat) (l : List ByteArray) (i : Nat), l.length = 2 ^ h → i < 2 ^ h → upR (l.getD i ByteArray.empty) i (pathR h l i) = topR h l
  | 0, l, i, _, hi => by
    obtain rfl : i = 0 := by simpa using hi
    rfl
  | h + 1, l, i, hl, hi => by
    have e2 : 2 ^ (h + 1) = 2 * 2 ^ h := by rw [Nat.pow_succ]; omega
    have hla : (above l).length = 2 ^ h := by rw [above_length]; omega
    have ih := up_path h (above l) (i / 2) hla (by omega)
    rw [above_get l (i / 2) (by omega)] at ih
    rw [pathR, upR, topR, ← ih]
    unfold mate
    by_cases hp : i % 2 = 0
    · rw [if_pos hp, if_pos hp, show 2 * (i / 2) = i by omega]
    · rw [if_neg hp, if_neg hp, show 2 * (i / 2) = i - 1 by omega, show i - 1 + 1 = i by omega]
theorem pathR_length : ∀ (h : Nat) (l : List ByteArray) (i : Nat), (pathR h l i).length = h
  | 0, _, _ => rfl
  | h + 1, l, i => by rw [pathR, List.length_cons, pathR_length h]
theorem above_all : ∀ l : List ByteArray, ∀ x ∈ above l, x.size = 16
  | [], x, h => by simp [above] at h
  | [_], x, h => by simp [above] at h
  | a :: b :: r, x, h => by
    simp only [above, List.mem_cons] at h
    rcases h with rfl | h
    · exact tagB_size _ _
    · exact above_all r x h
theorem mate_lt {i h : Nat} (hi : i < 2 ^ (h + 1)) : mate i < 2 ^ (h + 1) := by
  have e2 : 2 ^ (h + 1) = 2 * 2 ^ h := by rw [Nat.pow_succ]; omega
  unfold mate; split <;> omega
theorem pathR_all : ∀ (h : Nat) (l : List ByteArray) (i : Nat), l.length = 2 ^ h → i < 2 ^ h → (∀ x ∈ l, x.size = 16) → ∀ y ∈ pathR h l i, y.size = 16
  | 0, _, _, _, _, _, y, hy => by simp [pathR] at hy
  | h + 1, l, i, hl, hi, ha, y, hy => by
    have e2 : 2 ^ (h + 1) = 2 * 2 ^ h := by rw [Nat.pow_succ]; omega
    simp only [pathR, List.mem_cons] at hy
    rcases hy with rfl | hy
    · have hm := mate_lt hi
      rw [List.getD_eq_getElem?_getD, List.getElem?_eq_getElem (by omega)]
      exact ha _ (List.getElem_mem _)
    · exact pathR_all h (above l) (i / 2) (by rw [above_length]; omega) (by omega) (above_all l) y hy
/-- joined -/
def joinB : List ByteArray → ByteArray
  | [] => ByteArray.empty
  | x :: r => x ++ joinB r
theorem joinB_size : ∀ l : List ByteArray, (∀ x ∈ l, x.size = 16) → (joinB l).size = 16 * l.length
  | [], _ => rfl
  | x :: r, h => by rw [joinB, ByteArray.size_append, h x (by simp), joinB_size r (fun y hy => h y (by simp [hy])), List.length_cons]; omega
/-- the pieces of 16 behind a place -/
def pieces (s : ByteArray) (at_ : Nat) : Nat → List ByteArray
  | 0 => []
  | n + 1 => pieces s at_ n ++ [s.extract (at_ + 16 * n) (at_ + 16 * n + 16)]
theorem joinB_snoc : ∀ (l : List ByteArray) (x : ByteArray), joinB (l ++ [x]) = joinB l ++ x
  | [], x => by rw [List.nil_append, joinB, joinB, joinB, ba_empty_append, ba_append_empty]
  | y :: r, x => by rw [List.cons_append, joinB, joinB_snoc r x, joinB, ba_append_assoc]
theorem pieces_join (a : ByteArray) (at_ : Nat) (ha : a.size = at_) : ∀ (n : Nat) (l : List ByteArray) (c : ByteArray), l.length = n → (∀ x ∈ l, x.size = 16) → pieces (a ++ joinB l ++ c) at_ n = l
  | 0, l, _, hl, _ => by rw [List.length_eq_zero_iff.1 hl]; rfl
  | n + 1, l, c, hl, hx => by
    obtain ⟨r, y, rfl⟩ : ∃ r y, l = r ++ [y] := ⟨l.dropLast, l.getLast (by intro h; subst h; simp at hl), (List.dropLast_concat_getLast _).symm⟩
    have hr : r.length = n := by simpa using hl
    have hz : ∀ x ∈ r, x.size = 16 := fun x h => hx x (by simp [h])
    rw [pieces, joinB_snoc]
    have e1 := pieces_join a at_ ha n r (y ++ c) hr hz
    rw [show a ++ (joinB r ++ y) ++ c = a ++ joinB r ++ (y ++ c) by simp only [ba_append_assoc], e1]
    congr 2
    rw [show a ++ joinB r ++ (y ++ c) = (a ++ joinB r) ++ y ++ c by simp only [ba_append_assoc]]
    exact ext_mid (by rw [ByteArray.size_append, joinB_size r hz, ha, hr]) (by rw [hx y (by simp)])
def seedB (seed : ByteArray) (i : Nat) : ByteArray := tagB wLeaf [seed, oneB i]
/-- the first leaves of a key -/
def leavesB (seed : ByteArray) (n : Nat) : List ByteArray := (List.range n).map fun i => pubB (seedB seed i)
theorem leavesB_length (seed : ByteArray) (n : Nat) : (leavesB seed n).length = n := by simp [leavesB]
theorem leavesB_all (seed : ByteArray) (n : Nat) : ∀ x ∈ leavesB seed n, x.size = 16 := by
  intro x hx
  simp only [leavesB, List.mem_map] at hx
  obtain ⟨i, _, rfl⟩ := hx
  exact pubB_size _
theorem leavesB_get (seed : ByteArray) {n i : Nat} (h : i < n) : (leavesB seed n).getD i ByteArray.empty = pubB (seedB seed i) := by
  simp [leavesB, List.getD_eq_getElem?_getD, h]
def rootB (seed : ByteArray) (h : Nat) : ByteArray := topB h (topR h (leavesB seed (2 ^ h)))
theorem rootB_size (seed : ByteArray) (h : Nat) : (rootB seed h).size = 16 := tagB_size _ _
def aboutB (root : ByteArray) (i : Nat) (msg : ByteArray) : ByteArray := root ++ oneB i ++ msg
/-- what the leaf i signs -/
def signB (seed : ByteArray) (h i : Nat) (msg : ByteArray) : ByteArray :=
  oneB i ++ sigB (seedB seed i) (aboutB (rootB seed h) i msg) ++ joinB (pathR h (leavesB seed (2 ^ h)) i)
theorem signB_size (seed : ByteArray) {h i : Nat} (hi : i < 2 ^ h) (msg : ByteArray) : (signB seed h i msg).size = 289 + 16 * h := by
  rw [signB, ByteArray.size_append, ByteArray.size_append, oneB_size, sigB_size, joinB_size _ (pathR_all h _ i (leavesB_length _ _) hi (leavesB_all _ _)), pathR_length]
/-- a text's byte -/
def atB (s : ByteArray) (i : Nat) : Nat := (s.data.toList.getD i 0).toNat
def leafOk (sig : ByteArray) : Bool := decide (289 ≤ sig.size) && decide ((sig.size - 289) % 16 = 0) && decide (sig.size - 289 ≤ 64) && decide (atB sig 0 < 2 ^ ((sig.size - 289) / 16))
def verB (root msg sig : ByteArray) : Bool :=
  leafOk sig && decide (root.size = 16) && decide (topB ((sig.size - 289) / 16) (upR (fromB (aboutB root (atB sig 0) msg) (sig.extract 1 289)) (atB sig 0) (pieces sig 289 ((sig.size - 289) / 16))) = root)
theorem oneB_at (n : Nat) (hn : n < 256) (t : ByteArray) : atB (oneB n ++ t) 0 = n := by
  unfold atB
  rw [ba_append_data]
  show (UInt8.ofNat _).toNat = n
  rw [UInt8.toNat_ofNat']
  exact Nat.mod_eq_of_lt hn
/-- WHAT IS SIGNED VERIFIES. -/
theorem ver_sign (seed : ByteArray) {h i : Nat} (hh : h ≤ 4) (hi : i < 2 ^ h) (msg : ByteArray) : verB (rootB seed h) msg (signB seed h i msg) = true := by
  have hp : 2 ^ h ≤ 2 ^ 4 := Nat.pow_le_pow_right (by omega) hh
  have hz := signB_size seed hi msg
  have h0 : atB (signB seed h i msg) 0 = i := by rw [signB, ba_append_assoc]; exact oneB_at i (by omega) _
  have hd : (signB seed h i msg).size - 289 = 16 * h := by omega
  have hq : 16 * h / 16 = h := by omega
  have hx : (signB seed h i msg).extract 1 289 = sigB (seedB seed i) (aboutB (rootB seed h) i msg) := by
    rw [signB]; exact ext_mid (oneB_size _) (by rw [sigB_size])
  have hpc : pieces (signB seed h i msg) 289 h = pathR h (leavesB seed (2 ^ h)) i := by
    have := pieces_join (oneB i ++ sigB (seedB seed i) (aboutB (rootB seed h) i msg)) 289 (by rw [ByteArray.size_append, oneB_size, sigB_size]) h (pathR h (leavesB seed (2 ^ h)) i) ByteArray.empty (pathR_length _ _ _) (pathR_all h _ i (leavesB_length _ _) hi (leavesB_all _ _))
    rwa [ba_append_empty] at this
  unfold verB leafOk
  rw [h0, hd, hq, hx, hpc, from_sig, ← leavesB_get seed hi, up_path h _ i (leavesB_length _ _) hi]
  simp only [Bool.and_eq_true, decide_eq_true_eq]
  exact ⟨⟨⟨⟨⟨by omega, by omega⟩, by omega⟩, hi⟩, rootB_size _ _⟩, rfl⟩
end Go.Proofs.YtdoebmikjgmnaaaGreat
namespace Go.Proofs.YtdoebmikjgmnaaaGreat
open Go.RowKit
theorem sl_lit {w : World} {g : Nat} {t : TypeId} {cs : Array Value} {l : List ByteArray} (h : Blk w g t cs) (e : cs.toList = l.flatMap strC) : Sl w w.heap.size 1 strC (some ⟨g, 0, none⟩) l := fun _ =>
  ⟨g, 0, rfl, h.lt, fun i x hx j u hu => by
    have hc := Blk.cell h (0 + i * 1 + j)
    have h2 : cs.toList[i * 1 + j]? = some u := by rw [e]; exact flatMap_get strC 1 (fun _ => rfl) l i j x u hx hu
    rw [Nat.zero_add] at hc ⊢
    rw [hc, ← Array.getElem?_toList]
    exact h2⟩
theorem tag1 (word a : ByteArray) (w : World) (g : Nat) (hg : g = w.heap.size) (hw : word.size ≤ 1000) (ha : a.size ≤ 1000000) :
    Calls Tryz.prog 43 #[.string word, .slice (some ⟨g, 0, none⟩) 1 1] (w.alloc (.cells #[.string a] 9)) fun e w' => e = .returned (.string (tagB word [a])) ∧ Below w.heap.size w w' :=
  by subst hg; exact (tag_any word _ 1 [a] _ hw (by simp) (by simpa using ha) (sl_lit (Blk.new w _ _) rfl)).mono fun _ _ ⟨he, hb⟩ => ⟨he, ((Below.refl _ _).alloc (Nat.le_refl _) _).trans (hb.mono (by simp))⟩
theorem tag2 (word a b : ByteArray) (w : World) (g : Nat) (hg : g = w.heap.size) (hw : word.size ≤ 1000) (ha : a.size ≤ 1000000) (hb : b.size ≤ 1000000) :
    Calls Tryz.prog 43 #[.string word, .slice (some ⟨g, 0, none⟩) 2 2] (w.alloc (.cells #[.string a, .string b] 9)) fun e w' => e = .returned (.string (tagB word [a, b])) ∧ Below w.heap.size w w' :=
  by subst hg; exact (tag_any word _ 2 [a, b] _ hw (by simp) (by simpa using ⟨ha, hb⟩) (sl_lit (Blk.new w _ _) rfl)).mono fun _ _ ⟨he, hb⟩ => ⟨he, ((Below.refl _ _).alloc (Nat.le_refl _) _).trans (hb.mono (by simp))⟩
theorem tag3 (word a b c : ByteArray) (w : World) (g : Nat) (hg : g = w.heap.size) (hw : word.size ≤ 1000) (ha : a.size ≤ 1000000) (hb : b.size ≤ 1000000) (hc : c.size ≤ 1000000) :
    Calls Tryz.prog 43 #[.string word, .slice (some ⟨g, 0, none⟩) 3 3] (w.alloc (.cells #[.string a, .string b, .string c] 9)) fun e w' => e = .returned (.string (tagB word [a, b, c])) ∧ Below w.heap.size w w' :=
  by subst hg; exact (tag_any word _ 3 [a, b, c] _ hw (by simp) (by simpa using ⟨ha, hb, hc⟩) (sl_lit (Blk.new w _ _) rfl)).mono fun _ _ ⟨he, hb⟩ => ⟨he, ((Below.refl _ _).alloc (Nat.le_refl _) _).trans (hb.mono (by simp))⟩
theorem mod_small (n : Int) (h0 : 0 ≤ n) (h1 : n < 256) : n % 256 = n := Int.emod_eq_of_lt h0 h1
theorem stp_ok (i : Nat) (x : ByteArray) : tagB ⟨#[115, 116, 101, 112]⟩ [strOfNums [(i : Int)], x] = stp i x := rfl
set_option maxRecDepth 100000 in
set_option maxHeartbeats 400000 in
theorem step_any (p n : Nat) (x : ByteArray) (w : World) (hp : p < 18) (hn : n ≤ 15) (hx : x.size = 16) :
    Calls Tryz.prog 68 #[.int .i64 p, .string x, .int .i64 n] w fun e w' => e = .returned (.string (stepN p n x)) ∧ Below w.heap.size w w' := by
  have g1 : decide ((p : Int) < 0) = false := decide_eq_false (by omega)
  have g2 : decide ((18 : Int) ≤ p) = false := decide_eq_false (by omega)
  have g3 : ((x.size : Int) != 16) = false := by rw [hx]; rfl
  have g4 : decide ((n : Int) < 0) = false := decide_eq_false (by omega)
  have g5 : decide ((15 : Int) < n) = false := decide_eq_false (by omega)
  have HX := Lib.hid hx
  clear hx
  go_enter Tryz.func68, Tryz.ntmps68
  go_wp2_with fail
  go_loopw [1, 27] (fun t i wr => ∃ k : Nat, k ≤ n ∧ i = .int .i64 k ∧ t = .string (stepN p k x) ∧ Hid (Below w.heap.size w wr)) (fun _ i _ => n - (intOf i).toNat)
  case atStart => exact ⟨0, by omega, rfl, rfl, Below.refl _ _⟩
  case round =>
    obtain ⟨k, hk, rfl, rfl, HB⟩ := hrel
    have hzs : (stepN p k x).size ≤ 1000000 := by rw [stepN_size p HX.out]; omega
    have hN : Hid (stepN p (k + 1) x = stp p (stepN p k x)) := rfl
    have HZ2 : Hid ((stepN p k x).size ≤ 1000000) := hzs
    clear hzs
    generalize ht : stepN p k x = t at hN HZ2
    have HT := Lib.hid ht
    clear ht
    by_cases hkn : k < n
    · have kc := conv1
      go_wp2_with fail
      clear kc
      refine (tag2 _ _ _ _ _ (by simp) (by decide) (by rw [num1_size]; omega) HZ2.out).mono ?_
      rintro e w1 ⟨rfl, hb⟩
      go_wp2_with fail
      go_roundw
      case rel => exact ⟨k + 1, by omega, by go_num, by rw [hN.out]; rfl, ((HB.out.alloc HB.out.size _).trans (hb.mono (by simp; have := HB.out.size; omega)))⟩
      case measure => simp [intOf]; omega
    · obtain rfl : k = n := by omega
      go_wp2_with fail
      go_ret
      exact ⟨ret_str HT.out.symm, HB.out⟩
end Go.Proofs.YtdoebmikjgmnaaaGreat
