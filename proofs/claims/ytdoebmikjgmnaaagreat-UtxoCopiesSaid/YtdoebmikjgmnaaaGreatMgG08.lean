/- wots.Sign. wots.From. merkle: the small ones. merkle.rows. -/
import Derived.Outline
import Derived.Lib.OwnKind
import Derived.Deep.RegionHeld3
import Derived.Deep.AppendLies
import Derived.Deep.Onto
import Derived.Test.YtdoebmikjgmnaaaGreatMgG07
set_option linter.unusedVariables false
set_option linter.unusedSimpArgs false
namespace Go.Proofs.YtdoebmikjgmnaaaGreat
open Go.RowKit Go.Shelf
attribute [local go_sem] Oper.semAt_some
def z18 : Array Value := #[.int .i64 0, .int .i64 0, .int .i64 0, .int .i64 0, .int .i64 0, .int .i64 0, .int .i64 0, .int .i64 0, .int .i64 0, .int .i64 0, .int .i64 0, .int .i64 0, .int .i64 0, .int .i64 0, .int .i64 0, .int .i64 0, .int .i64 0, .int .i64 0]
theorem own_size {β : Type} {B n : Nat} : OwnFrom (β := β) B (fun _ W => n ≤ W.heap.size) := fun _ _ _ _ hs hg _ => Nat.le_trans hs hg.size
set_option maxRecDepth 100000 in
set_option maxHeartbeats 2000000 in
theorem wsign_any (seed msg : ByteArray) (w : World) (hs : seed.size ≤ 1000000) (hm : msg.size ≤ 1000000) :
    Calls Tryz.prog 36 #[.string seed, .string msg] w fun e w' => e = .returned (.string (sigB seed msg)) ∧ Below w.heap.size w w' := by
  have HF : Hid (sigB seed msg = catP (fun i x => stepN i (digN msg i) x) (ptsL (secB seed) (fun i _ => secB_size seed i) 18)) := by
    show _ = _
    rw [catP_pts _ _ _ _ (Nat.le_refl _)]; rfl
  have HCZ := Lib.hid (catP_size (fun i x => stepN i (digN msg i) x) (fun i x hx => stepN_size i hx _))
  refine (callsIn_wide (n := 5)).1 ?_
  refine callsIn_of_wp_marks Tryz.func36 rfl trivial ?_ rfl
  simp only [Tryz.ntmps36, List.size_toArray, List.length_cons, List.length_nil, Nat.reduceAdd, Nat.reduceSub, Array.replicate_succ, Array.replicate_zero, List.push_toArray, List.append_toArray, List.nil_append, List.cons_append]
  refine wpIn_wide.2 ?_
  go_wp2_with fail
  refine (digits_any msg _ hm).mono ?_
  rintro e w1 ⟨rfl, hb1⟩
  have hs18 := dgK_size msg 18
  have H1C := Lib.hid (dgK_one msg 18)
  have HI18 : Hid ((Tryz.prog.info? 151).map (·.size) = some (dgK msg 18).size) := by show _ = _; rw [hs18]; kernel_rfl
  have HB1 := Lib.hid hb1
  have HD0 : Hid (∀ i, i < 18 → (dgK msg 18)[i]? = some (.int .i64 (digN msg i))) := fun i hi => by rw [dgK_get _ _ _ hi, if_pos hi]
  generalize dgK msg 18 = cs at hs18 H1C HI18 HD0 ⊢
  have HS18 := Lib.hid hs18
  clear hs18 hb1
  go_wp2_with (first | (refine wpList_store_blk rfl 151 (.tmp 5) (.tmp 10) rfl w1.heap.size ((Blk.new _ _ _).alloc _) cs rfl rfl HS18.out HI18.out H1C.out ?_; intro W3 hb3 hc3; have hbs := Blk.ch (Blk.new _ _ _) hc3 (by simp); rw [World.size_alloc] at hbs; have c6 := hbs.cell 0; have f6 := hbs.frozen 0; have HS3 := Lib.hid hbs; have HD3 := Lib.hid hb3; have HC3 := Lib.hid hc3; clear hbs hb3 hc3))
  refine (secretsF_any seed _).mono ?_
  rintro e w2 ⟨rfl, rfl⟩
  have hz3 := HC3.out.size
  have hz1 := HB1.out.size
  simp at hz3
  have hl3 := HS3.out.lt
  have HW3 : Hid (Below w.heap.size w W3) := ((HB1.out.alloc hz1 _).alloc (by simp; omega) _).trans (HC3.out.below (by simp; omega) (by simp; omega))
  have HZ3 : Hid (w1.heap.size + 1 < W3.heap.size) := hl3
  go_wp2_with fail
  have hN0 : Blk ((W3.setCell ⟨w1.heap.size + 1, 0, none⟩ (.string ⟨#[]⟩)).alloc (.cells #[.string seed] 9)) W3.heap.size 9 #[.string seed] := by
    have := Blk.new (W3.setCell ⟨w1.heap.size + 1, 0, none⟩ (.string ⟨#[]⟩)) 9 #[.string seed]
    rwa [World.size_setCell] at this
  have hA0 : Blk ((W3.setCell ⟨w1.heap.size + 1, 0, none⟩ (.string ⟨#[]⟩)).alloc (.cells #[.string seed] 9)) (w1.heap.size + 1) 9 #[.string (catP (fun i x => stepN i (digN msg i) x) [])] := (HS3.out.set_ 0 _).alloc _
  have hD0 : Blk ((W3.setCell ⟨w1.heap.size + 1, 0, none⟩ (.string ⟨#[]⟩)).alloc (.cells #[.string seed] 9)) w1.heap.size 151 cs := (HD3.out.far (by simp) _).alloc _
  have hB0 : Below w.heap.size w ((W3.setCell ⟨w1.heap.size + 1, 0, none⟩ (.string ⟨#[]⟩)).alloc (.cells #[.string seed] 9)) := (HW3.out.setCell (by simp; omega) _).alloc (by simp; exact HW3.out.size) _
  have hz0 : ((W3.setCell ⟨w1.heap.size + 1, 0, none⟩ (.string ⟨#[]⟩)).alloc (.cells #[.string seed] 9)).heap.size = W3.heap.size + 1 := by simp
  generalize hW0 : (W3.setCell ⟨w1.heap.size + 1, 0, none⟩ (.string ⟨#[]⟩)).alloc (.cells #[.string seed] 9) = W0 at hN0 hA0 hD0 hB0 hz0 ⊢
  have HZ0 := Lib.hid hz0
  clear hW0 c6 f6
  refine (wpIn_wide (n := 5)).1 ?_
  refine wpIn_rangeFunc_ownG rfl (by decide) (gf := 102) (lb := #[.pointer (some ⟨W3.heap.size, 0, none⟩)]) rfl trivial (enters_of Tryz.func102 (by kernel_rfl) rfl)
    (secrets_stops 4 W3.heap.size (w1.heap.size + 1) seed W0 hs (by omega) (by omega) hN0) kpB_trans (fun W l o o' hl _ _ _ => kpB_put o' hl) (Below.refl _ _) (fun _ => rfl)
    (fun pre W => Blk W (w1.heap.size + 1) 9 #[.string (catP (fun i x => stepN i (digN msg i) x) pre)] ∧ Blk W w1.heap.size 151 cs ∧ Below w.heap.size w W ∧ W0.heap.size ≤ W.heap.size) (fun _ _ _ => False)
    (OwnFrom.and (ownFrom_blk _ _ _ (fun pre => #[.string (catP (fun i x => stepN i (digN msg i) x) pre)])) (OwnFrom.and (ownFrom_blk _ _ _ (fun _ => cs)) (OwnFrom.and (ownFrom_below (Nat.le_refl _) (by omega)) own_size))) (fun _ s W W' row hs _ _ => hs) ⟨hA0, hD0, hB0, Nat.le_refl _⟩
    (fun x => { tmps := #[.string seed, .string msg, undef, undef, .string ⟨#[]⟩, .pointer (some ⟨w1.heap.size, 0, none⟩), .pointer (some ⟨w1.heap.size + 1, 0, none⟩), .int .i64 (x.1.val : Int), .string x.2.val, .string msg, .agg cs, .string seed, .func (.func 102) #[] #[.pointer (some ⟨W3.heap.size, 0, none⟩)], .int .i64 (x.1.val : Int), .string x.2.val, undef, undef, undef, undef, undef, undef, undef, undef, undef], defers := [] }) ?assign ?body ?done ?stop
  case assign =>
    intro l x W K hK
    simp only [encP]
    gi_wp2
    exact hK
  case body =>
    rintro l pre ⟨⟨i, hi⟩, ⟨x, hx⟩⟩ W ⟨hA, hD, hB, hzW⟩ hlen
    have HS := Lib.hid (catP_snoc (fun i x => stepN i (digN msg i) x) pre (⟨i, hi⟩, ⟨x, hx⟩))
    have z1 : (catP (fun i x => stepN i (digN msg i) x) pre).size ≤ 1000 := by rw [HCZ.out]; omega
    have z2 : (stepN i (digN msg i) x).size ≤ 1000 := by rw [stepN_size i hx]; omega
    have hst := step_any i (digN msg i) x
    have hdl := digN_le msg i
    have cd : W.cell? ⟨w1.heap.size, i, none⟩ = some (.int .i64 (digN msg i)) := by rw [hD.cell]; exact HD0.out i hi
    generalize catP (fun i x => stepN i (digN msg i) x) pre = s at hA HS z1
    dsimp only at HS
    generalize stepN i (digN msg i) x = y at z2 HS hst
    generalize digN msg i = dg at hst hdl cd
    have HST := Lib.hid hst
    clear hst
    have c0 : W.cell? ⟨w1.heap.size + 1, 0, none⟩ = some (.string s) := hA.cell 0
    have f0 : W.frozen? ⟨w1.heap.size + 1, 0, none⟩ = false := hA.frozen 0
    have HA := Lib.hid hA
    have HD := Lib.hid hD
    have HB := Lib.hid hB
    have hlt := hA.lt
    have hltd := hD.lt
    have zz : ¬ 9223372036854775807 < s.size + y.size := by omega
    clear hA hB hD
    have hiI : (i : Int) < 18 := by omega
    have hi0 : (0 : Int) ≤ i := by omega
    gi_wp2_with fail
    have hmx : Tryz.prog.follows .mixedOrders = true := by kernel_rfl
    refine region_round rfl (by kernel_rfl) hmx ?_
    refine wpAnyIn_take (i := 1) (v := ?_) rfl rfl (by kernel_rfl) (by kernel_rfl) (by kernel_rfl) (fun _ _ _ h => h) ⟨Or.inl ⟨by rfl, ?_⟩, fun _ => rfl⟩ ?_
    rotate_left
    · (intro w; go_simp; try with_reducible rfl)
    refine wpAnyIn_take (i := 2) (v := ?_) rfl rfl (by kernel_rfl) (by kernel_rfl) (by kernel_rfl) (fun _ _ _ h => h) ⟨Or.inl ⟨by rfl, ?_⟩, fun _ => rfl⟩ ?_
    rotate_left
    · (intro w; go_simp; try with_reducible rfl)
    refine wpAnyIn_take (i := 3) (v := ?_) rfl rfl (by kernel_rfl) (by kernel_rfl) (by kernel_rfl) (fun _ _ _ h => h) ⟨Or.inl ⟨by rfl, ?_⟩, fun _ => rfl⟩ ?_
    rotate_left
    · (intro w; go_simp; try with_reducible rfl)
    refine wpAnyIn_take (i := 4) (v := ?_) rfl rfl (by kernel_rfl) (by kernel_rfl) (by kernel_rfl) (fun _ _ _ h => h) ⟨Or.inl ⟨by rfl, ?_⟩, fun _ => rfl⟩ ?_
    rotate_left
    · (intro w; go_simp; try with_reducible rfl)
    refine wpAnyIn_ready (rs := [0, 5]) (by kernel_rfl) (by simp) (AllReadyIn.cons rfl (fun K hK => ?_) (AllReadyIn.cons rfl (fun K hK => ?_) AllReadyIn.nil))
    · go_simp
      refine hK _ _ ?_
      clear hK K
      refine wpAnyIn_ready (rs := [5]) (by kernel_rfl) (by simp) (AllReadyIn.cons rfl (fun K hK => ?_) AllReadyIn.nil)
      go_simp
      refine hK _ _ ?_
      clear hK K
      refine wpAnyIn_ready (rs := [6]) (by kernel_rfl) (by simp) (AllReadyIn.cons rfl (fun K hK => ?_) AllReadyIn.nil)
      go_simp
      (refine ⟨trivial, ?_⟩
       refine (callsIn_wide.2 (HST.out _ hi hdl hx)).mono ?_
       rintro e w' ⟨rfl, hb'⟩
       have c0' : w'.cell? ⟨w1.heap.size + 1, 0, none⟩ = some (.string s) := (hb'.cell (p := ⟨w1.heap.size + 1, 0, none⟩) hlt).trans c0
       have f0' : w'.frozen? ⟨w1.heap.size + 1, 0, none⟩ = false := (hb'.frozen (p := ⟨w1.heap.size + 1, 0, none⟩) hlt).trans f0
       have HB' := Lib.hid hb'
       clear hb'
       refine hK _ _ ?_
       clear hK K)
      refine wpAnyIn_take (i := 7) (v := ?_) rfl rfl (by kernel_rfl) (by kernel_rfl) (by kernel_rfl) (fun _ _ _ h => h) ⟨Or.inl ⟨by rfl, ?_⟩, fun _ => rfl⟩ ?_
      rotate_left
      · (intro w; go_simp; try with_reducible rfl)
      refine wpAnyIn_ready (rs := [8]) (by kernel_rfl) (by simp) (AllReadyIn.cons rfl (fun K hK => ?_) AllReadyIn.nil)
      go_simp
      refine hK _ _ ?_
      clear hK K
      (refine wpAnyIn_done (by kernel_rfl) ?_ _
       have b1 : Below W.heap.size W _ := ((Below.refl W.heap.size W).drew).trans HB'.out
       have b2 := b1.size
       exact ⟨(keeps_below b1).trans ((KeepsOthers.setCell _ _ _).from _), kpB_trans (kpB_below b1 hzW) (kpB_set _ _ _), by rw [HS.out]; exact (HA.out.bel b1).set_ 0 _, (HD.out.bel b1).far (by simp) _, (HB.out.trans (b1.mono HB.out.size)).setCell (by simp; omega) _, by simp; omega⟩)
    · go_simp
      refine hK _ _ ?_
      clear hK K
      refine wpAnyIn_ready (rs := [0, 6]) (by kernel_rfl) (by simp) (AllReadyIn.cons rfl (fun K hK => ?_) (AllReadyIn.cons rfl (fun K hK => ?_) AllReadyIn.nil))
      · go_simp
        refine hK _ _ ?_
        clear hK K
        refine wpAnyIn_ready (rs := [6]) (by kernel_rfl) (by simp) (AllReadyIn.cons rfl (fun K hK => ?_) AllReadyIn.nil)
        go_simp
        (refine ⟨trivial, ?_⟩
         refine (callsIn_wide.2 (HST.out _ hi hdl hx)).mono ?_
         rintro e w' ⟨rfl, hb'⟩
         have c0' : w'.cell? ⟨w1.heap.size + 1, 0, none⟩ = some (.string s) := (hb'.cell (p := ⟨w1.heap.size + 1, 0, none⟩) hlt).trans c0
         have f0' : w'.frozen? ⟨w1.heap.size + 1, 0, none⟩ = false := (hb'.frozen (p := ⟨w1.heap.size + 1, 0, none⟩) hlt).trans f0
         have HB' := Lib.hid hb'
         clear hb'
         refine hK _ _ ?_
         clear hK K)
        refine wpAnyIn_take (i := 7) (v := ?_) rfl rfl (by kernel_rfl) (by kernel_rfl) (by kernel_rfl) (fun _ _ _ h => h) ⟨Or.inl ⟨by rfl, ?_⟩, fun _ => rfl⟩ ?_
        rotate_left
        · (intro w; go_simp; try with_reducible rfl)
        refine wpAnyIn_ready (rs := [8]) (by kernel_rfl) (by simp) (AllReadyIn.cons rfl (fun K hK => ?_) AllReadyIn.nil)
        go_simp
        refine hK _ _ ?_
        clear hK K
        (refine wpAnyIn_done (by kernel_rfl) ?_ _
         have b1 : Below W.heap.size W _ := ((Below.refl W.heap.size W).drew).trans HB'.out
         have b2 := b1.size
         exact ⟨(keeps_below b1).trans ((KeepsOthers.setCell _ _ _).from _), kpB_trans (kpB_below b1 hzW) (kpB_set _ _ _), by rw [HS.out]; exact (HA.out.bel b1).set_ 0 _, (HD.out.bel b1).far (by simp) _, (HB.out.trans (b1.mono HB.out.size)).setCell (by simp; omega) _, by simp; omega⟩)
      · go_simp
        (refine ⟨trivial, ?_⟩
         refine (callsIn_wide.2 (HST.out _ hi hdl hx)).mono ?_
         rintro e w' ⟨rfl, hb'⟩
         have c0' : w'.cell? ⟨w1.heap.size + 1, 0, none⟩ = some (.string s) := (hb'.cell (p := ⟨w1.heap.size + 1, 0, none⟩) hlt).trans c0
         have f0' : w'.frozen? ⟨w1.heap.size + 1, 0, none⟩ = false := (hb'.frozen (p := ⟨w1.heap.size + 1, 0, none⟩) hlt).trans f0
         have HB' := Lib.hid hb'
         clear hb'
         refine hK _ _ ?_
         clear hK K)
        refine wpAnyIn_ready (rs := [0]) (by kernel_rfl) (by simp) (AllReadyIn.cons rfl (fun K hK => ?_) AllReadyIn.nil)
        go_simp
        refine hK _ _ ?_
        clear hK K
        refine wpAnyIn_take (i := 7) (v := ?_) rfl rfl (by kernel_rfl) (by kernel_rfl) (by kernel_rfl) (fun _ _ _ h => h) ⟨Or.inl ⟨by rfl, ?_⟩, fun _ => rfl⟩ ?_
        rotate_left
        · (intro w; go_simp; try with_reducible rfl)
        refine wpAnyIn_ready (rs := [8]) (by kernel_rfl) (by simp) (AllReadyIn.cons rfl (fun K hK => ?_) AllReadyIn.nil)
        go_simp
        refine hK _ _ ?_
        clear hK K
        (refine wpAnyIn_done (by kernel_rfl) ?_ _
         have b1 : Below W.heap.size W _ := ((Below.refl W.heap.size W).drew).trans HB'.out
         have b2 := b1.size
         exact ⟨(keeps_below b1).trans ((KeepsOthers.setCell _ _ _).from _), kpB_trans (kpB_below b1 hzW) (kpB_set _ _ _), by rw [HS.out]; exact (HA.out.bel b1).set_ 0 _, (HD.out.bel b1).far (by simp) _, (HB.out.trans (b1.mono HB.out.size)).setCell (by simp; omega) _, by simp; omega⟩)
  case done =>
    rintro D ys W hD rfl ⟨hA, hDD, hB, hzW⟩ hK
    have HB := Lib.hid hB
    have HK := Lib.hid hK
    generalize catP (fun i x => stepN i (digN msg i) x) (ptsL (secB seed) (fun i _ => secB_size seed i) 18) = s at HF hA
    have c0 : W.cell? ⟨w1.heap.size + 1, 0, none⟩ = some (.string s) := hA.cell 0
    clear hA hB hK hDD
    go_wp2_with fail
    refine ⟨by simp, .inl ⟨_, _, rfl, run_takeDeferred HK.out, ?_⟩⟩
    refine ⟨_, results_tmp rfl _ _ _, ?_⟩
    exact ⟨ret_str HF.out.symm, HB.out.trans ((Ch.of_grown (grownBy_putObj' _ D _)).below HB.out.size (by simp; omega))⟩
  case stop =>
    rintro D c pre W _ _ h _
    exact h.elim
end Go.Proofs.YtdoebmikjgmnaaaGreat
namespace Go.Proofs.YtdoebmikjgmnaaaGreat
open Go.RowKit Go.Shelf
attribute [local go_sem] Oper.semAt_some
set_option maxRecDepth 100000 in
set_option maxHeartbeats 2000000 in
theorem wfrom_any (msg sig : ByteArray) (w : World) (hs : sig.size = 288) (hm : msg.size ≤ 1000000) :
    Calls Tryz.prog 118 #[.string msg, .string sig] w fun e w' => e = .returned (.tuple #[.string (fromB msg sig), .int .i64 0]) ∧ Below w.heap.size w w' := by
  have HP := Lib.hid (partB_size hs)
  have HS288 := Lib.hid hs
  have HF : Hid (fromB msg sig = tagB ⟨#[112, 117, 98, 108, 105, 99]⟩ [catP (fun i x => stepN i (15 - digN msg i) x) (ptsL (partB sig) HP.out 18)]) := by
    show _ = _
    rw [catP_pts _ _ _ _ (Nat.le_refl _)]; rfl
  have h288 : ((sig.size : Int) != 288) = false := by rw [hs]; rfl
  clear hs
  have HCZ := Lib.hid (catP_size (fun i x => stepN i (15 - digN msg i) x) (fun i x hx => stepN_size i hx _))
  refine (callsIn_wide (n := 5)).1 ?_
  refine callsIn_of_wp_marks Tryz.func118 rfl trivial ?_ rfl
  simp only [Tryz.ntmps118, List.size_toArray, List.length_cons, List.length_nil, Nat.reduceAdd, Nat.reduceSub, Array.replicate_succ, Array.replicate_zero, List.push_toArray, List.append_toArray, List.nil_append, List.cons_append]
  refine wpIn_wide.2 ?_
  go_wp2_with fail
  refine (digits_any msg _ hm).mono ?_
  rintro e w1 ⟨rfl, hb1⟩
  have hs18 := dgK_size msg 18
  have H1C := Lib.hid (dgK_one msg 18)
  have HI18 : Hid ((Tryz.prog.info? 151).map (·.size) = some (dgK msg 18).size) := by show _ = _; rw [hs18]; kernel_rfl
  have HB1 := Lib.hid hb1
  have HD0 : Hid (∀ i, i < 18 → (dgK msg 18)[i]? = some (.int .i64 (digN msg i))) := fun i hi => by rw [dgK_get _ _ _ hi, if_pos hi]
  generalize dgK msg 18 = cs at hs18 H1C HI18 HD0 ⊢
  have HS18 := Lib.hid hs18
  clear hs18 hb1
  go_wp2_with (first | (refine wpList_store_blk rfl 151 (.tmp 6) (.tmp 14) rfl w1.heap.size ((Blk.new _ _ _).alloc _) cs rfl rfl HS18.out HI18.out H1C.out ?_; intro W3 hb3 hc3; have hbs := Blk.ch (Blk.new _ _ _) hc3 (by simp); rw [World.size_alloc] at hbs; have c6 := hbs.cell 0; have f6 := hbs.frozen 0; have HS3 := Lib.hid hbs; have HD3 := Lib.hid hb3; have HC3 := Lib.hid hc3; clear hbs hb3 hc3))
  refine (partsF_any sig _).mono ?_
  rintro e w2 ⟨rfl, rfl⟩
  have hz3 := HC3.out.size
  have hz1 := HB1.out.size
  simp at hz3
  have hl3 := HS3.out.lt
  have HW3 : Hid (Below w.heap.size w W3) := ((HB1.out.alloc hz1 _).alloc (by simp; omega) _).trans (HC3.out.below (by simp; omega) (by simp; omega))
  have HZ3 : Hid (w1.heap.size + 1 < W3.heap.size) := hl3
  go_wp2_with fail
  have hN0 : Blk ((W3.setCell ⟨w1.heap.size + 1, 0, none⟩ (.string ⟨#[]⟩)).alloc (.cells #[.string sig] 9)) W3.heap.size 9 #[.string sig] := by
    have := Blk.new (W3.setCell ⟨w1.heap.size + 1, 0, none⟩ (.string ⟨#[]⟩)) 9 #[.string sig]
    rwa [World.size_setCell] at this
  have hA0 : Blk ((W3.setCell ⟨w1.heap.size + 1, 0, none⟩ (.string ⟨#[]⟩)).alloc (.cells #[.string sig] 9)) (w1.heap.size + 1) 9 #[.string (catP (fun i x => stepN i (15 - digN msg i) x) [])] := (HS3.out.set_ 0 _).alloc _
  have hD0 : Blk ((W3.setCell ⟨w1.heap.size + 1, 0, none⟩ (.string ⟨#[]⟩)).alloc (.cells #[.string sig] 9)) w1.heap.size 151 cs := (HD3.out.far (by simp) _).alloc _
  have hB0 : Below w.heap.size w ((W3.setCell ⟨w1.heap.size + 1, 0, none⟩ (.string ⟨#[]⟩)).alloc (.cells #[.string sig] 9)) := (HW3.out.setCell (by simp; omega) _).alloc (by simp; exact HW3.out.size) _
  have hz0 : ((W3.setCell ⟨w1.heap.size + 1, 0, none⟩ (.string ⟨#[]⟩)).alloc (.cells #[.string sig] 9)).heap.size = W3.heap.size + 1 := by simp
  generalize hW0 : (W3.setCell ⟨w1.heap.size + 1, 0, none⟩ (.string ⟨#[]⟩)).alloc (.cells #[.string sig] 9) = W0 at hN0 hA0 hD0 hB0 hz0 ⊢
  have HZ0 := Lib.hid hz0
  clear hW0 c6 f6
  refine (wpIn_wide (n := 5)).1 ?_
  refine wpIn_rangeFunc_ownG rfl (by decide) (gf := 155) (lb := #[.pointer (some ⟨W3.heap.size, 0, none⟩)]) rfl trivial (enters_of Tryz.func155 (by kernel_rfl) rfl)
    (parts_stops 4 W3.heap.size (w1.heap.size + 1) sig W0 HP.out HS288.out (by omega) (by omega) hN0) kpB_trans (fun W l o o' hl _ _ _ => kpB_put o' hl) (Below.refl _ _) (fun _ => rfl)
    (fun pre W => Blk W (w1.heap.size + 1) 9 #[.string (catP (fun i x => stepN i (15 - digN msg i) x) pre)] ∧ Blk W w1.heap.size 151 cs ∧ Below w.heap.size w W ∧ W0.heap.size ≤ W.heap.size) (fun _ _ _ => False)
    (OwnFrom.and (ownFrom_blk _ _ _ (fun pre => #[.string (catP (fun i x => stepN i (15 - digN msg i) x) pre)])) (OwnFrom.and (ownFrom_blk _ _ _ (fun _ => cs)) (OwnFrom.and (ownFrom_below (Nat.le_refl _) (by omega)) own_size))) (fun _ s W W' row hs _ _ => hs) ⟨hA0, hD0, hB0, Nat.le_refl _⟩
    (fun x => { tmps := #[.string msg, .string sig, undef, undef, .string ⟨#[]⟩, .int .i64 0, .pointer (some ⟨w1.heap.size, 0, none⟩), .pointer (some ⟨w1.heap.size + 1, 0, none⟩), .int .i64 (x.1.val : Int), .string x.2.val, .string sig, .int .i64 (sig.size : Int), .bool false, .string msg, .agg cs, .string sig, .func (.func 155) #[] #[.pointer (some ⟨W3.heap.size, 0, none⟩)], .int .i64 (x.1.val : Int), .string x.2.val, undef, undef, undef, undef, undef, undef, undef, undef, undef, undef, undef, undef], defers := [] }) ?assign ?body ?done ?stop
  case assign =>
    intro l x W K hK
    simp only [encP]
    gi_wp2
    exact hK
  case body =>
    rintro l pre ⟨⟨i, hi⟩, ⟨x, hx⟩⟩ W ⟨hA, hD, hB, hzW⟩ hlen
    have HS := Lib.hid (catP_snoc (fun i x => stepN i (15 - digN msg i) x) pre (⟨i, hi⟩, ⟨x, hx⟩))
    have z1 : (catP (fun i x => stepN i (15 - digN msg i) x) pre).size ≤ 1000 := by rw [HCZ.out]; omega
    have z2 : (stepN i (15 - digN msg i) x).size ≤ 1000 := by rw [stepN_size i hx]; omega
    have hst := step_any i (15 - digN msg i) x
    have hdl := digN_le msg i
    have cd : W.cell? ⟨w1.heap.size, i, none⟩ = some (.int .i64 (digN msg i)) := by rw [hD.cell]; exact HD0.out i hi
    generalize catP (fun i x => stepN i (15 - digN msg i) x) pre = s at hA HS z1
    dsimp only at HS
    generalize stepN i (15 - digN msg i) x = y at z2 HS hst
    generalize digN msg i = dg at hst hdl cd
    have q15 : IntKind.i64.wrap (15 - (dg : Int)) = 15 - (dg : Int) := IntWalk.i64_in _ (by omega)
    have e15 : ((15 - dg : Nat) : Int) = 15 - (dg : Int) := by omega
    rw [e15] at hst
    have hd15 : 15 - dg ≤ 15 := by omega
    clear e15
    have HST := Lib.hid hst
    clear hst
    have c0 : W.cell? ⟨w1.heap.size + 1, 0, none⟩ = some (.string s) := hA.cell 0
    have f0 : W.frozen? ⟨w1.heap.size + 1, 0, none⟩ = false := hA.frozen 0
    have HA := Lib.hid hA
    have HD := Lib.hid hD
    have HB := Lib.hid hB
    have hlt := hA.lt
    have hltd := hD.lt
    have zz : ¬ 9223372036854775807 < s.size + y.size := by omega
    clear hA hB hD
    have hiI : (i : Int) < 18 := by omega
    have hi0 : (0 : Int) ≤ i := by omega
    gi_wp2_with fail
    have hmx : Tryz.prog.follows .mixedOrders = true := by kernel_rfl
    refine region_round rfl (by kernel_rfl) hmx ?_
    refine wpAnyIn_take (i := 1) (v := ?_) rfl rfl (by kernel_rfl) (by kernel_rfl) (by kernel_rfl) (fun _ _ _ h => h) ⟨Or.inl ⟨by rfl, ?_⟩, fun _ => rfl⟩ ?_
    rotate_left
    · (intro w; go_simp; try with_reducible rfl)
    refine wpAnyIn_take (i := 2) (v := ?_) rfl rfl (by kernel_rfl) (by kernel_rfl) (by kernel_rfl) (fun _ _ _ h => h) ⟨Or.inl ⟨by rfl, ?_⟩, fun _ => rfl⟩ ?_
    rotate_left
    · (intro w; go_simp; try with_reducible rfl)
    refine wpAnyIn_take (i := 3) (v := ?_) rfl rfl (by kernel_rfl) (by kernel_rfl) (by kernel_rfl) (fun _ _ _ h => h) ⟨Or.inl ⟨by rfl, ?_⟩, fun _ => rfl⟩ ?_
    rotate_left
    · (intro w; go_simp; try with_reducible rfl)
    refine wpAnyIn_take (i := 4) (v := ?_) rfl rfl (by kernel_rfl) (by kernel_rfl) (by kernel_rfl) (fun _ _ _ h => h) ⟨Or.inl ⟨by rfl, ?_⟩, fun _ => rfl⟩ ?_
    rotate_left
    · (intro w; go_simp; try with_reducible rfl)
    refine wpAnyIn_ready (rs := [0, 5]) (by kernel_rfl) (by simp) (AllReadyIn.cons rfl (fun K hK => ?_) (AllReadyIn.cons rfl (fun K hK => ?_) AllReadyIn.nil))
    · go_simp
      refine hK _ _ ?_
      clear hK K
      refine wpAnyIn_ready (rs := [5]) (by kernel_rfl) (by simp) (AllReadyIn.cons rfl (fun K hK => ?_) AllReadyIn.nil)
      go_simp
      refine hK _ _ ?_
      clear hK K
      refine wpAnyIn_take (i := 6) (v := ?_) rfl rfl (by kernel_rfl) (by kernel_rfl) (by kernel_rfl) (fun _ _ _ h => h) ⟨Or.inl ⟨by rfl, ?_⟩, fun _ => rfl⟩ ?_
      rotate_left
      · (intro w; go_simp; try with_reducible rfl)
      refine wpAnyIn_ready (rs := [7]) (by kernel_rfl) (by simp) (AllReadyIn.cons rfl (fun K hK => ?_) AllReadyIn.nil)
      go_simp
      (refine ⟨trivial, ?_⟩
       refine (callsIn_wide.2 (HST.out _ hi hd15 hx)).mono ?_
       rintro e w' ⟨rfl, hb'⟩
       have c0' : w'.cell? ⟨w1.heap.size + 1, 0, none⟩ = some (.string s) := (hb'.cell (p := ⟨w1.heap.size + 1, 0, none⟩) hlt).trans c0
       have f0' : w'.frozen? ⟨w1.heap.size + 1, 0, none⟩ = false := (hb'.frozen (p := ⟨w1.heap.size + 1, 0, none⟩) hlt).trans f0
       have HB' := Lib.hid hb'
       clear hb'
       refine hK _ _ ?_
       clear hK K)
      refine wpAnyIn_take (i := 8) (v := ?_) rfl rfl (by kernel_rfl) (by kernel_rfl) (by kernel_rfl) (fun _ _ _ h => h) ⟨Or.inl ⟨by rfl, ?_⟩, fun _ => rfl⟩ ?_
      rotate_left
      · (intro w; go_simp; try with_reducible rfl)
      refine wpAnyIn_ready (rs := [9]) (by kernel_rfl) (by simp) (AllReadyIn.cons rfl (fun K hK => ?_) AllReadyIn.nil)
      go_simp
      refine hK _ _ ?_
      clear hK K
      (refine wpAnyIn_done (by kernel_rfl) ?_ _
       have b1 : Below W.heap.size W _ := ((Below.refl W.heap.size W).drew).trans HB'.out
       have b2 := b1.size
       exact ⟨(keeps_below b1).trans ((KeepsOthers.setCell _ _ _).from _), kpB_trans (kpB_below b1 hzW) (kpB_set _ _ _), by rw [HS.out]; exact (HA.out.bel b1).set_ 0 _, (HD.out.bel b1).far (by simp) _, (HB.out.trans (b1.mono HB.out.size)).setCell (by simp; omega) _, by simp; omega⟩)
    · go_simp
      refine hK _ _ ?_
      clear hK K
      refine wpAnyIn_take (i := 6) (v := ?_) rfl rfl (by kernel_rfl) (by kernel_rfl) (by kernel_rfl) (fun _ _ _ h => h) ⟨Or.inl ⟨by rfl, ?_⟩, fun _ => rfl⟩ ?_
      rotate_left
      · (intro w; go_simp; try with_reducible rfl)
      refine wpAnyIn_ready (rs := [0, 7]) (by kernel_rfl) (by simp) (AllReadyIn.cons rfl (fun K hK => ?_) (AllReadyIn.cons rfl (fun K hK => ?_) AllReadyIn.nil))
      · go_simp
        refine hK _ _ ?_
        clear hK K
        refine wpAnyIn_ready (rs := [7]) (by kernel_rfl) (by simp) (AllReadyIn.cons rfl (fun K hK => ?_) AllReadyIn.nil)
        go_simp
        (refine ⟨trivial, ?_⟩
         refine (callsIn_wide.2 (HST.out _ hi hd15 hx)).mono ?_
         rintro e w' ⟨rfl, hb'⟩
         have c0' : w'.cell? ⟨w1.heap.size + 1, 0, none⟩ = some (.string s) := (hb'.cell (p := ⟨w1.heap.size + 1, 0, none⟩) hlt).trans c0
         have f0' : w'.frozen? ⟨w1.heap.size + 1, 0, none⟩ = false := (hb'.frozen (p := ⟨w1.heap.size + 1, 0, none⟩) hlt).trans f0
         have HB' := Lib.hid hb'
         clear hb'
         refine hK _ _ ?_
         clear hK K)
        refine wpAnyIn_take (i := 8) (v := ?_) rfl rfl (by kernel_rfl) (by kernel_rfl) (by kernel_rfl) (fun _ _ _ h => h) ⟨Or.inl ⟨by rfl, ?_⟩, fun _ => rfl⟩ ?_
        rotate_left
        · (intro w; go_simp; try with_reducible rfl)
        refine wpAnyIn_ready (rs := [9]) (by kernel_rfl) (by simp) (AllReadyIn.cons rfl (fun K hK => ?_) AllReadyIn.nil)
        go_simp
        refine hK _ _ ?_
        clear hK K
        (refine wpAnyIn_done (by kernel_rfl) ?_ _
         have b1 : Below W.heap.size W _ := ((Below.refl W.heap.size W).drew).trans HB'.out
         have b2 := b1.size
         exact ⟨(keeps_below b1).trans ((KeepsOthers.setCell _ _ _).from _), kpB_trans (kpB_below b1 hzW) (kpB_set _ _ _), by rw [HS.out]; exact (HA.out.bel b1).set_ 0 _, (HD.out.bel b1).far (by simp) _, (HB.out.trans (b1.mono HB.out.size)).setCell (by simp; omega) _, by simp; omega⟩)
      · go_simp
        (refine ⟨trivial, ?_⟩
         refine (callsIn_wide.2 (HST.out _ hi hd15 hx)).mono ?_
         rintro e w' ⟨rfl, hb'⟩
         have c0' : w'.cell? ⟨w1.heap.size + 1, 0, none⟩ = some (.string s) := (hb'.cell (p := ⟨w1.heap.size + 1, 0, none⟩) hlt).trans c0
         have f0' : w'.frozen? ⟨w1.heap.size + 1, 0, none⟩ = false := (hb'.frozen (p := ⟨w1.heap.size + 1, 0, none⟩) hlt).trans f0
         have HB' := Lib.hid hb'
         clear hb'
         refine hK _ _ ?_
         clear hK K)
        refine wpAnyIn_ready (rs := [0]) (by kernel_rfl) (by simp) (AllReadyIn.cons rfl (fun K hK => ?_) AllReadyIn.nil)
        go_simp
        refine hK _ _ ?_
        clear hK K
        refine wpAnyIn_take (i := 8) (v := ?_) rfl rfl (by kernel_rfl) (by kernel_rfl) (by kernel_rfl) (fun _ _ _ h => h) ⟨Or.inl ⟨by rfl, ?_⟩, fun _ => rfl⟩ ?_
        rotate_left
        · (intro w; go_simp; try with_reducible rfl)
        refine wpAnyIn_ready (rs := [9]) (by kernel_rfl) (by simp) (AllReadyIn.cons rfl (fun K hK => ?_) AllReadyIn.nil)
        go_simp
        refine hK _ _ ?_
        clear hK K
        (refine wpAnyIn_done (by kernel_rfl) ?_ _
         have b1 : Below W.heap.size W _ := ((Below.refl W.heap.size W).drew).trans HB'.out
         have b2 := b1.size
         exact ⟨(keeps_below b1).trans ((KeepsOthers.setCell _ _ _).from _), kpB_trans (kpB_below b1 hzW) (kpB_set _ _ _), by rw [HS.out]; exact (HA.out.bel b1).set_ 0 _, (HD.out.bel b1).far (by simp) _, (HB.out.trans (b1.mono HB.out.size)).setCell (by simp; omega) _, by simp; omega⟩)
  case done =>
    rintro D ys W hD rfl ⟨hA, hDD, hB, hzW⟩ hK
    have HB := Lib.hid hB
    have HK := Lib.hid hK
    have HSZ0 : (catP (fun i x => stepN i (15 - digN msg i) x) (ptsL (partB sig) HP.out 18)).size ≤ 1000000 := by rw [HCZ.out, ptsL_length]; omega
    generalize catP (fun i x => stepN i (15 - digN msg i) x) (ptsL (partB sig) HP.out 18) = s at HF hA HSZ0
    have c0 : W.cell? ⟨w1.heap.size + 1, 0, none⟩ = some (.string s) := hA.cell 0
    have HSZ : Hid (s.size ≤ 1000000) := HSZ0
    clear hA hB hK hDD
    go_wp2_with fail
    refine (tag1 _ s _ _ rfl (by decide) HSZ.out).mono ?_
    rintro e w4 ⟨rfl, hb4⟩
    have HK4 : Hid (w4.heap[D]? = some (.deferred (some []))) := (hb4.block D (Array.getElem?_eq_some_iff.1 HK.out).1).trans HK.out
    have HB4 := Lib.hid (HB.out.trans (hb4.mono HB.out.size))
    clear hb4
    go_wp2_with fail
    refine ⟨by simp, .inl ⟨_, _, rfl, run_takeDeferred HK4.out, ?_⟩⟩
    refine ⟨.tuple #[.string (fromB msg sig), .int .i64 0], ?_, rfl, HB4.out.trans ((Ch.of_grown (grownBy_putObj' _ D _)).below HB4.out.size (by simp; omega))⟩
    rw [HF.out]
    simp [results, Tryz.f118, go_sem]
  case stop =>
    rintro D c pre W _ _ h _
    exact h.elim
end Go.Proofs.YtdoebmikjgmnaaaGreat
namespace Go.Proofs.YtdoebmikjgmnaaaGreat
open Go.RowKit
theorem one_any (n : Nat) (w : World) (hn : n < 256) : Calls Tryz.prog 35 #[.int .i64 n] w fun e w' => e = .returned (.string (oneB n)) ∧ Below w.heap.size w w' := by
  have kc := conv1
  have hn2 : (n : Int) < 256 := by omega
  go_enter Tryz.func35, Tryz.ntmps35
  go_wp2_with fail
  go_ret
  exact ⟨rfl, (Below.refl _ _).alloc (Nat.le_refl _) _⟩
theorem odd_no (s : ByteArray) (w : World) (hs : s.size = 16) : Calls Tryz.prog 104 #[.string s] w fun e w' => e = .returned (.bool false) ∧ w = w' := by
  have h1 : ((s.size : Int) != 16) = false := by rw [hs]; rfl
  clear hs
  go_enter Tryz.func104, Tryz.ntmps104
  go_wp2_with fail
  go_ret
  exact ⟨rfl, rfl⟩
theorem node_any (a b : ByteArray) (w : World) (ha : a.size ≤ 1000000) (hb : b.size ≤ 1000000) : Calls Tryz.prog 106 #[.string a, .string b] w fun e w' => e = .returned (.string (nodeB a b)) ∧ Below w.heap.size w w' := by
  go_enter Tryz.func106, Tryz.ntmps106
  go_wp2_with fail
  refine (tag2 _ a b _ _ rfl (by decide) ha hb).mono ?_
  rintro e w' ⟨rfl, hb'⟩
  go_wp2_with fail
  go_ret
  exact ⟨rfl, hb'⟩
theorem topped_any (h : Nat) (x : ByteArray) (w : World) (hh : h < 256) (hx : x.size ≤ 1000000) : Calls Tryz.prog 70 #[.int .i64 h, .string x] w fun e w' => e = .returned (.string (topB h x)) ∧ Below w.heap.size w w' := by
  have z1 : (oneB h).size ≤ 1000000 := by rw [oneB_size]; omega
  go_enter Tryz.func70, Tryz.ntmps70
  go_wp2_with fail
  refine (one_any h _ hh).mono ?_
  rintro e w1 ⟨rfl, hb1⟩
  go_wp2_with fail
  refine (tag2 _ (oneB h) x _ _ rfl (by decide) z1 hx).mono ?_
  rintro e w' ⟨rfl, hb'⟩
  go_wp2_with fail
  go_ret
  exact ⟨rfl, hb1.trans (hb'.mono hb1.size)⟩
theorem seeded_any (seed : ByteArray) (i : Nat) (w : World) (hi : i < 256) (hx : seed.size ≤ 1000000) : Calls Tryz.prog 30 #[.string seed, .int .i64 i] w fun e w' => e = .returned (.string (seedB seed i)) ∧ Below w.heap.size w w' := by
  have z1 : (oneB i).size ≤ 1000000 := by rw [oneB_size]; omega
  go_enter Tryz.func30, Tryz.ntmps30
  go_wp2_with fail
  refine (one_any i _ hi).mono ?_
  rintro e w1 ⟨rfl, hb1⟩
  go_wp2_with fail
  refine (tag2 _ seed (oneB i) _ _ rfl (by decide) hx z1).mono ?_
  rintro e w' ⟨rfl, hb'⟩
  go_wp2_with fail
  go_ret
  exact ⟨rfl, hb1.trans (hb'.mono hb1.size)⟩
theorem about_any (root msg : ByteArray) (i : Nat) (w : World) (hi : i < 256) (hx : root.size ≤ 1000000) (hm : msg.size ≤ 1000000) : Calls Tryz.prog 37 #[.string root, .int .i64 i, .string msg] w fun e w' => e = .returned (.string (aboutB root i msg)) ∧ Below w.heap.size w w' := by
  have z1 : (oneB i).size ≤ 1 := by rw [oneB_size]; omega
  have z2 : (root ++ oneB i).size ≤ 1000001 := by rw [ByteArray.size_append, oneB_size]; omega
  go_enter Tryz.func37, Tryz.ntmps37
  go_wp2_with fail
  refine (one_any i _ hi).mono ?_
  rintro e w1 ⟨rfl, hb1⟩
  go_wp2_with fail
  go_ret
  exact ⟨rfl, hb1⟩
/-- a text's list of 16 bytes each, in a row of strings -/
def SR (w : World) (v : Value) (l : List ByteArray) : Prop := w.ownsRow 0 9 1 v l.length (l.map Value.string)
theorem SR.form {w : World} {v : Value} {l : List ByteArray} (h : SR w v l) : ∃ A c, v = .slice A l.length c := own_form h
theorem SR.cell {w : World} {A : Option Addr} {n c : Nat} {l : List ByteArray} (h : SR w (.slice A n c) l) {i : Nat} (hi : i < l.length) : ∃ g, A = some ⟨g, 0, none⟩ ∧ g < w.heap.size ∧ (∃ cs fr, w.heap[g]? = some (Obj.cells cs 9 fr)) ∧ w.cell? ⟨g, i, none⟩ = some (.string l[i]) := by
  obtain ⟨g, cap, hv, _, hlt⟩ := World.ownsRow.form h (by omega)
  injection hv with h1 h2 h3
  subst h1
  obtain ⟨cs, fr, hk⟩ := Lib.ownsRow_kind h g rfl
  refine ⟨g, rfl, hlt, ⟨cs, fr, hk⟩, ?_⟩
  have := World.ownsRow.cells h (g := g) rfl i (.string l[i]) (by simp [hi])
  rwa [addr_add0] at this
/-- strings stay as they were, and all below B -/
structure KS (B : Nat) (w w' : World) : Prop where
  bel : Below B w w'
  size : w.heap.size ≤ w'.heap.size
  str : ∀ (g : Nat) (cs : Array Value) (fr : Nat × Nat), w.heap[g]? = some (Obj.cells cs 9 fr) → w'.heap[g]? = some (Obj.cells cs 9 fr)
theorem KS.refl (B : Nat) (w : World) : KS B w w := ⟨Below.refl _ _, Nat.le_refl _, fun _ _ _ h => h⟩
theorem KS.trans {B : Nat} {a b c : World} (h : KS B a b) (k : KS B b c) : KS B a c := ⟨h.bel.trans k.bel, Nat.le_trans h.size k.size, fun g cs fr hg => k.str g cs fr (h.str g cs fr hg)⟩
theorem KS.of_below {B : Nat} {w w' : World} (h : Below w.heap.size w w') (hB : B ≤ w.heap.size) : KS B w w' := ⟨h.mono hB, h.size, fun g _ _ hg => (h.block g (Array.getElem?_eq_some_iff.1 hg).1).trans hg⟩
theorem KS.of_ch {B : Nat} {S : List Nat} {w w' : World} (h : Ch S w w') (hB : B ≤ w.heap.size) (hS : ∀ g ∈ S, B ≤ g ∧ ∀ cs fr, w.heap[g]? ≠ some (Obj.cells cs 9 fr)) : KS B w w' :=
  ⟨h.below hB (fun g hg => (hS g hg).1), h.size, fun g cs fr hg => h.heap hg (fun hm => (hS g hm).2 cs fr hg)⟩
theorem KS.sr {B : Nat} {w w' : World} {v : Value} {l : List ByteArray} (h : KS B w w') (hs : SR w v l) : SR w' v l := by
  obtain ⟨h1, h2⟩ := hs
  refine ⟨h1, ?_⟩
  rcases h2 with h2 | ⟨g, cap, cur, hv, hb, hg, r⟩
  · exact .inl h2
  · exact .inr ⟨g, cap, cur, hv, hb, h.str g _ _ hg, r⟩
set_option maxRecDepth 100000 in
set_option maxHeartbeats 400000 in
theorem indexOdd_any (v : Value) (l : List ByteArray) (w : World) (h : SR w v l) (hl : ∀ x ∈ l, x.size = 16) (hn : l.length ≤ 1000) :
    Calls Tryz.prog 127 #[v, .func (.func 104) #[] #[]] w fun e w' => e = .returned (.int .i64 (-1)) ∧ w = w' := by
  obtain ⟨A, c, rfl⟩ := h.form
  have H := Lib.hid h
  have HL := Lib.hid hl
  clear h hl
  go_enter Tryz.func127, Tryz.ntmps127
  go_wp2_with fail
  go_loop [8] (fun i => ∃ k : Nat, k ≤ l.length ∧ i = .int .i64 k) (fun i => l.length - (intOf i).toNat)
  case atStart => exact ⟨0, by omega, rfl⟩
  case round =>
    obtain ⟨k, hk, rfl⟩ := hrel
    by_cases hkl : k < l.length
    · obtain ⟨g, rfl, _, _, hc⟩ := H.out.cell hkl
      have hx := HL.out _ (List.getElem_mem hkl)
      generalize l[k] = x at hc hx
      have HX := Lib.hid hx
      clear hx
      go_wp2_with fail
      refine (odd_no x _ HX.out).mono ?_
      rintro e w' ⟨rfl, rfl⟩
      go_wp2_with fail
      go_round
      case rel => exact ⟨k + 1, by omega, by go_num⟩
      case measure => simp [intOf]; omega
    · go_wp2_with fail
      go_ret
      exact ⟨rfl, rfl⟩
theorem hasOdd_any (v : Value) (l : List ByteArray) (w : World) (h : SR w v l) (hl : ∀ x ∈ l, x.size = 16) (hn : l.length ≤ 1000) :
    Calls Tryz.prog 103 #[v, .func (.func 104) #[] #[]] w fun e w' => e = .returned (.bool false) ∧ w = w' := by
  go_enter Tryz.func103, Tryz.ntmps103
  go_wp2_with fail
  refine (indexOdd_any v l _ h hl hn).mono ?_
  rintro e w' ⟨rfl, rfl⟩
  go_wp2_with fail
  go_ret
  exact ⟨rfl, rfl⟩
end Go.Proofs.YtdoebmikjgmnaaaGreat
namespace Go.Proofs.YtdoebmikjgmnaaaGreat
open Go.RowKit
theorem Tryz.infoRows : (Tryz.prog.info? 87).map (fun i => (i.zero, i.size, i.bytes)) = some (some (.slice none 0 0), 1, 24) := by kernel_rfl
theorem Blk.ne_own {w : World} {g base size n : Nat} {t e : TypeId} {cs : Array Value} {v : Value} {xs : List Value} (h : Blk w g t cs) (ho : w.ownsRow base e size v n xs) (hne : t ≠ e) : some g ≠ v.ownBlock := fun e' => by
  obtain ⟨c, fz, hk⟩ := Lib.ownsRow_kind ho g e'.symm
  unfold Blk at h
  rw [h] at hk
  injection hk with hk
  injection hk with _ hk
  exact hne hk
theorem KS.of_grown {B : Nat} {w w' : World} {row : Option Nat} (h : w.grownBy w' row) (hB : B ≤ w.heap.size) (hr : ∀ g, row = some g → B ≤ g ∧ ∀ cs fr, w.heap[g]? ≠ some (Obj.cells cs 9 fr)) : KS B w w' :=
  ⟨(Below.refl _ _).grown h hB (fun g e => (hr g e).1), h.size, fun g cs fr hg => (h.block g (Array.getElem?_eq_some_iff.1 hg).1 (fun e => (hr g e.symm).2 cs fr hg)).trans hg⟩
theorem KS.mono_base {B B' : Nat} {w w' : World} (h : KS B w w') (hB : B' ≤ B) : KS B' w w' := ⟨h.bel.mono hB, h.size, h.str⟩
theorem own_kinds {w : World} {base n size : Nat} {e : TypeId} {v : Value} {xs : List Value} (h : w.ownsRow base e size v n xs) (hne : e ≠ 9) : ∀ g, v.ownBlock = some g → base ≤ g ∧ ∀ cs fr, w.heap[g]? ≠ some (Obj.cells cs 9 fr) := fun g hg => by
  obtain ⟨c, fz, hk⟩ := Lib.ownsRow_kind h g hg
  refine ⟨(h.lt g hg).1, fun cs fr hh => ?_⟩
  rw [hk] at hh
  injection hh with hh
  injection hh with _ hh
  exact hne hh
/-- the rows from one on -/
def rowsR : Nat → List ByteArray → List (List ByteArray)
  | 0, l => [l]
  | h + 1, l => l :: rowsR h (above l)
theorem rowsR_length : ∀ (h : Nat) (l : List ByteArray), (rowsR h l).length = h + 1
  | 0, _ => rfl
  | h + 1, l => by rw [rowsR, List.length_cons, rowsR_length h]
def All2 {α β : Type} (R : α → β → Prop) : List α → List β → Prop
  | [], [] => True
  | a :: l, b :: m => R a b ∧ All2 R l m
  | _, _ => False
theorem All2.imp {α β : Type} {R R' : α → β → Prop} (h : ∀ a b, R a b → R' a b) : ∀ {l : List α} {m : List β}, All2 R l m → All2 R' l m
  | [], [], _ => trivial
  | _ :: _, _ :: _, ⟨h1, h2⟩ => ⟨h _ _ h1, All2.imp h h2⟩
def upF (bo bu : Nat) : Value := .func (.func 105) #[] #[.pointer (some ⟨bo, 0, none⟩), .pointer (some ⟨bu, 0, none⟩)]
def UpC (base bo bu h : Nat) : Prop := ∀ (row : List ByteArray) (v : Value) (vs : List Value) (o : Value) (w : World), row.length = 2 ^ h → h ≤ 4 → (∀ x ∈ row, x.size = 16) → SR w v row →
  Blk w bo 144 #[o] → w.ownsRow base 87 1 o vs.length vs → Blk w bu 189 #[upF bo bu] → base ≤ bo → base ≤ bu → base ≤ w.heap.size → vs.length + h ≤ 10 →
  Calls Tryz.prog 105 #[v, .pointer (some ⟨bo, 0, none⟩), .pointer (some ⟨bu, 0, none⟩)] w fun e w' => e = .returned (.tuple #[]) ∧ ∃ (o' : Value) (us : List Value), Blk w' bo 144 #[o'] ∧ w'.ownsRow base 87 1 o' (vs.length + (h + 1)) (vs ++ us) ∧ All2 (SR w') us (rowsR h row) ∧ Blk w' bu 189 #[upF bo bu] ∧ KS base w w'
theorem take_above (l : List ByteArray) (k : Nat) (hk : 2 * k + 1 < l.length) : ((above l).take (k + 1)).map Value.string = ((above l).take k).map Value.string ++ [.string (nodeB (l.getD (2 * k) ByteArray.empty) (l.getD (2 * k + 1) ByteArray.empty))] := by
  have hl : k < (above l).length := by rw [above_length]; omega
  have := above_get l k hk
  rw [List.getD_eq_getElem?_getD, List.getElem?_eq_getElem hl] at this
  rw [List.take_succ_eq_append_getElem hl, List.map_append, ← this]; rfl
set_option maxRecDepth 100000 in
set_option maxHeartbeats 1000000 in
theorem up_step (base bo bu h : Nat) (ih : 1 ≤ h → UpC base bo bu (h - 1)) : UpC base bo bu h := by
  intro row v vs o w hrow hh hall hsr hbo hown hbu hb1 hb2 hbw hvs
  obtain ⟨i0, hi, hz0, hz1, hz2⟩ := info_parts Tryz.infoRows
  have Hz := Lib.hid hz0
  have HR := Lib.hid hrow
  obtain ⟨Ao, co, rfl⟩ := own_form hown
  have co0 : w.cell? ⟨bo, 0, none⟩ = some (.slice Ao vs.length co) := hbo.cell 0
  have fo0 : w.frozen? ⟨bo, 0, none⟩ = false := hbo.frozen 0
  obtain ⟨Av, cv, rfl⟩ := hsr.form
  have hOV : (Value.slice Av row.length cv).oneCell' = true := rfl
  have hne1 := hbo.ne_own hown (by decide)
  have hne2 := hbu.ne_own hown (by decide)
  have hnb : bu ≠ bo := (hbo.ne_ hbu (by decide)).symm
  have hk := own_kinds hown (by decide)
  have HSR := Lib.hid hsr
  have HBO := Lib.hid hbo
  have HBU := Lib.hid hbu
  have HOWN := Lib.hid hown
  have HALL := Lib.hid hall
  have hlo := hbo.lt
  have hlu := hbu.lt
  have HK := Lib.hid hk
  clear hz0 hrow hsr hbo hbu hown hall hk
  go_enter Tryz.func105, Tryz.ntmps105
  go_wp2_with (first | (at_builtin; go_must (refine wpList_append_own _ rfl (.tmp 6) (.tmp 8) _ rfl base 87 i0 _ 1 24 Tryz.underlying144 hi Hz.out hz1 hz2 rfl (by decide) _ vs.length _ rfl (HOWN.out.alloc _) ⟨w.heap.size, 0, none⟩ 1 1 _ rfl rfl (news_alloc _ _ _ _ _ rfl rfl) (by intro u hu; simp at hu; subst hu; rfl) (by simp only [maxLen]; omega) (by omega) (by simp; omega) ?_); intro v' w1 hown1 hg1 _; have hbo1 := Lib.hid ((HBO.out.alloc _).grown hg1 hne1); have hbu1 := Lib.hid ((HBU.out.alloc _).grown hg1 hne2); obtain ⟨A', c', rfl⟩ := own_form hown1; have hc1 : w1.cell? ⟨bo, 0, none⟩ = some (.slice Ao vs.length co) := hbo1.out.cell 0; have hf1 : w1.frozen? ⟨bo, 0, none⟩ = false := hbo1.out.frozen 0; have HG1 := Lib.hid hg1; have HO1 := Lib.hid hown1; clear hg1 hown1))
  have HKS2 : Hid (KS base w (w1.setCell ⟨bo, 0, none⟩ (.slice A' (vs.length + 1) c'))) := ((KS.of_below ((Below.refl _ _).alloc (Nat.le_refl _) _) hbw).trans (KS.of_grown HG1.out (by simp; omega) (fun g e => by
      have := HK.out g e
      refine ⟨this.1, fun cs fr hh => ?_⟩
      have hlt := (HOWN.out.lt g e).2
      rw [Below.heap_alloc _ _ _ hlt] at hh
      exact this.2 cs fr hh))).trans (KS.of_ch (S := [bo]) (Ch.set_ (by simp) _ _ _) (by have := HG1.out.size; simp at this; omega) (fun g hg => by
      simp at hg; subst hg
      refine ⟨hb1, fun cs fr hh => ?_⟩
      have := hbo1.out
      unfold Blk at this
      rw [this] at hh
      injection hh with hh
      injection hh with _ hh
      exact absurd hh (by decide)))
  have HBO2 : Hid (Blk (w1.setCell ⟨bo, 0, none⟩ (.slice A' (vs.length + 1) c')) bo 144 #[.slice A' (vs.length + 1) c']) := hbo1.out.set_ 0 _
  have HBU2 : Hid (Blk (w1.setCell ⟨bo, 0, none⟩ (.slice A' (vs.length + 1) c')) bu 189 #[upF bo bu]) := hbu1.out.far hnb _
  have HO2 : Hid ((w1.setCell ⟨bo, 0, none⟩ (.slice A' (vs.length + 1) c')).ownsRow base 87 1 (.slice A' (vs.length + 1) c') (vs.length + 1) (vs ++ [.slice Av row.length cv])) :=
    Ch.owns (S := [bo]) (Ch.set_ (by simp) _ _ _) HO1.out (fun b e hm => by simp at hm; subst hm; exact hbo1.out.ne_own HO1.out (by decide) e.symm)
  clear hc1 hf1 HG1 HO1 hbo1 hbu1 hne1 hne2 HK
  generalize w1.setCell ⟨bo, 0, none⟩ (.slice A' (vs.length + 1) c') = W2 at HKS2 HBO2 HBU2 HO2 ⊢
  have HSR2 := Lib.hid (HKS2.out.sr HSR.out)
  have hz2 := HKS2.out.size
  have hp : row.length ≤ 16 := by rw [HR.out]; exact Nat.pow_le_pow_right (by omega) hh
  obtain ⟨j0, hj, hy0, hy1, hy2⟩ := info_parts Tryz.infoStr
  have Hy := Lib.hid hy0
  clear hy0
  go_loopw [4, 5] (fun nx i wr => ∃ k : Nat, 2 * k ≤ row.length ∧ i = .int .i64 (2 * (k : Int) + 1) ∧ Hid (wr.ownsRow W2.heap.size 9 1 nx k (((above row).take k).map Value.string)) ∧ Hid (Below W2.heap.size W2 wr)) (fun _ i _ => row.length + 1 - (intOf i).toNat)
  case atStart => exact ⟨0, by omega, rfl, World.ownsRow_nil _ _ _ _, Below.refl _ _⟩
  case round =>
    obtain ⟨k, hk, rfl, HN, HB⟩ := hrel
    obtain ⟨An, cn, rfl⟩ := own_form HN.out
    have hzr := HB.out.size
    have HSRr := Lib.hid ((KS.of_below HB.out (Nat.le_refl _)).sr HSR2.out)
    by_cases hlt : 2 * k + 1 < row.length
    · obtain ⟨g, hA, hgl, ⟨cs, fr, hgk⟩, c0⟩ := HSRr.out.cell (i := 2 * k) (by omega)
      obtain ⟨g', hA', _, _, c1⟩ := HSRr.out.cell (i := 2 * k + 1) hlt
      rw [hA] at hA'
      injection hA' with hA'
      injection hA' with hA'
      subst hA'
      subst hA
      have hx := HALL.out _ (List.getElem_mem (show 2 * k < row.length by omega))
      have hy := HALL.out _ (List.getElem_mem hlt)
      have HT := Lib.hid (take_above row k hlt)
      have e0 : row.getD (2 * k) ByteArray.empty = row[2 * k] := by rw [List.getD_eq_getElem?_getD, List.getElem?_eq_getElem]; rfl
      have e1 : row.getD (2 * k + 1) ByteArray.empty = row[2 * k + 1] := by rw [List.getD_eq_getElem?_getD, List.getElem?_eq_getElem hlt]; rfl
      rw [e0, e1] at HT
      generalize row[2 * k] = x at c0 hx HT
      generalize row[2 * k + 1] = y at c1 hy HT
      have hxz : x.size ≤ 1000000 := by omega
      have hyz : y.size ≤ 1000000 := by omega
      clear e0 e1 hx hy
      have q1 : IntKind.i64.wrap (2 * (k : Int) + 1 - 1) = 2 * (k : Int) := by rw [show 2 * (k : Int) + 1 - 1 = 2 * (k : Int) by omega]; exact IntWalk.i64_in _ (by omega)
      have qa : IntKind.i64.wrap (2 * (k : Int)) = 2 * (k : Int) := IntWalk.i64_in _ (by omega)
      have qb : 2 * k < row.length := by omega
      have q2 : (0 : Int) ≤ 2 * (k : Int) := by omega
      have q3 : (0 : Int) ≤ 2 * (k : Int) + 1 := by omega
      have q4 : (2 * (k : Int)).toNat = 2 * k := by omega
      have q5 : (2 * (k : Int) + 1).toNat = 2 * k + 1 := by omega
      have q6 : 2 * (k : Int) < row.length := by omega
      have q7 : 2 * (k : Int) + 1 < row.length := by omega
      have hg2 : g < W2.heap.size := by
        obtain ⟨g2, hA2, hl2, _, _⟩ := HSR2.out.cell (i := 2 * k) (by omega)
        injection hA2 with hA2
        injection hA2 with hA2
        omega
      have HNE : Hid (some g ≠ (Value.slice An k cn).ownBlock) := fun e => by have := (HN.out.lt g e.symm).1; omega
      go_wp2_with fail
      go_region_held3 (fun w' => w'.cell? ⟨g, 2 * k, none⟩ = some (.string x) ∧ w'.cell? ⟨g, 2 * k + 1, none⟩ = some (.string y))
        (first
          | go_keep
          | (go_split_ands
             refine ⟨?_, ?_⟩
             · (rw [hX.cell (by simp <;> omega)]; assumption)
             · (rw [hX.cell (by simp <;> omega)]; assumption)))
        ((first
          | (go_at_call 106; refine (node_any x y _ hxz hyz).mono ?_; rintro e w3 ⟨rfl, hX⟩; have HX3 : Hid (Below wr.heap.size wr w3) := ((Below.refl wr.heap.size wr).drew).trans hX; have HN3 : Hid (w3.ownsRow W2.heap.size 9 1 (.slice An k cn) k (((above row).take k).map Value.string)) := Ch.owns (Ch.of_below HX3.out []) HN.out (by simp); have hz3 := HX3.out.size)
          | (refine step_append_lies _ (by rfl) (.tmp 16) (.tmp 27) 87 (by rfl) W2.heap.size 9 j0 _ 1 16 Tryz.underlying87 hj Hy.out hy1 hy2 rfl (by omega) (.slice An k cn) k _ (by rfl) (HN3.out.alloc _) ⟨w3.heap.size, 0, none⟩ 1 1 [.string (nodeB x y)] (by rfl) (by rfl) (World.news_of_block (cs := #[.string (nodeB x y)]) (t := 9) (fr := (0, 0)) (heap_alloc_new w3 _)) (one_str _) (by omega) (by simp only [maxLen]; omega) (by omega) (by simp; omega) (w3.heap.size + 1) (by simp) ?_; intro gg cap w4 hown4 hgrow hat hlt4; have HG4 := Lib.hid hgrow; have hX : Below W2.heap.size (w3.alloc (.cells #[.string (nodeB x y)] 9)) w4 := (Below.refl _ _).grown hgrow (by simp; omega) (fun r e => (HN3.out.lt r e).1); have HO4 := Lib.hid hown4; clear hown4)))
      go_wp2_with fail
      go_roundw
      case rel =>
        refine ⟨k + 1, by omega, congrArg (Value.int .i64) (by omega), ?_, ((HB.out.trans (HX3.out.mono hzr)).alloc (by omega) _).grown HG4.out (by simp; omega) (fun r e => (HN3.out.lt r e).1)⟩
        show World.ownsRow _ _ _ _ _ _ _
        rw [HT.out]
        exact HO4.out
      case measure => simp [intOf]; omega
    · have HKr : Hid (KS base w wr) := HKS2.out.trans (KS.of_below HB.out (Nat.le_refl _) |>.mono_base (by omega))
      have HOr : Hid (wr.ownsRow base 87 1 (.slice A' (vs.length + 1) c') (vs.length + 1) (vs ++ [.slice Av row.length cv])) := Ch.owns (Ch.of_below HB.out []) HO2.out (by simp)
      have HBOr : Hid (Blk wr bo 144 #[.slice A' (vs.length + 1) c']) := HBO2.out.bel HB.out
      have HBUr : Hid (Blk wr bu 189 #[upF bo bu]) := HBU2.out.bel HB.out
      have hbr : base ≤ wr.heap.size := by omega
      rcases Nat.eq_zero_or_pos h with h0 | h0
      · subst h0
        have hr1 : row.length = 1 := HR.out
        obtain rfl : k = 0 := by omega
        have HE : Hid (rowsR 0 row = [row]) := rfl
        go_wp2_with fail
        go_end0
        refine ⟨rfl, .slice A' (vs.length + 1) c', [.slice Av row.length cv], HBOr.out, HOr.out, ?_, HBUr.out, HKr.out⟩
        exact ⟨HSRr.out, trivial⟩
      · obtain ⟨h', rfl⟩ : ∃ h', h = h' + 1 := ⟨h - 1, by omega⟩
        have hr2 : row.length = 2 * 2 ^ h' := by rw [HR.out, Nat.pow_succ]; omega
        have hpos : 0 < 2 ^ h' := Nat.pow_pos (by omega)
        have hkr : k = 2 ^ h' := by omega
        have hal : (above row).length = 2 ^ h' := by rw [above_length]; omega
        have HSN : Hid (SR wr (.slice An k cn) (above row)) := by
          have h0' : wr.ownsRow W2.heap.size 9 1 (.slice An k cn) k (((above row).take k).map Value.string) := HN.out
          have h1 := World.ownsRow.mono (base' := 0) h0' (by omega)
          have h2 : (above row).take k = above row := List.take_of_length_le (by omega)
          rw [h2] at h1
          have h3 : (above row).length = k := by omega
          show World.ownsRow _ _ _ _ _ _ _
          rw [h3]
          exact h1
        have HAL := Lib.hid hal
        have cu : wr.cell? ⟨bu, 0, none⟩ = some (.func (.func 105) #[] #[.pointer (some ⟨bo, 0, none⟩), .pointer (some ⟨bu, 0, none⟩)]) := HBUr.out.cell 0
        have hkp : 0 < k := by omega
        have HIH : Hid _ := Lib.hid (ih (by omega) (above row) (.slice An k cn) (vs ++ [.slice Av row.length cv]) (.slice A' (vs.length + 1) c') wr)
        clear hr2 hpos hkr hal
        go_wp2_with fail
        refine (HIH.out HAL.out (by omega) (fun x hx => above_all row x hx) HSN.out HBOr.out (by rw [List.length_append]; exact HOr.out) HBUr.out hb1 hb2 hbr (by rw [List.length_append]; simp; omega)).mono ?_
        rintro e w5 ⟨rfl, o', us, h1, h2, h3, h4, h5⟩
        have HFin : Hid (w5.ownsRow base 87 1 o' (vs.length + (h' + 1 + 1)) (vs ++ (.slice Av row.length cv :: us))) := by
          show World.ownsRow _ _ _ _ _ _ _
          rw [List.length_append, List.length_singleton, List.append_assoc, List.singleton_append] at h2
          rw [show vs.length + (h' + 1 + 1) = vs.length + 1 + (h' + 1) by omega]
          exact h2
        have HSF := Lib.hid (h5.sr HSRr.out)
        have H1 := Lib.hid h1
        have H3 := Lib.hid h3
        have H4 := Lib.hid h4
        have H5 := Lib.hid (HKr.out.trans h5)
        clear h1 h2 h3 h4 h5
        go_wp2_with fail
        go_end0
        exact ⟨rfl, o', .slice Av row.length cv :: us, H1.out, HFin.out, ⟨HSF.out, H3.out⟩, H4.out, H5.out⟩
theorem up_any (base bo bu : Nat) : ∀ h, UpC base bo bu h
  | 0 => up_step base bo bu 0 (fun h => absurd h (by omega))
  | h + 1 => up_step base bo bu (h + 1) (fun _ => up_any base bo bu h)
end Go.Proofs.YtdoebmikjgmnaaaGreat
