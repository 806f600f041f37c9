/- claim.Signed of a transaction of one input and one output. claim.Back of one entry. sdk: Sign, Back on a channel: of one input and one output. sdk.Back on a channel, a leaf being left. -/
import Derived.Outline
import Derived.OwnWalk
import Derived.Defers
import Derived.IntWalk
import Derived.Deep.RegionHeld3
import Derived.Laws.AppendOwnNone
import Derived.Test.YtmbceheafjadhaaGreatMgClmA
import Derived.Test.YtmbceheafjadhaaGreatMgMerk
import Derived.Test.YtmbceheafjadhaaGreatMgSdkB
set_option linter.unusedVariables false
set_option linter.unusedSimpArgs false
namespace Go.Proofs.YtmbceheafjadhaaGreat
open Go.RowKit Go.Maps
theorem ext_set {cur : Array Value} {tx : ByteArray} {out path : Nat} {sig sig' : ByteArray} (he : cur.extract 0 (0 + 4) = inC tx out path sig) (hs : 0 + 4 ≤ cur.size) : (cur.setIfInBounds 3 (.string sig')).extract 0 (0 + 4) = inC tx out path sig' := by
  apply Array.ext_getElem?
  intro j
  have h := congrArg (fun a : Array Value => a[j]?) he
  simp only [Array.getElem?_extract, Nat.zero_add] at h ⊢
  by_cases hj : j < 4
  · have hj' : j < min 4 cur.size := by omega
    have hj'' : j < min 4 (cur.setIfInBounds 3 (.string sig')).size := by simp; omega
    rw [if_pos (by simpa using hj')] at h
    rw [if_pos (by simpa using hj'')]
    by_cases h3 : j = 3
    · subst h3
      rw [Array.getElem?_setIfInBounds_self_of_lt (by omega)]; rfl
    · rw [Array.getElem?_setIfInBounds_ne (by omega), h]
      match j, hj, h3 with
      | 0, _, _ => rfl
      | 1, _, _ => rfl
      | 2, _, _ => rfl
      | 3, _, h => exact absurd rfl h
  · rw [if_neg (by simp; omega)]
    exact (Array.getElem?_eq_none (show (inC tx out path sig').size ≤ j from by show 4 ≤ j; omega)).symm
/-- a key that signs, by what a call changes -/
theorem KeyAt.bel' {w w' : World} {kb ctr h i : Nat} {seed : ByteArray} (k : KeyAt w kb ctr seed h i) (hb : Below w.heap.size w w') : KeyAt w' kb ctr seed h i := k.bel hb
set_option maxRecDepth 100000 in
set_option maxHeartbeats 1000000 in
theorem csigned_ok (gi ci go co kb ctr h i : Nat) (seed tx : ByteArray) (out path : Nat) (am : Nat) (key : ByteArray) (w : World) (hI : Ins1 w gi tx out path ByteArray.empty) (hO : Outs1 w go am key) (hk : KeyAt w kb ctr seed h i) (hh : h ≤ 4) (hi : i < 2 ^ h) (hs : seed.size ≤ 1000000)
    (h1 : tx.size = 16) (h2 : out ≤ 255) (h3 : 1 ≤ path) (h4 : path ≤ 3) (h6 : 0 < am) (h7 : key.size = 16) (h8 : am < 18446744073709551616) :
    Calls Tryz.prog 35 #[.agg (txC gi ci go co), .pointer (some ⟨kb, 0, none⟩)] w fun e w' => ∃ gi' ci' go' co', e = .returned (.tuple #[.agg (txC gi' ci' go' co'), .int .i64 0]) ∧ w.heap.size ≤ gi' ∧ w.heap.size ≤ go' ∧ Ins1 w' gi' tx out path (signB seed h i (coreB tx out path am key)) ∧ Outs1 w' go' am key ∧ KeyAt w' kb ctr seed h (i + 1) ∧ Ch [ctr] w w' := by
  have HR := fun W hI hO => Lib.hid (cright_one gi ci go co tx out path ByteArray.empty am key W hI hO h1 h2 h3 h4 (by simp) h6 h7)
  have HCR := fun W hI hO => Lib.hid (ccore_one gi ci go co tx out path ByteArray.empty am key W hI hO h1 h2 h3 h4 (by simp) h6 h7 h8)
  have hcz := coreB_size tx out path am key h1 h7
  have HSG := fun W hk => Lib.hid (ksign_ok kb ctr seed (coreB tx out path am key) h i W hh hi hs (by omega) hk)
  have HI := Lib.hid hI
  have HO := Lib.hid hO
  have HK := Lib.hid hk
  obtain ⟨vl, k1, k2, k3⟩ := id hk
  have hcl : ctr < w.heap.size := k2.lt
  have hne1 : gi ≠ ctr := by obtain ⟨_, q1, _⟩ := hI; exact q1.ne_ k2 (by decide)
  have hne2 : go ≠ ctr := by obtain ⟨_, q1, _⟩ := hO; exact q1.ne_ k2 (by decide)
  clear hI hO hk hcz hi hh hs k1 k2 k3
  generalize signB seed h i (coreB tx out path am key) = sig at *
  generalize coreB tx out path am key = cr at *
  unfold txC
  go_enter Tryz.func35, Tryz.ntmps35
  go_wp2_with (first
    | (refine wpList_load_blk rfl 70 (.tmp 2) rfl w.heap.size 0 6 ((Blk.new _ _ _).alloc _) (txC gi ci go co) (by rfl) (by rfl) Tryz.underlying70 infoTx (Nat.le_refl 6) ?_))
  have HB0 : Hid (Below w.heap.size w ((w.alloc (.cells (txC gi ci go co) 70)).alloc (.cells zTx 70))) := ((Below.refl _ _).alloc (Nat.le_refl _) _).alloc (by simp) _
  have HT0 : Hid (Blk ((w.alloc (.cells (txC gi ci go co) 70)).alloc (.cells zTx 70)) w.heap.size 70 (txC gi ci go co)) := (Blk.new _ _ _).alloc _
  have HZ0 : Hid (Blk ((w.alloc (.cells (txC gi ci go co) 70)).alloc (.cells zTx 70)) (w.heap.size + 1) 70 zTx) := Blk.newAt (by simp)
  refine (HR _ (HI.out.bel HB0.out) (HO.out.bel HB0.out)).out.mono ?_
  rintro e w1 ⟨rfl, hb1⟩
  have HB1 : Hid (Below w.heap.size w w1) := HB0.out.trans (hb1.mono HB0.out.size)
  have HT1 := Lib.hid (HT0.out.bel hb1)
  have HZ1 := Lib.hid (HZ0.out.bel hb1)
  clear hb1 HB0 HT0 HZ0
  go_wp2_with (first
    | (refine wpList_load_blk rfl 70 (.tmp 2) rfl w.heap.size 0 6 HT1.out (txC gi ci go co) (by rfl) (by rfl) Tryz.underlying70 infoTx (Nat.le_refl 6) ?_))
  refine (HCR _ (HI.out.bel HB1.out) (HO.out.bel HB1.out)).out.mono ?_
  rintro e w2 ⟨rfl, hb2⟩
  have HB2 : Hid (Below w.heap.size w w2) := HB1.out.trans (hb2.mono HB1.out.size)
  have HT2 := Lib.hid (HT1.out.bel hb2)
  have HZ2 := Lib.hid (HZ1.out.bel hb2)
  clear hb2
  go_wp2_with fail
  refine (HSG _ (HK.out.bel HB2.out)).out.mono ?_
  rintro e w3 ⟨rfl, hk3, hc3⟩
  have HK3 := Lib.hid hk3
  have HT3 : Hid (Blk w3 w.heap.size 70 (txC gi ci go co)) := Blk.ch HT2.out hc3 (by simp; omega)
  have HZ3 : Hid (Blk w3 (w.heap.size + 1) 70 zTx) := Blk.ch HZ2.out hc3 (by simp; omega)
  have HI3 : Hid (Ins1 w3 gi tx out path ByteArray.empty) := by
    obtain ⟨cu, i1, i2⟩ := HI.out.bel HB2.out
    exact ⟨cu, Blk.ch i1 hc3 (by simpa using hne1), i2⟩
  have HO3 : Hid (Outs1 w3 go am key) := by
    obtain ⟨cu, i1, i2⟩ := HO.out.bel HB2.out
    exact ⟨cu, Blk.ch i1 hc3 (by simpa using hne2), i2⟩
  have hsz2 := HB2.out.size
  have hsz3 := hc3.size
  have HC3 : Hid (Ch [ctr] w w3) := (Ch.of_below HB2.out _).trans hc3
  clear hk3 hc3
  go_wp2_with fail
  have p0 : w3.cell? ⟨w.heap.size, 0, none⟩ = some (.slice (some ⟨gi, 0, none⟩) 1 ci) := HT3.out.cell 0
  have p1 : w3.cell? ⟨w.heap.size, 1, none⟩ = some (.slice (some ⟨go, 0, none⟩) 1 co) := HT3.out.cell 1
  have hlt3 : w.heap.size + 1 < w3.heap.size := HZ3.out.lt
  refine wp_region_any (by kernel_rfl) ?_
  try (change wpAny _ _ _ _ _ _ _ (World.drew _))
  refine wpAny_take (i := 0) (v := ?_) rfl (by kernel_rfl) (by kernel_rfl) (by kernel_rfl) (fun _ _ _ h => h) (Or.inl ⟨by rfl, ?_⟩) ?_
  rotate_left
  · (intro w; go_simp; try with_reducible rfl)
  refine wpAny_take (i := 3) (v := ?_) rfl (by kernel_rfl) (by kernel_rfl) (by kernel_rfl) (fun _ _ _ h => h) (Or.inl ⟨by rfl, ?_⟩) ?_
  rotate_left
  · (intro w; go_simp; try with_reducible rfl)
  refine wpAny_ready (rs := [1, 4]) (by kernel_rfl) (by simp) (AllReady.cons rfl (fun K hK => ?_) (AllReady.cons rfl (fun K hK => ?_) AllReady.nil))
  · go_simp
    refine hK _ _ ?_
    clear hK K
    refine wpAny_ready (rs := [2, 4]) (by kernel_rfl) (by simp) (AllReady.cons rfl (fun K hK => ?_) (AllReady.cons rfl (fun K hK => ?_) AllReady.nil))
    · go_simp
      refine (clone_in gi ci tx out path ByteArray.empty (World.drew w3) (HI3.out.bel ((Below.refl _ _).drew))).mono ?_
      rintro e w4 ⟨gi2, ci2, rfl, hg2, hi2, hb4⟩
      have hb4' : Below w3.heap.size w3 w4 := ((Below.refl _ _).drew).trans hb4
      have HI4 := Lib.hid hi2
      have HO4 := Lib.hid (HO3.out.bel hb4')
      have HT4 := Lib.hid (HT3.out.bel hb4')
      have HZ4 := Lib.hid (HZ3.out.bel hb4')
      have HK4 := Lib.hid (HK3.out.bel hb4')
      have HC4 : Hid (Ch [ctr] w w4) := HC3.out.trans (Ch.of_below hb4' _)
      have hsz4 : w3.heap.size ≤ w4.heap.size := hb4'.size
      have hgl2 : w3.heap.size ≤ gi2 := hg2
      have q1 : w4.cell? ⟨w.heap.size, 1, none⟩ = some (.slice (some ⟨go, 0, none⟩) 1 co) := HT4.out.cell 1
      clear hb4 hb4' hi2 hg2
      go_simp
      refine hK _ _ ?_
      clear hK K
      refine wpAny_ready (rs := [4]) (by kernel_rfl) (by simp) (AllReady.cons rfl (fun K hK => ?_) AllReady.nil)
      go_simp
      refine hK _ _ ?_
      clear hK K
      refine wpAny_take (i := 6) (v := ?_) rfl (by kernel_rfl) (by kernel_rfl) (by kernel_rfl) (fun _ _ _ h => h) (Or.inl ⟨by rfl, ?_⟩) ?_
      rotate_left
      · (intro w; go_simp; try with_reducible rfl)
      refine wpAny_ready (rs := [5]) (by kernel_rfl) (by simp) (AllReady.cons rfl (fun K hK => ?_) AllReady.nil)
      go_simp
      refine (clone_out go co am key w4 HO4.out).mono ?_
      rintro e w5 ⟨go2, co2, rfl, hg5, ho2, hb5⟩
      have HI5 := Lib.hid (HI4.out.bel hb5)
      have HO5 := Lib.hid ho2
      have HT5 := Lib.hid (HT4.out.bel hb5)
      have HZ5 := Lib.hid (HZ4.out.bel hb5)
      have HK5 := Lib.hid (HK4.out.bel hb5)
      have HC5 : Hid (Ch [ctr] w w5) := HC4.out.trans (Ch.of_below hb5 _)
      have r0 : w5.cell? ⟨w.heap.size, 0, none⟩ = some (.slice (some ⟨gi, 0, none⟩) 1 ci) := HT5.out.cell 0
      have r1 : w5.cell? ⟨w.heap.size, 1, none⟩ = some (.slice (some ⟨go, 0, none⟩) 1 co) := HT5.out.cell 1
      have f0 : w5.frozen? ⟨w.heap.size, 0, none⟩ = false := HT5.out.frozen 0
      have f1 : w5.frozen? ⟨w.heap.size, 1, none⟩ = false := HT5.out.frozen 1
      have hsz5 := hb5.size
      have r5 : w5.cell? ⟨w.heap.size, 5, none⟩ = some (.slice none 0 0) := HT5.out.cell 5
      have f5 : w5.frozen? ⟨w.heap.size, 5, none⟩ = false := HT5.out.frozen 5
      clear hb5 ho2
      go_simp
      refine hK _ _ ?_
      clear hK K
      refine wpAny_ready (rs := [7]) (by kernel_rfl) (by simp) (AllReady.cons rfl (fun K hK => ?_) AllReady.nil)
      go_simp
      refine hK _ _ ?_
      clear hK K
      refine wpAny_take (i := 8) (v := ?_) rfl (by kernel_rfl) (by kernel_rfl) (by kernel_rfl) (fun _ _ _ h => h) (Or.inl ⟨by rfl, ?_⟩) ?_
      rotate_left
      · (intro w; go_simp; try with_reducible rfl)
      refine wpAny_ready (rs := [9]) (by kernel_rfl) (by simp) (AllReady.cons rfl (fun K hK => ?_) AllReady.nil)
      go_simp
      refine hK _ _ ?_
      clear hK K
      refine wpAny_done (by kernel_rfl) ?_ _
      go_wp2_with fail
      refine (clone_none _).mono ?_
      rintro e w6 ⟨rfl, rfl⟩
      go_wp2_with fail
      refine wp_gen fun W6 hW6 => ?_
      have HT6 : Hid (Blk W6 w.heap.size 70 (txC gi2 ci2 go2 co2)) := by rw [hW6]; exact ((HT5.out.set_ 0 (.slice (some ⟨gi2, 0, none⟩) 1 ci2)).set_ 1 (.slice (some ⟨go2, 0, none⟩) 1 co2)).set_ 5 (.slice none 0 0)
      have HZ6 : Hid (Blk W6 (w.heap.size + 1) 70 zTx) := by rw [hW6]; exact ((HZ5.out.far (by simp) _).far (by simp) _).far (by simp) _
      have hc56 : Ch [w.heap.size] w5 W6 := by rw [hW6]; exact ((Ch.set_ (b := w.heap.size) (List.mem_singleton.2 rfl) _ _ _).trans (Ch.set_ (b := w.heap.size) (List.mem_singleton.2 rfl) _ _ _)).trans (Ch.set_ (b := w.heap.size) (List.mem_singleton.2 rfl) _ _ _)
      obtain ⟨cu, i1, i2, i3⟩ := HI5.out
      have HI6 : Hid (Blk W6 gi2 74 cu) := Blk.ch i1 hc56 (by simp; omega)
      have HO6 : Hid (Outs1 W6 go2 am key) := by obtain ⟨cu, i1, i2⟩ := HO5.out; exact ⟨cu, Blk.ch i1 hc56 (by simp; have := hg5; omega), i2⟩
      have HK6 : Hid (KeyAt W6 kb ctr seed h (i + 1)) := HK5.out.ch hc56 (by obtain ⟨_, k1, _⟩ := HK5.out; have := k1.ne_ HT5.out (by decide); simpa using this) (by obtain ⟨_, _, k2, _⟩ := HK5.out; have := k2.ne_ HT5.out (by decide); simpa using this) (not_str HT5.out (by decide))
      have HC6 : Hid (Ch [ctr, w.heap.size] w W6) := (HC5.out.mono (by simp)).trans (hc56.mono (by simp))
      have t0 : W6.cell? ⟨w.heap.size, 0, none⟩ = some (.slice (some ⟨gi2, 0, none⟩) 1 ci2) := HT6.out.cell 0
      have u3 : (W6.cell? ⟨gi2, 3, none⟩).isSome = true := by rw [HI6.out.cell, Array.getElem?_eq_getElem (by omega)]; rfl
      obtain ⟨uv, hu3⟩ := Option.isSome_iff_exists.1 u3
      have v3 : W6.frozen? ⟨gi2, 3, none⟩ = false := HI6.out.frozen 3
      have hne9 : ¬ gi2 = w.heap.size := by omega
      have hne8 : ¬ w.heap.size = gi2 := by omega
      clear hW6 hc56 r0 r1 f0 f1 u3 i1 r5 f5
      refine wp_loop_rounds 2 ?_
      rw [rounds_succ]
      go_wp2_with fail
      rw [rounds_succ]
      have HI7 : Hid (Ins1 (W6.setCell ⟨gi2, 3, none⟩ (.string sig)) gi2 tx out path sig) := ⟨_, HI6.out.set_ 3 (.string sig), ext_set i2 i3, by simpa using i3⟩
      have HT7 : Hid (Blk (W6.setCell ⟨gi2, 3, none⟩ (.string sig)) w.heap.size 70 (txC gi2 ci2 go2 co2)) := HT6.out.far (by simpa using hne8) _
      have HZ7 : Hid (Blk (W6.setCell ⟨gi2, 3, none⟩ (.string sig)) (w.heap.size + 1) 70 zTx) := HZ6.out.far (by simp; omega) _
      have hgt : Ch [gi2] W6 (W6.setCell ⟨gi2, 3, none⟩ (.string sig)) := Ch.set_ (b := gi2) (List.mem_singleton.2 rfl) _ _ _
      have HO7 : Hid (Outs1 (W6.setCell ⟨gi2, 3, none⟩ (.string sig)) go2 am key) := by obtain ⟨cu', j1, j2⟩ := HO6.out; exact ⟨cu', Blk.ch j1 hgt (by have := j1.ne_ HI6.out (by decide); simpa using this), j2⟩
      have HK7 : Hid (KeyAt (W6.setCell ⟨gi2, 3, none⟩ (.string sig)) kb ctr seed h (i + 1)) := HK6.out.ch hgt (by obtain ⟨_, k1, _⟩ := HK6.out; have := k1.ne_ HI6.out (by decide); simpa using this) (by obtain ⟨_, _, k2, _⟩ := HK6.out; have := k2.ne_ HI6.out (by decide); simpa using this) (not_str HI6.out (by decide))
      have HC7 : Hid (Ch [ctr, w.heap.size, gi2] w (W6.setCell ⟨gi2, 3, none⟩ (.string sig))) := (HC6.out.mono (by simp <;> omega)).trans (hgt.mono (by simp))
      clear hgt
      go_wp2_with (first
        | (refine wpList_load_blk rfl 70 (.tmp 2) rfl w.heap.size 0 6 HT7.out (txC gi2 ci2 go2 co2) (by rfl) (by rfl) Tryz.underlying70 infoTx (Nat.le_refl 6) ?_)
        | (refine wpList_store_part rfl 70 (.tmp 4) (.tmp 51) rfl (w.heap.size + 1) 0 HZ7.out (txC gi2 ci2 go2 co2) (txC gi2 ci2 go2 co2) (by rfl) (by rfl) (Nat.le_refl 6) infoTx (txC_one _ _ _ _) ((over_full (txC gi2 ci2 go2 co2).toList zTx rfl).trans (Array.toArray_toList ..)) ?_; intro W8 hb8 hc8; have HZ8 := Lib.hid hb8; have HC8 := Lib.hid hc8; clear hb8 hc8))
      have HI8 : Hid (Ins1 W8 gi2 tx out path sig) := by obtain ⟨cu', j1, j2⟩ := HI7.out; exact ⟨cu', Blk.ch j1 HC8.out (by have := j1.ne_ HZ7.out (by decide); simpa using this), j2⟩
      have HO8 : Hid (Outs1 W8 go2 am key) := by obtain ⟨cu', j1, j2⟩ := HO7.out; exact ⟨cu', Blk.ch j1 HC8.out (by have := j1.ne_ HZ7.out (by decide); simpa using this), j2⟩
      have HK8 : Hid (KeyAt W8 kb ctr seed h (i + 1)) := HK7.out.ch HC8.out (by obtain ⟨_, k1, _⟩ := HK7.out; have := k1.ne_ HZ7.out (by decide); simpa using this) (by obtain ⟨_, _, k2, _⟩ := HK7.out; have := k2.ne_ HZ7.out (by decide); simpa using this) (not_str HZ7.out (by decide))
      have HC9 : Hid (Ch [ctr, w.heap.size, gi2, w.heap.size + 1] w W8) := (HC7.out.mono (by simp <;> omega)).trans (HC8.out.mono (by simp))
      exact bodyPost_ret (results_cell_row2 rfl _ HZ8.out rfl Tryz.underlying70 infoTx) rfl ⟨gi2, ci2, go2, co2, rfl, by omega, by have := hg5; omega, HI8.out, HO8.out, HK8.out, HC9.out.mono (by simp <;> omega)⟩
    · go_simp
      refine hK _ _ ?_
      clear hK K
      refine wpAny_ready (rs := [2]) (by kernel_rfl) (by simp) (AllReady.cons rfl (fun K hK => ?_) AllReady.nil)
      go_simp
      refine (clone_in gi ci tx out path ByteArray.empty (World.drew w3) (HI3.out.bel ((Below.refl _ _).drew))).mono ?_
      rintro e w4 ⟨gi2, ci2, rfl, hg2, hi2, hb4⟩
      have hb4' : Below w3.heap.size w3 w4 := ((Below.refl _ _).drew).trans hb4
      have HI4 := Lib.hid hi2
      have HO4 := Lib.hid (HO3.out.bel hb4')
      have HT4 := Lib.hid (HT3.out.bel hb4')
      have HZ4 := Lib.hid (HZ3.out.bel hb4')
      have HK4 := Lib.hid (HK3.out.bel hb4')
      have HC4 : Hid (Ch [ctr] w w4) := HC3.out.trans (Ch.of_below hb4' _)
      have hsz4 : w3.heap.size ≤ w4.heap.size := hb4'.size
      have hgl2 : w3.heap.size ≤ gi2 := hg2
      have q1 : w4.cell? ⟨w.heap.size, 1, none⟩ = some (.slice (some ⟨go, 0, none⟩) 1 co) := HT4.out.cell 1
      clear hb4 hb4' hi2 hg2
      go_simp
      refine hK _ _ ?_
      clear hK K
      refine wpAny_take (i := 6) (v := ?_) rfl (by kernel_rfl) (by kernel_rfl) (by kernel_rfl) (fun _ _ _ h => h) (Or.inl ⟨by rfl, ?_⟩) ?_
      rotate_left
      · (intro w; go_simp; try with_reducible rfl)
      refine wpAny_ready (rs := [5]) (by kernel_rfl) (by simp) (AllReady.cons rfl (fun K hK => ?_) AllReady.nil)
      go_simp
      refine (clone_out go co am key w4 HO4.out).mono ?_
      rintro e w5 ⟨go2, co2, rfl, hg5, ho2, hb5⟩
      have HI5 := Lib.hid (HI4.out.bel hb5)
      have HO5 := Lib.hid ho2
      have HT5 := Lib.hid (HT4.out.bel hb5)
      have HZ5 := Lib.hid (HZ4.out.bel hb5)
      have HK5 := Lib.hid (HK4.out.bel hb5)
      have HC5 : Hid (Ch [ctr] w w5) := HC4.out.trans (Ch.of_below hb5 _)
      have r0 : w5.cell? ⟨w.heap.size, 0, none⟩ = some (.slice (some ⟨gi, 0, none⟩) 1 ci) := HT5.out.cell 0
      have r1 : w5.cell? ⟨w.heap.size, 1, none⟩ = some (.slice (some ⟨go, 0, none⟩) 1 co) := HT5.out.cell 1
      have f0 : w5.frozen? ⟨w.heap.size, 0, none⟩ = false := HT5.out.frozen 0
      have f1 : w5.frozen? ⟨w.heap.size, 1, none⟩ = false := HT5.out.frozen 1
      have hsz5 := hb5.size
      have r5 : w5.cell? ⟨w.heap.size, 5, none⟩ = some (.slice none 0 0) := HT5.out.cell 5
      have f5 : w5.frozen? ⟨w.heap.size, 5, none⟩ = false := HT5.out.frozen 5
      clear hb5 ho2
      go_simp
      refine hK _ _ ?_
      clear hK K
      refine wpAny_ready (rs := [7]) (by kernel_rfl) (by simp) (AllReady.cons rfl (fun K hK => ?_) AllReady.nil)
      go_simp
      refine hK _ _ ?_
      clear hK K
      refine wpAny_take (i := 8) (v := ?_) rfl (by kernel_rfl) (by kernel_rfl) (by kernel_rfl) (fun _ _ _ h => h) (Or.inl ⟨by rfl, ?_⟩) ?_
      rotate_left
      · (intro w; go_simp; try with_reducible rfl)
      refine wpAny_ready (rs := [9]) (by kernel_rfl) (by simp) (AllReady.cons rfl (fun K hK => ?_) AllReady.nil)
      go_simp
      refine hK _ _ ?_
      clear hK K
      refine wpAny_done (by kernel_rfl) ?_ _
      go_wp2_with fail
      refine (clone_none _).mono ?_
      rintro e w6 ⟨rfl, rfl⟩
      go_wp2_with fail
      refine wp_gen fun W6 hW6 => ?_
      have HT6 : Hid (Blk W6 w.heap.size 70 (txC gi2 ci2 go2 co2)) := by rw [hW6]; exact ((HT5.out.set_ 0 (.slice (some ⟨gi2, 0, none⟩) 1 ci2)).set_ 1 (.slice (some ⟨go2, 0, none⟩) 1 co2)).set_ 5 (.slice none 0 0)
      have HZ6 : Hid (Blk W6 (w.heap.size + 1) 70 zTx) := by rw [hW6]; exact ((HZ5.out.far (by simp) _).far (by simp) _).far (by simp) _
      have hc56 : Ch [w.heap.size] w5 W6 := by rw [hW6]; exact ((Ch.set_ (b := w.heap.size) (List.mem_singleton.2 rfl) _ _ _).trans (Ch.set_ (b := w.heap.size) (List.mem_singleton.2 rfl) _ _ _)).trans (Ch.set_ (b := w.heap.size) (List.mem_singleton.2 rfl) _ _ _)
      obtain ⟨cu, i1, i2, i3⟩ := HI5.out
      have HI6 : Hid (Blk W6 gi2 74 cu) := Blk.ch i1 hc56 (by simp; omega)
      have HO6 : Hid (Outs1 W6 go2 am key) := by obtain ⟨cu, i1, i2⟩ := HO5.out; exact ⟨cu, Blk.ch i1 hc56 (by simp; have := hg5; omega), i2⟩
      have HK6 : Hid (KeyAt W6 kb ctr seed h (i + 1)) := HK5.out.ch hc56 (by obtain ⟨_, k1, _⟩ := HK5.out; have := k1.ne_ HT5.out (by decide); simpa using this) (by obtain ⟨_, _, k2, _⟩ := HK5.out; have := k2.ne_ HT5.out (by decide); simpa using this) (not_str HT5.out (by decide))
      have HC6 : Hid (Ch [ctr, w.heap.size] w W6) := (HC5.out.mono (by simp)).trans (hc56.mono (by simp))
      have t0 : W6.cell? ⟨w.heap.size, 0, none⟩ = some (.slice (some ⟨gi2, 0, none⟩) 1 ci2) := HT6.out.cell 0
      have u3 : (W6.cell? ⟨gi2, 3, none⟩).isSome = true := by rw [HI6.out.cell, Array.getElem?_eq_getElem (by omega)]; rfl
      obtain ⟨uv, hu3⟩ := Option.isSome_iff_exists.1 u3
      have v3 : W6.frozen? ⟨gi2, 3, none⟩ = false := HI6.out.frozen 3
      have hne9 : ¬ gi2 = w.heap.size := by omega
      have hne8 : ¬ w.heap.size = gi2 := by omega
      clear hW6 hc56 r0 r1 f0 f1 u3 i1 r5 f5
      refine wp_loop_rounds 2 ?_
      rw [rounds_succ]
      go_wp2_with fail
      rw [rounds_succ]
      have HI7 : Hid (Ins1 (W6.setCell ⟨gi2, 3, none⟩ (.string sig)) gi2 tx out path sig) := ⟨_, HI6.out.set_ 3 (.string sig), ext_set i2 i3, by simpa using i3⟩
      have HT7 : Hid (Blk (W6.setCell ⟨gi2, 3, none⟩ (.string sig)) w.heap.size 70 (txC gi2 ci2 go2 co2)) := HT6.out.far (by simpa using hne8) _
      have HZ7 : Hid (Blk (W6.setCell ⟨gi2, 3, none⟩ (.string sig)) (w.heap.size + 1) 70 zTx) := HZ6.out.far (by simp; omega) _
      have hgt : Ch [gi2] W6 (W6.setCell ⟨gi2, 3, none⟩ (.string sig)) := Ch.set_ (b := gi2) (List.mem_singleton.2 rfl) _ _ _
      have HO7 : Hid (Outs1 (W6.setCell ⟨gi2, 3, none⟩ (.string sig)) go2 am key) := by obtain ⟨cu', j1, j2⟩ := HO6.out; exact ⟨cu', Blk.ch j1 hgt (by have := j1.ne_ HI6.out (by decide); simpa using this), j2⟩
      have HK7 : Hid (KeyAt (W6.setCell ⟨gi2, 3, none⟩ (.string sig)) kb ctr seed h (i + 1)) := HK6.out.ch hgt (by obtain ⟨_, k1, _⟩ := HK6.out; have := k1.ne_ HI6.out (by decide); simpa using this) (by obtain ⟨_, _, k2, _⟩ := HK6.out; have := k2.ne_ HI6.out (by decide); simpa using this) (not_str HI6.out (by decide))
      have HC7 : Hid (Ch [ctr, w.heap.size, gi2] w (W6.setCell ⟨gi2, 3, none⟩ (.string sig))) := (HC6.out.mono (by simp <;> omega)).trans (hgt.mono (by simp))
      clear hgt
      go_wp2_with (first
        | (refine wpList_load_blk rfl 70 (.tmp 2) rfl w.heap.size 0 6 HT7.out (txC gi2 ci2 go2 co2) (by rfl) (by rfl) Tryz.underlying70 infoTx (Nat.le_refl 6) ?_)
        | (refine wpList_store_part rfl 70 (.tmp 4) (.tmp 51) rfl (w.heap.size + 1) 0 HZ7.out (txC gi2 ci2 go2 co2) (txC gi2 ci2 go2 co2) (by rfl) (by rfl) (Nat.le_refl 6) infoTx (txC_one _ _ _ _) ((over_full (txC gi2 ci2 go2 co2).toList zTx rfl).trans (Array.toArray_toList ..)) ?_; intro W8 hb8 hc8; have HZ8 := Lib.hid hb8; have HC8 := Lib.hid hc8; clear hb8 hc8))
      have HI8 : Hid (Ins1 W8 gi2 tx out path sig) := by obtain ⟨cu', j1, j2⟩ := HI7.out; exact ⟨cu', Blk.ch j1 HC8.out (by have := j1.ne_ HZ7.out (by decide); simpa using this), j2⟩
      have HO8 : Hid (Outs1 W8 go2 am key) := by obtain ⟨cu', j1, j2⟩ := HO7.out; exact ⟨cu', Blk.ch j1 HC8.out (by have := j1.ne_ HZ7.out (by decide); simpa using this), j2⟩
      have HK8 : Hid (KeyAt W8 kb ctr seed h (i + 1)) := HK7.out.ch HC8.out (by obtain ⟨_, k1, _⟩ := HK7.out; have := k1.ne_ HZ7.out (by decide); simpa using this) (by obtain ⟨_, _, k2, _⟩ := HK7.out; have := k2.ne_ HZ7.out (by decide); simpa using this) (not_str HZ7.out (by decide))
      have HC9 : Hid (Ch [ctr, w.heap.size, gi2, w.heap.size + 1] w W8) := (HC7.out.mono (by simp <;> omega)).trans (HC8.out.mono (by simp))
      exact bodyPost_ret (results_cell_row2 rfl _ HZ8.out rfl Tryz.underlying70 infoTx) rfl ⟨gi2, ci2, go2, co2, rfl, by omega, by have := hg5; omega, HI8.out, HO8.out, HK8.out, HC9.out.mono (by simp <;> omega)⟩
  · go_simp
    refine hK _ _ ?_
    clear hK K
    refine wpAny_ready (rs := [1]) (by kernel_rfl) (by simp) (AllReady.cons rfl (fun K hK => ?_) AllReady.nil)
    go_simp
    refine hK _ _ ?_
    clear hK K
    refine wpAny_ready (rs := [2]) (by kernel_rfl) (by simp) (AllReady.cons rfl (fun K hK => ?_) AllReady.nil)
    go_simp
    refine (clone_in gi ci tx out path ByteArray.empty (World.drew w3) (HI3.out.bel ((Below.refl _ _).drew))).mono ?_
    rintro e w4 ⟨gi2, ci2, rfl, hg2, hi2, hb4⟩
    have hb4' : Below w3.heap.size w3 w4 := ((Below.refl _ _).drew).trans hb4
    have HI4 := Lib.hid hi2
    have HO4 := Lib.hid (HO3.out.bel hb4')
    have HT4 := Lib.hid (HT3.out.bel hb4')
    have HZ4 := Lib.hid (HZ3.out.bel hb4')
    have HK4 := Lib.hid (HK3.out.bel hb4')
    have HC4 : Hid (Ch [ctr] w w4) := HC3.out.trans (Ch.of_below hb4' _)
    have hsz4 : w3.heap.size ≤ w4.heap.size := hb4'.size
    have hgl2 : w3.heap.size ≤ gi2 := hg2
    have q1 : w4.cell? ⟨w.heap.size, 1, none⟩ = some (.slice (some ⟨go, 0, none⟩) 1 co) := HT4.out.cell 1
    clear hb4 hb4' hi2 hg2
    go_simp
    refine hK _ _ ?_
    clear hK K
    refine wpAny_take (i := 6) (v := ?_) rfl (by kernel_rfl) (by kernel_rfl) (by kernel_rfl) (fun _ _ _ h => h) (Or.inl ⟨by rfl, ?_⟩) ?_
    rotate_left
    · (intro w; go_simp; try with_reducible rfl)
    refine wpAny_ready (rs := [5]) (by kernel_rfl) (by simp) (AllReady.cons rfl (fun K hK => ?_) AllReady.nil)
    go_simp
    refine (clone_out go co am key w4 HO4.out).mono ?_
    rintro e w5 ⟨go2, co2, rfl, hg5, ho2, hb5⟩
    have HI5 := Lib.hid (HI4.out.bel hb5)
    have HO5 := Lib.hid ho2
    have HT5 := Lib.hid (HT4.out.bel hb5)
    have HZ5 := Lib.hid (HZ4.out.bel hb5)
    have HK5 := Lib.hid (HK4.out.bel hb5)
    have HC5 : Hid (Ch [ctr] w w5) := HC4.out.trans (Ch.of_below hb5 _)
    have r0 : w5.cell? ⟨w.heap.size, 0, none⟩ = some (.slice (some ⟨gi, 0, none⟩) 1 ci) := HT5.out.cell 0
    have r1 : w5.cell? ⟨w.heap.size, 1, none⟩ = some (.slice (some ⟨go, 0, none⟩) 1 co) := HT5.out.cell 1
    have f0 : w5.frozen? ⟨w.heap.size, 0, none⟩ = false := HT5.out.frozen 0
    have f1 : w5.frozen? ⟨w.heap.size, 1, none⟩ = false := HT5.out.frozen 1
    have hsz5 := hb5.size
    have r5 : w5.cell? ⟨w.heap.size, 5, none⟩ = some (.slice none 0 0) := HT5.out.cell 5
    have f5 : w5.frozen? ⟨w.heap.size, 5, none⟩ = false := HT5.out.frozen 5
    clear hb5 ho2
    go_simp
    refine hK _ _ ?_
    clear hK K
    refine wpAny_ready (rs := [7]) (by kernel_rfl) (by simp) (AllReady.cons rfl (fun K hK => ?_) AllReady.nil)
    go_simp
    refine hK _ _ ?_
    clear hK K
    refine wpAny_take (i := 8) (v := ?_) rfl (by kernel_rfl) (by kernel_rfl) (by kernel_rfl) (fun _ _ _ h => h) (Or.inl ⟨by rfl, ?_⟩) ?_
    rotate_left
    · (intro w; go_simp; try with_reducible rfl)
    refine wpAny_ready (rs := [9]) (by kernel_rfl) (by simp) (AllReady.cons rfl (fun K hK => ?_) AllReady.nil)
    go_simp
    refine hK _ _ ?_
    clear hK K
    refine wpAny_done (by kernel_rfl) ?_ _
    go_wp2_with fail
    refine (clone_none _).mono ?_
    rintro e w6 ⟨rfl, rfl⟩
    go_wp2_with fail
    refine wp_gen fun W6 hW6 => ?_
    have HT6 : Hid (Blk W6 w.heap.size 70 (txC gi2 ci2 go2 co2)) := by rw [hW6]; exact ((HT5.out.set_ 0 (.slice (some ⟨gi2, 0, none⟩) 1 ci2)).set_ 1 (.slice (some ⟨go2, 0, none⟩) 1 co2)).set_ 5 (.slice none 0 0)
    have HZ6 : Hid (Blk W6 (w.heap.size + 1) 70 zTx) := by rw [hW6]; exact ((HZ5.out.far (by simp) _).far (by simp) _).far (by simp) _
    have hc56 : Ch [w.heap.size] w5 W6 := by rw [hW6]; exact ((Ch.set_ (b := w.heap.size) (List.mem_singleton.2 rfl) _ _ _).trans (Ch.set_ (b := w.heap.size) (List.mem_singleton.2 rfl) _ _ _)).trans (Ch.set_ (b := w.heap.size) (List.mem_singleton.2 rfl) _ _ _)
    obtain ⟨cu, i1, i2, i3⟩ := HI5.out
    have HI6 : Hid (Blk W6 gi2 74 cu) := Blk.ch i1 hc56 (by simp; omega)
    have HO6 : Hid (Outs1 W6 go2 am key) := by obtain ⟨cu, i1, i2⟩ := HO5.out; exact ⟨cu, Blk.ch i1 hc56 (by simp; have := hg5; omega), i2⟩
    have HK6 : Hid (KeyAt W6 kb ctr seed h (i + 1)) := HK5.out.ch hc56 (by obtain ⟨_, k1, _⟩ := HK5.out; have := k1.ne_ HT5.out (by decide); simpa using this) (by obtain ⟨_, _, k2, _⟩ := HK5.out; have := k2.ne_ HT5.out (by decide); simpa using this) (not_str HT5.out (by decide))
    have HC6 : Hid (Ch [ctr, w.heap.size] w W6) := (HC5.out.mono (by simp)).trans (hc56.mono (by simp))
    have t0 : W6.cell? ⟨w.heap.size, 0, none⟩ = some (.slice (some ⟨gi2, 0, none⟩) 1 ci2) := HT6.out.cell 0
    have u3 : (W6.cell? ⟨gi2, 3, none⟩).isSome = true := by rw [HI6.out.cell, Array.getElem?_eq_getElem (by omega)]; rfl
    obtain ⟨uv, hu3⟩ := Option.isSome_iff_exists.1 u3
    have v3 : W6.frozen? ⟨gi2, 3, none⟩ = false := HI6.out.frozen 3
    have hne9 : ¬ gi2 = w.heap.size := by omega
    have hne8 : ¬ w.heap.size = gi2 := by omega
    clear hW6 hc56 r0 r1 f0 f1 u3 i1 r5 f5
    refine wp_loop_rounds 2 ?_
    rw [rounds_succ]
    go_wp2_with fail
    rw [rounds_succ]
    have HI7 : Hid (Ins1 (W6.setCell ⟨gi2, 3, none⟩ (.string sig)) gi2 tx out path sig) := ⟨_, HI6.out.set_ 3 (.string sig), ext_set i2 i3, by simpa using i3⟩
    have HT7 : Hid (Blk (W6.setCell ⟨gi2, 3, none⟩ (.string sig)) w.heap.size 70 (txC gi2 ci2 go2 co2)) := HT6.out.far (by simpa using hne8) _
    have HZ7 : Hid (Blk (W6.setCell ⟨gi2, 3, none⟩ (.string sig)) (w.heap.size + 1) 70 zTx) := HZ6.out.far (by simp; omega) _
    have hgt : Ch [gi2] W6 (W6.setCell ⟨gi2, 3, none⟩ (.string sig)) := Ch.set_ (b := gi2) (List.mem_singleton.2 rfl) _ _ _
    have HO7 : Hid (Outs1 (W6.setCell ⟨gi2, 3, none⟩ (.string sig)) go2 am key) := by obtain ⟨cu', j1, j2⟩ := HO6.out; exact ⟨cu', Blk.ch j1 hgt (by have := j1.ne_ HI6.out (by decide); simpa using this), j2⟩
    have HK7 : Hid (KeyAt (W6.setCell ⟨gi2, 3, none⟩ (.string sig)) kb ctr seed h (i + 1)) := HK6.out.ch hgt (by obtain ⟨_, k1, _⟩ := HK6.out; have := k1.ne_ HI6.out (by decide); simpa using this) (by obtain ⟨_, _, k2, _⟩ := HK6.out; have := k2.ne_ HI6.out (by decide); simpa using this) (not_str HI6.out (by decide))
    have HC7 : Hid (Ch [ctr, w.heap.size, gi2] w (W6.setCell ⟨gi2, 3, none⟩ (.string sig))) := (HC6.out.mono (by simp <;> omega)).trans (hgt.mono (by simp))
    clear hgt
    go_wp2_with (first
      | (refine wpList_load_blk rfl 70 (.tmp 2) rfl w.heap.size 0 6 HT7.out (txC gi2 ci2 go2 co2) (by rfl) (by rfl) Tryz.underlying70 infoTx (Nat.le_refl 6) ?_)
      | (refine wpList_store_part rfl 70 (.tmp 4) (.tmp 51) rfl (w.heap.size + 1) 0 HZ7.out (txC gi2 ci2 go2 co2) (txC gi2 ci2 go2 co2) (by rfl) (by rfl) (Nat.le_refl 6) infoTx (txC_one _ _ _ _) ((over_full (txC gi2 ci2 go2 co2).toList zTx rfl).trans (Array.toArray_toList ..)) ?_; intro W8 hb8 hc8; have HZ8 := Lib.hid hb8; have HC8 := Lib.hid hc8; clear hb8 hc8))
    have HI8 : Hid (Ins1 W8 gi2 tx out path sig) := by obtain ⟨cu', j1, j2⟩ := HI7.out; exact ⟨cu', Blk.ch j1 HC8.out (by have := j1.ne_ HZ7.out (by decide); simpa using this), j2⟩
    have HO8 : Hid (Outs1 W8 go2 am key) := by obtain ⟨cu', j1, j2⟩ := HO7.out; exact ⟨cu', Blk.ch j1 HC8.out (by have := j1.ne_ HZ7.out (by decide); simpa using this), j2⟩
    have HK8 : Hid (KeyAt W8 kb ctr seed h (i + 1)) := HK7.out.ch HC8.out (by obtain ⟨_, k1, _⟩ := HK7.out; have := k1.ne_ HZ7.out (by decide); simpa using this) (by obtain ⟨_, _, k2, _⟩ := HK7.out; have := k2.ne_ HZ7.out (by decide); simpa using this) (not_str HZ7.out (by decide))
    have HC9 : Hid (Ch [ctr, w.heap.size, gi2, w.heap.size + 1] w W8) := (HC7.out.mono (by simp <;> omega)).trans (HC8.out.mono (by simp))
    exact bodyPost_ret (results_cell_row2 rfl _ HZ8.out rfl Tryz.underlying70 infoTx) rfl ⟨gi2, ci2, go2, co2, rfl, by omega, by have := hg5; omega, HI8.out, HO8.out, HK8.out, HC9.out.mono (by simp <;> omega)⟩
end Go.Proofs.YtmbceheafjadhaaGreat
namespace Go.Proofs.YtmbceheafjadhaaGreat
open Go.RowKit Go.Maps
/-- results: a struct in a cell, and a number in a cell -/
theorem results_cells2 {fn : Func} {p q : Tmp} {ty ty2 : TypeId} (h : fn.results = #[.cell p ty, .cell q ty2]) (tmps : Array Value) {w : World} {g : Nat} {t : TypeId} {cs : Array Value} {fs : Array Field} (hb : Blk w g t cs)
    (hp : tmps.getD p undef = .pointer (some ⟨g, 0, none⟩)) (hu : Tryz.prog.underlying ty = some (.struct fs)) (hi : (Tryz.prog.info? ty).map (·.size) = some cs.size) {a2 : Addr} {v : Value}
    (hq : tmps.getD q undef = .pointer (some a2)) (hv : (loadVar ty2 a2).run Tryz.prog w = .ok v w) : (results fn tmps).run Tryz.prog w = .ok (.tuple #[.agg cs, v]) w := by
  have hp' : tmps[p]?.getD undef = .pointer (some ⟨g, 0, none⟩) := by simpa using hp
  have hq' : tmps[q]?.getD undef = .pointer (some a2) := by simpa using hq
  simp only [results, h]
  simp [Sem.run_bind, Result.andThen, hp', hq', asAddr, run_loadVar_row w g t ty cs (0, 0) _ hb hu rfl hi, hv]
set_option maxRecDepth 100000 in
set_option maxHeartbeats 1000000 in
theorem cback_one (lb lc : Nat) (tx : ByteArray) (out : Nat) (l : Lk) (key : ByteArray) (w : World) (hE : Ent1 w lb tx out l) (h1 : tx.size = 16) (h2 : out ≤ 255) (h3 : 10 < l.am) (h4 : l.am < 18446744073709551616) (h5 : key.size = 16) :
    Calls Tryz.prog 47 #[.slice (some ⟨lb, 0, none⟩) 1 lc, .string key] w fun e w' => ∃ gi ci go co, e = .returned (.tuple #[.agg (txC gi ci go co), .int .i64 0]) ∧ w.heap.size ≤ gi ∧ w.heap.size ≤ go ∧ Ins1 w' gi tx out 3 ByteArray.empty ∧ Outs1 w' go (l.am - 10) key ∧ Below w.heap.size w w' := by
  obtain ⟨i0, hi, hz0, hz1, hz2⟩ := info_parts Tryz.infoU64
  have Hhz := Lib.hid hz0
  clear hz0
  obtain ⟨cur, he, ee, se⟩ := hE
  have HE := Lib.hid he
  clear he
  go_enter_defers Tryz.func47, Tryz.ntmps47
  go_wp2_with fail
  have HB0 : Hid (∀ o o', Below w.heap.size w ((w.alloc o).alloc o')) := fun o o' => ((Below.refl _ _).alloc (Nat.le_refl _) _).alloc (by simp) _
  have HT0 : Hid (∀ o o', Blk (((w.alloc (.cells zTx 70)).alloc o).alloc o') w.heap.size 70 zTx) := fun o o' => ((Blk.new _ _ _).alloc o).alloc o'
  have HE0 : Hid (∀ o o', Blk (((w.alloc o).alloc (.cells #[.int .i64 0] 28)).alloc o') (w.heap.size + 1) 28 #[.int .i64 0]) := fun o o' => (Blk.newAt (by simp)).alloc o'
  refine wp_loop_rounds 2 ?_
  rw [rounds_succ]
  go_wp2_with (first
    | (refine wpList_load_blk rfl 59 (.tmp 14) rfl lb 0 11 ((HE.out.alloc _).alloc _) (entC tx out l) (by rfl) ee Tryz.underlying59 infoEnt se ?_)
    | (refine wpList_store_part rfl 59 (.tmp 8) (.tmp 15) rfl (w.heap.size + 2) 0 (cs := zEnt) (Blk.newAt (by simp)) (entC tx out l) (entC tx out l) (by rfl) (by rfl) (Nat.le_refl 11) infoEnt (entC_one _ _ _) ((over_full (entC tx out l).toList zEnt rfl).trans (Array.toArray_toList ..)) ?_; intro W1 hb1 hc1; have HX1 := Lib.hid hb1; have HC1 := Lib.hid hc1; have x3 : W1.cell? ⟨w.heap.size + 2, 3, none⟩ = some (.int .u64 (l.am : Nat)) := hb1.cell 3; have hzz := hc1.size; clear hb1 hc1)
    | (at_builtin; go_must (refine wpList_append_own _ rfl (.tmp 16) (.tmp 20) _ rfl w.heap.size 55 i0 _ 1 8 Tryz.underlying222 hi Hhz.out hz1 hz2 rfl (by decide) _ 0 [] rfl (own_nil _ _ _ _) ⟨W1.heap.size, 0, none⟩ 1 1 [.int .u64 (l.am : Nat)] rfl rfl (news_alloc _ _ _ _ _ rfl rfl) (one_int _) (by simp only [maxLen]; omega) (by omega) (by simp at hzz; simp; omega) ?_); intro v' w2 hown1 hg1 _))
  have HT1 : Hid (Blk W1 w.heap.size 70 zTx) := Blk.ch ((HT0.out _ _)) HC1.out (by simp)
  have HE1 : Hid (Blk W1 (w.heap.size + 1) 28 #[.int .i64 0]) := Blk.ch ((HE0.out _ _)) HC1.out (by simp)
  have HB1 : Hid (Below w.heap.size w W1) := ((HB0.out _ _).alloc (by simp; omega) _).trans (HC1.out.below (by simp; omega) (by simp))
  clear HC1 hzz
  have HO2 := Lib.hid hown1
  have HB2 : Hid (Below w.heap.size w w2) := (HB1.out.alloc HB1.out.size _).grown hg1 (by have := HB1.out.size; simp; omega) (fun j hj => by cases hj)
  have HT2 : Hid (Blk w2 w.heap.size 70 zTx) := (HT1.out.alloc _).ch (ch_none hg1) (by simp)
  have HE2 : Hid (Blk w2 (w.heap.size + 1) 28 #[.int .i64 0]) := (HE1.out.alloc _).ch (ch_none hg1) (by simp)
  obtain ⟨A, c, rfl⟩ := own_form hown1
  have HSM := Lib.hid (sum64_any A [(l.am : Int)] c w2 (by simp) (by simp; omega) (Sl.of_own (base := w.heap.size) (n := 1) (c := c) (e := 55) (fun _ => rfl) (by simpa [u64c] using hown1)))
  have t1 : totV [(l.am : Int)] = (l.am : Int) := by simp [totV, totI]; omega
  have t2 : totE [(l.am : Int)] = 0 := by simp [totE, totI]; omega
  rw [t1, t2] at HSM
  clear hown1 hg1 t1 t2 x3
  rw [rounds_succ]
  go_wp2_with fail
  refine HSM.out.mono ?_
  rintro e w3 ⟨rfl, rfl⟩
  have e0 : w3.cell? ⟨w.heap.size + 1, 0, none⟩ = some (.int .i64 0) := HE2.out.cell 0
  have f0 : w3.frozen? ⟨w.heap.size + 1, 0, none⟩ = false := HE2.out.frozen 0
  have d3 : decide ((l.am : Int) ≤ 10) = false := decide_eq_false (by omega)
  have HB3 : Hid (Below w.heap.size w (w3.setCell ⟨w.heap.size + 1, 0, none⟩ (.int .i64 0))) := HB2.out.setCell (by simp) _
  have HFR := Lib.hid (cfrom_one lb lc 3 tx out l (w3.setCell ⟨w.heap.size + 1, 0, none⟩ (.int .i64 0)) (Ent1.bel ⟨cur, HE.out, ee, se⟩ HB3.out))
  have HT3 : Hid (Blk (w3.setCell ⟨w.heap.size + 1, 0, none⟩ (.int .i64 0)) w.heap.size 70 zTx) := HT2.out.far (by simp) _
  have HE3 : Hid (Blk (w3.setCell ⟨w.heap.size + 1, 0, none⟩ (.int .i64 0)) (w.heap.size + 1) 28 #[.int .i64 0]) := HE2.out.set_ 0 _
  go_wp2_with fail
  refine HFR.out.mono ?_
  rintro e w4 ⟨gi, ci, rfl, gi1, hI4, hb4⟩
  have HI4 := Lib.hid hI4
  have HT4 := Lib.hid (HT3.out.bel hb4)
  have HE4 := Lib.hid (HE3.out.bel hb4)
  have HB4 : Hid (Below w.heap.size w w4) := HB3.out.trans (hb4.mono HB3.out.size)
  have q0 : w4.cell? ⟨w.heap.size, 0, none⟩ = some (.slice none 0 0) := HT4.out.cell 0
  have q1 : ∀ v o, ((w4.setCell ⟨w.heap.size, 0, none⟩ v).alloc o).cell? ⟨w.heap.size, 1, none⟩ = some (.slice none 0 0) := fun v o => ((HT4.out.set_ 0 v).alloc o).cell 1
  have r0 : w4.frozen? ⟨w.heap.size, 0, none⟩ = false := HT4.out.frozen 0
  have r1 : ∀ v o, ((w4.setCell ⟨w.heap.size, 0, none⟩ v).alloc o).frozen? ⟨w.heap.size, 1, none⟩ = false := fun v o => ((HT4.out.set_ 0 v).alloc o).frozen 1
  have gi2 : w.heap.size + 2 ≤ gi := by have := HE2.out.lt; simp at gi1; omega
  have hwr : IntKind.u64.wrap ((l.am : Int) - 10) = ((l.am - 10 : Nat) : Int) := by rw [IntWalk.u64_in _ (by omega)]; omega
  have hlt4 : w.heap.size + 1 < w4.heap.size := HE4.out.lt
  have hne4 : ¬ w.heap.size = w4.heap.size := by omega
  have hne5 : ¬ w.heap.size + 1 = w4.heap.size := by omega
  clear hb4 e0 f0 hI4
  have HT5 : Hid (Blk ((((w4.setCell ⟨w.heap.size, 0, none⟩ (.slice (some ⟨gi, 0, none⟩) 1 ci))).alloc (.cells (payC (l.am - 10) key) 57)).setCell ⟨w.heap.size, 1, none⟩ (.slice (some ⟨w4.heap.size, 0, none⟩) 1 1)) w.heap.size 70 (txC gi ci w4.heap.size 1)) := ((HT4.out.set_ 0 (.slice (some ⟨gi, 0, none⟩) 1 ci)).alloc _).set_ 1 (.slice (some ⟨w4.heap.size, 0, none⟩) 1 1)
  unfold payC at HT5
  go_wp2_with (first
    | (refine wpList_load_blk rfl 70 (.tmp 4) rfl w.heap.size 0 6 HT5.out (txC gi ci w4.heap.size 1) (by rfl) (by rfl) Tryz.underlying70 infoTx (Nat.le_refl 6) ?_)
    | (refine wpList_store_part rfl 70 (.tmp 4) (.tmp 46) rfl w.heap.size 0 HT5.out (txC gi ci w4.heap.size 1) (txC gi ci w4.heap.size 1) (by rfl) (by rfl) (Nat.le_refl 6) infoTx (txC_one _ _ _ _) ((over_full (txC gi ci w4.heap.size 1).toList (txC gi ci w4.heap.size 1) rfl).trans (Array.toArray_toList ..)) ?_; intro W6 hb6 hc6; have HT6 := Lib.hid hb6; have HC6 := Lib.hid hc6; have HE6 : Hid (Blk W6 (w.heap.size + 1) 28 #[.int .i64 0]) := Blk.ch (((HE4.out.far (by simp) _).alloc _).far (by simp) _) hc6 (by simp); have y0 : W6.cell? ⟨w.heap.size + 1, 0, none⟩ = some (.int .i64 0) := HE6.out.cell 0; have z0 : W6.frozen? ⟨w.heap.size + 1, 0, none⟩ = false := HE6.out.frozen 0; clear hb6 hc6))
  have HB6 : Hid (Below w.heap.size w W6) := (((HB4.out.setCell (by simp) _).alloc (by have := HB4.out.size; simp; omega) _).setCell (by simp) _).trans (HC6.out.below (by have := HB4.out.size; simp; omega) (by simp))
  have HO6 : Hid (Outs1 W6 w4.heap.size (l.am - 10) key) := ⟨payC (l.am - 10) key, Blk.ch ((Blk.newAt (by simp)).far (by simp; omega) _) HC6.out (by simp; omega), rfl, Nat.le_refl 9⟩
  have HI6 : Hid (Ins1 W6 gi tx out 3 ByteArray.empty) := by
    obtain ⟨cu, i1, i2, i3⟩ := HI4.out
    exact ⟨cu, Blk.ch (((i1.far (by simp; omega) _).alloc _).far (by simp; omega) _) HC6.out (by simp; omega), i2, i3⟩
  have HE7 : Hid (Blk (W6.setCell ⟨w.heap.size + 1, 0, none⟩ (.int .i64 0)) (w.heap.size + 1) 28 #[.int .i64 0]) := HE6.out.set_ 0 _
  have HT7 : Hid (Blk (W6.setCell ⟨w.heap.size + 1, 0, none⟩ (.int .i64 0)) w.heap.size 70 (txC gi ci w4.heap.size 1)) := HT6.out.far (by simp) _
  have HB7 : Hid (Below w.heap.size w (W6.setCell ⟨w.heap.size + 1, 0, none⟩ (.int .i64 0))) := HB6.out.setCell (by simp) _
  have HO7 : Hid (Outs1 (W6.setCell ⟨w.heap.size + 1, 0, none⟩ (.int .i64 0)) w4.heap.size (l.am - 10) key) := by
    obtain ⟨cu, i1, i2, i3⟩ := HO6.out
    exact ⟨cu, i1.far (by simp; omega) _, i2, i3⟩
  have HI7 : Hid (Ins1 (W6.setCell ⟨w.heap.size + 1, 0, none⟩ (.int .i64 0)) gi tx out 3 ByteArray.empty) := by
    obtain ⟨cu, i1, i2, i3⟩ := HI6.out
    exact ⟨cu, i1.far (by simp; omega) _, i2, i3⟩
  go_wp2_with fail
  refine leaves_cons (f := 124) (args := #[.pointer (some ⟨w.heap.size, 0, none⟩), .pointer (some ⟨w.heap.size + 1, 0, none⟩)]) (by simp) (by simp [go_sem]) ?_
  refine (clook_ok w.heap.size (w.heap.size + 1) gi ci w4.heap.size 1 tx out 3 ByteArray.empty (l.am - 10) key .returning _ HT7.out HE7.out HI7.out HO7.out h1 h2 (by omega) (by omega) (by decide) (by omega) h5).mono ?_
  rintro e u' w8 ⟨rfl, rfl, hb8⟩
  have HT8 := Lib.hid (HT7.out.bel hb8)
  have HE8 := Lib.hid (HE7.out.bel hb8)
  have HB8 : Hid (Below w.heap.size w w8) := HB7.out.trans (hb8.mono HB7.out.size)
  have v0 : w8.cell? ⟨w.heap.size + 1, 0, none⟩ = some (.int .i64 0) := HE8.out.cell 0
  have HI8 := Lib.hid (HI7.out.bel hb8)
  have HO8 := Lib.hid (HO7.out.bel hb8)
  clear hb8
  refine ⟨_, results_cells2 (ty2 := 28) rfl _ HT8.out rfl Tryz.underlying70 infoTx (a2 := ⟨w.heap.size + 1, 0, none⟩) (v := .int .i64 0) rfl (by simp [go_sem, v0]), gi, ci, w4.heap.size, 1, rfl, by omega, by omega, HI8.out, HO8.out, HB8.out⟩
end Go.Proofs.YtmbceheafjadhaaGreat
namespace Go.Proofs.YtmbceheafjadhaaGreat
open Go.RowKit Go.Maps
variable {w : World} {cb kb ctr pb mb h n i out am tk : Nat} {seed tx : ByteArray} {l : Lk} {D : DU}
theorem txC_over (a b c d : Nat) : over zTx 0 (txC a b c d).toList = txC a b c d := (over_full (txC a b c d).toList zTx rfl).trans (Array.toArray_toList ..)
theorem CIn.ne_ctr (k : CIn w cb kb ctr pb mb seed h n i tx out l am tk D) {g : Nat} {t : TypeId} {cs : Array Value} (hg : Blk w g t cs) (ht : t ≠ 192) : g ≠ ctr := by
  obtain ⟨_, _, k2, _⟩ := k.2.1
  exact hg.ne_ k2 ht
set_option maxRecDepth 100000 in
set_option maxHeartbeats 1000000 in
theorem ssign_one (gi ci go co : Nat) (tx' : ByteArray) (out' path : Nat) (am' : Nat) (key : ByteArray) (k : CIn w cb kb ctr pb mb seed h n i tx out l am tk D) (hI : Ins1 w gi tx' out' path ByteArray.empty) (hO : Outs1 w go am' key) (hh : h ≤ 4) (hi : i < 2 ^ h) (hs : seed.size ≤ 1000000)
    (h1 : tx'.size = 16) (h2 : out' ≤ 255) (h3 : 1 ≤ path) (h4 : path ≤ 3) (h6 : 0 < am') (h7 : key.size = 16) (h8 : am' < 18446744073709551616) :
    Calls Tryz.prog 156 #[.pointer (some ⟨cb, 0, none⟩), .agg (txC gi ci go co)] w fun e w' => ∃ gi' ci' go' co', e = .returned (.tuple #[.agg (txC gi' ci' go' co'), .int .i64 0]) ∧ w.heap.size ≤ gi' ∧ w.heap.size ≤ go' ∧ Ins1 w' gi' tx' out' path (signB seed h i (coreB tx' out' path am' key)) ∧ Outs1 w' go' am' key ∧ CIn w' cb kb ctr pb mb seed h n (i + 1) tx out l am tk D ∧ Ch [ctr] w w' := by
  have HSG := fun W hI hO hk => Lib.hid (csigned_ok gi ci go co kb ctr h i seed tx' out' path am' key W hI hO hk hh hi hs h1 h2 h3 h4 h6 h7 h8)
  have HK := Lib.hid k
  have HI := Lib.hid hI
  have HO := Lib.hid hO
  obtain ⟨_, _, hctr, _⟩ := id k.2.1
  have hcl : ctr < w.heap.size := hctr.lt
  clear k hI hO hctr hi hh hs
  generalize signB seed h i (coreB tx' out' path am' key) = sig at *
  unfold txC
  go_enter Tryz.func156, Tryz.ntmps156
  go_wp2_with fail
  refine wp_gen fun W1 hW1 => ?_
  have HT1 : Hid (Blk W1 w.heap.size 70 (txC gi ci go co)) := by rw [hW1]; exact (Blk.new w 70 (txC gi ci go co)).alloc _
  have HZ1 : Hid (Blk W1 (w.heap.size + 1) 70 zTx) := by rw [hW1]; exact Blk.newAt (by simp)
  have HB1 : Hid (Below w.heap.size w W1) := by rw [hW1]; exact ((Below.refl _ _).alloc (Nat.le_refl _) _).alloc (by simp) _
  have HK1 := Lib.hid (HK.out.bel HB1.out)
  clear hW1
  refine wp_region_held_drew (S := fun W => Hid (Blk W w.heap.size 70 (txC gi ci go co) ∧ Blk W cb 252 (clC kb pb mb tx out l am tk))) (by kernel_rfl) (Lib.hid ⟨HT1.out.drewN 1, HK1.out.1.drewN 1⟩) (fun hS => ?_)
  refine wpAnyH_take (i := 0) (v := .agg (txC gi ci go co)) rfl (by kernel_rfl) (by kernel_rfl) (by kernel_rfl) (fun _ _ _ h => h) (yields_blk (by rfl) 70 (.tmp 3) (by rfl) w.heap.size 0 6 (t := 70) (cs := txC gi ci go co) (fun W h => h.out.1) (txC gi ci go co) (by rfl) (by rfl) Tryz.underlying70 infoTx (Nat.le_refl 6)) hS ?_
  refine wpAnyH_take (i := 1) (v := ?_) rfl (by kernel_rfl) (by kernel_rfl) (by kernel_rfl) (fun _ _ _ h => h) (Or.inl ⟨by rfl, ?_⟩) hS ?_
  rotate_left
  · (intro w _; go_simp; try with_reducible rfl)
  refine wpAnyH_take (i := 2) (v := ?_) rfl (by kernel_rfl) (by kernel_rfl) (by kernel_rfl) (fun _ _ _ h => h) (Or.inl ⟨by rfl, ?_⟩) hS ?_
  rotate_left
  · (intro w _; go_simp; try with_reducible rfl)
  refine wpAnyH_take (i := 3) (v := ?_) rfl (by kernel_rfl) (by kernel_rfl) (by kernel_rfl) (fun _ _ _ h => h) (Or.inl ⟨by rfl, ?_⟩) hS ?_
  rotate_left
  · (intro w _; go_simp; try with_reducible rfl)
  refine wpAnyH_take (i := 4) (v := ?_) rfl (by kernel_rfl) (by kernel_rfl) (by kernel_rfl) (fun _ _ _ h => h) (Or.inl ⟨by rfl, ?_⟩) hS ?_
  rotate_left
  · (intro w hS'; have hcell := (show World.cell? _ ⟨_, 0, none⟩ = some (.pointer (some ⟨kb, 0, none⟩)) from Blk.cell hS'.out.2 0); go_simp; try with_reducible rfl)
  refine wpAnyH_ready (rs := [5]) (by kernel_rfl) (by simp) (AllReadyH.cons rfl (fun K hK => ?_) AllReadyH.nil)
  go_simp
  refine (HSG (World.drew W1) (HI.out.bel HB1.out.drew) (HO.out.bel HB1.out.drew) (HK.out.bel HB1.out.drew).2.1).out.mono ?_
  rintro e w2 ⟨gi2, ci2, go2, co2, rfl, g1, g2, hi2, ho2, hk2, hc2⟩
  have hc2' : Ch [ctr] W1 w2 := ((Ch.drewN [] W1 1).mono (by simp)).trans hc2
  have HK2 := Lib.hid (HK1.out.sign hc2' hk2)
  have HI2 := Lib.hid hi2
  have HO2 := Lib.hid ho2
  have HT2 : Hid (Blk w2 w.heap.size 70 (txC gi ci go co)) := HT1.out.ch hc2' (by simp; omega)
  have HZ2 : Hid (Blk w2 (w.heap.size + 1) 70 zTx) := HZ1.out.ch hc2' (by simp; omega)
  have HC2 : Hid (Ch [ctr] w w2) := (Ch.of_below HB1.out _).trans hc2'
  have hsz1 := HB1.out.size
  have gl1 : W1.heap.size ≤ gi2 := g1
  have gl2 : W1.heap.size ≤ go2 := g2
  clear hc2 hc2' hk2 hi2 ho2 g1 g2
  go_simp
  refine hK.out _ _ (Lib.hid ⟨HT2.out, HK2.out.1⟩) (fun hS2 => ?_)
  clear hK K hS
  refine wpAnyH_take (i := 6) (v := ?_) rfl (by kernel_rfl) (by kernel_rfl) (by kernel_rfl) (fun _ _ _ h => h) (Or.inl ⟨by rfl, ?_⟩) hS2 ?_
  rotate_left
  · (intro w _; go_simp; try with_reducible rfl)
  refine wpAnyH_take (i := 7) (v := ?_) rfl (by kernel_rfl) (by kernel_rfl) (by kernel_rfl) (fun _ _ _ h => h) (Or.inl ⟨by rfl, ?_⟩) hS2 ?_
  rotate_left
  · (intro w _; go_simp; try with_reducible rfl)
  refine wpAnyH_ready (rs := [8]) (by kernel_rfl) (by simp) (AllReadyH.cons rfl (fun K hK => ?_) AllReadyH.nil)
  refine step_store_part (by rfl) 70 (.tmp 4) (.tmp 12) (by rfl) (w.heap.size + 1) 0 HZ2.out (txC gi2 ci2 go2 co2) (txC gi2 ci2 go2 co2) (by rfl) (by rfl) (Nat.le_refl 6) infoTx (txC_one _ _ _ _) (txC_over _ _ _ _) ?_
  intro W3 hb3 hc3
  have HZ3 := Lib.hid hb3
  have HC3 := Lib.hid hc3
  clear hb3 hc3
  have HK3 := Lib.hid (HK2.out.chO HC3.out rfl HZ2.out (by decide) (by decide) (by decide) (by decide) (by decide))
  refine hK.out _ _ (Lib.hid ⟨Blk.ch HT2.out HC3.out (by simp), HK3.out.1⟩) (fun hS3 => ?_)
  clear hK K hS2
  refine wpAnyH_ready (rs := [9]) (by kernel_rfl) (by simp) (AllReadyH.cons rfl (fun K hK => ?_) AllReadyH.nil)
  go_simp
  refine hK.out _ _ hS3 (fun _ => ?_)
  clear hK K
  refine wpAnyH_done (by kernel_rfl) ?_ _
  go_wp2_with fail
  have HI3 : Hid (Ins1 W3 gi2 tx' out' path sig) := by obtain ⟨cu', j1, j2⟩ := HI2.out; exact ⟨cu', Blk.ch j1 HC3.out (by have := j1.ne_ HZ2.out (by decide); simpa using this), j2⟩
  have HO3 : Hid (Outs1 W3 go2 am' key) := by obtain ⟨cu', j1, j2⟩ := HO2.out; exact ⟨cu', Blk.ch j1 HC3.out (by have := j1.ne_ HZ2.out (by decide); simpa using this), j2⟩
  exact bodyPost_ret (results_cell_row2 rfl _ HZ3.out rfl Tryz.underlying70 infoTx) rfl ⟨gi2, ci2, go2, co2, rfl, by omega, by omega, HI3.out, HO3.out, HK3.out, ((HC2.out.mono (S' := [ctr, w.heap.size + 1]) (by simp <;> omega)).trans (HC3.out.mono (by simp))).mono (by simp <;> omega)⟩
end Go.Proofs.YtmbceheafjadhaaGreat
namespace Go.Proofs.YtmbceheafjadhaaGreat
open Go.RowKit Go.Maps
theorem wpAnyH_gen {P : Program} {md : Region.Mode} {ops : Array Oper} {Q : Exit → Act → World → Prop} {S : World → Prop} {fuel : Nat} {listed : Array Bool} {a : Act} {w : World} (h : ∀ W, W = w → wpAnyH P md ops Q S fuel listed a W) : wpAnyH P md ops Q S fuel listed a w := h w rfl
theorem bel_alloc {V V0 : World} {o : Obj} (h : V = V0.alloc o) : Below V0.heap.size V0 V := by rw [h]; exact (Below.refl _ _).alloc (Nat.le_refl _) _
theorem blk_alloc {V V0 : World} {cs : Array Value} {t : TypeId} {g : Nat} (h : V = V0.alloc (.cells cs t)) (hg : V0.heap.size = g) : Blk V g t cs := by rw [h, ← hg]; exact Blk.new _ _ _
variable {w : World} {cb kb ctr pb mb h n i out am tk : Nat} {seed tx : ByteArray} {l : Lk} {D : DU}
set_option maxRecDepth 100000 in
set_option maxHeartbeats 2000000 in
theorem sback_ok (k : CIn w cb kb ctr pb mb seed h n i tx out l am tk D) (hh : h ≤ 4) (hi : i < 2 ^ h) (hs : seed.size ≤ 1000000) (h1 : tx.size = 16) (h2 : out ≤ 255) (h3 : 10 < l.am) (h4 : l.am < 18446744073709551616) (h5 : (rootB seed h).size = 16) :
    Calls Tryz.prog 72 #[.pointer (some ⟨cb, 0, none⟩)] w fun e w' => ∃ gi ci go co, e = .returned (.tuple #[.agg (txC gi ci go co), .int .i64 0]) ∧ w.heap.size ≤ gi ∧ w.heap.size ≤ go ∧ Ins1 w' gi tx out 3 (signB seed h i (coreB tx out 3 (l.am - 10) (rootB seed h))) ∧ Outs1 w' go (l.am - 10) (rootB seed h) ∧ CIn w' cb kb ctr pb mb seed h n (i + 1) tx out l am tk D ∧ Ch [ctr] w w' := by
  have HSG := fun W gi ci go co k hI hO => Lib.hid (ssign_one (w := W) (cb := cb) (kb := kb) (ctr := ctr) (pb := pb) (mb := mb) (n := n) (am := am) (tk := tk) (l := l) (D := D) (h := h) (i := i) (seed := seed) (tx := tx) (out := out) gi ci go co tx out 3 (l.am - 10) (rootB seed h) k hI hO hh hi hs h1 h2 (by omega) (by omega) (by omega) h5 (by omega))
  have HBK := fun W lb hE => Lib.hid (cback_one lb 1 tx out l (rootB seed h) W hE h1 h2 h3 h4 h5)
  have HRT := fun W k => Lib.hid (sroot_any (w := W) (cb := cb) (h := h) (n := n) (i := i) (out := out) (am := am) (tk := tk) (seed := seed) (tx := tx) (l := l) (D := D) k)
  have HK := Lib.hid k
  obtain ⟨_, _, hctr, _⟩ := id k.2.1
  have hcl : ctr < w.heap.size := hctr.lt
  have hlt := k.1.lt
  have c22 : ∀ o, (w.alloc o).cell? ⟨cb, 22, none⟩ = some (.bool true) := fun o => (k.1.alloc o).cell 22
  clear k hctr hi hh hs
  generalize signB seed h i (coreB tx out 3 (l.am - 10) (rootB seed h)) = sig at *
  go_enter Tryz.func72, Tryz.ntmps72
  go_wp2_with fail
  refine wp_gen fun W1 hW1 => ?_
  have HZ : Hid (Blk W1 w.heap.size 70 zTx) := by rw [hW1]; exact Blk.newAt rfl
  have HB : Hid (Below w.heap.size w W1) := by rw [hW1]; exact (Below.refl _ _).alloc (Nat.le_refl _) _
  have HK := Lib.hid (HK.out.bel HB.out)
  obtain ⟨ie, hie⟩ : ∃ i, Tryz.prog.info? 59 = some i := by
    cases hq : Tryz.prog.info? 59 with
    | none => have := infoEnt; rw [hq] at this; cases this
    | some i => exact ⟨i, rfl⟩
  clear hW1 c22
  refine wp_region_held_drew (S := fun W => Hid (Blk W cb 252 (clC kb pb mb tx out l am tk))) (by kernel_rfl) (Lib.hid (HK.out.1.drewN 1)) (fun hS => ?_)
  refine wpAnyH_take (i := 0) (v := ?_) rfl (by kernel_rfl) (by kernel_rfl) (by kernel_rfl) (fun _ _ _ h => h) (Or.inl ⟨by rfl, ?_⟩) hS ?_
  rotate_left
  · (intro w _; go_simp; try with_reducible rfl)
  refine wpAnyH_take (i := 1) (v := ?_) rfl (by kernel_rfl) (by kernel_rfl) (by kernel_rfl) (fun _ _ _ h => h) (Or.inl ⟨by rfl, ?_⟩) hS ?_
  rotate_left
  · (intro w _; go_simp; try with_reducible rfl)
  refine wpAnyH_take (i := 2) (v := ?_) rfl (by kernel_rfl) (by kernel_rfl) (by kernel_rfl) (fun _ _ _ h => h) (Or.inl ⟨by rfl, ?_⟩) hS ?_
  rotate_left
  · (intro w _; go_simp; try with_reducible rfl)
  refine wpAnyH_take (i := 3) (v := ?_) rfl (by kernel_rfl) (by kernel_rfl) (by kernel_rfl) (fun _ _ _ h => h) (Or.inl ⟨by rfl, ?_⟩) hS ?_
  rotate_left
  · (intro w _; go_simp; try with_reducible rfl)
  refine wpAnyH_take (i := 4) (v := .agg #[.string tx, .int .i64 (out : Nat), .int .i64 2, .int .u64 (l.am : Nat), .string l.key, .string l.gate, .int .i64 (l.ex : Nat), .string l.anchor, .int .u64 (l.unit : Nat), .int .i64 (l.tok : Nat), .string ByteArray.empty]) rfl (by kernel_rfl) (by kernel_rfl) (by kernel_rfl) (fun _ _ _ h => h) (yields_blk (by rfl) 59 (.tmp 16) (by rfl) cb 2 11 (t := 252) (cs := clC kb pb mb tx out l am tk) (fun W h => h.out) #[.string tx, .int .i64 (out : Nat), .int .i64 2, .int .u64 (l.am : Nat), .string l.key, .string l.gate, .int .i64 (l.ex : Nat), .string l.anchor, .int .u64 (l.unit : Nat), .int .i64 (l.tok : Nat), .string ByteArray.empty] (by rfl) (by rfl) Tryz.underlying59 infoEnt (by show 13 ≤ 26; omega)) hS ?_
  refine wpAnyH_take (i := 6) (v := ?_) rfl (by kernel_rfl) (by kernel_rfl) (by kernel_rfl) (fun _ _ _ h => h) (Or.inl ⟨by rfl, ?_⟩) hS ?_
  rotate_left
  · (intro w _; go_simp; try with_reducible rfl)
  refine wpAnyH_take (i := 7) (v := ?_) rfl (by kernel_rfl) (by kernel_rfl) (by kernel_rfl) (fun _ _ _ h => h) (Or.inl ⟨by rfl, ?_⟩) hS ?_
  rotate_left
  · (intro w _; go_simp; try with_reducible rfl)
  refine wpAnyH_take (i := 8) (v := ?_) rfl (by kernel_rfl) (by kernel_rfl) (by kernel_rfl) (fun _ _ _ h => h) (Or.inl ⟨by rfl, ?_⟩) hS ?_
  rotate_left
  · (intro w _; go_simp; try with_reducible rfl)
  refine wpAnyH_take (i := 9) (v := ?_) rfl (by kernel_rfl) (by kernel_rfl) (by kernel_rfl) (fun _ _ _ h => h) (Or.inl ⟨by rfl, ?_⟩) hS ?_
  rotate_left
  · (intro w _; go_simp; try with_reducible rfl)
  refine wpAnyH_take (i := 10) (v := ?_) rfl (by kernel_rfl) (by kernel_rfl) (by kernel_rfl) (fun _ _ _ h => h) (Or.inl ⟨by rfl, ?_⟩) hS ?_
  rotate_left
  · (intro w hS'; have hcell := (show World.cell? _ ⟨_, 13, none⟩ = some (.slice none 0 0) from Blk.cell hS'.out 13); go_simp; try with_reducible rfl)
  refine wpAnyH_take (i := 12) (v := ?_) rfl (by kernel_rfl) (by kernel_rfl) (by kernel_rfl) (fun _ _ _ h => h) (Or.inl ⟨by rfl, ?_⟩) hS ?_
  rotate_left
  · (intro w _; go_simp; try with_reducible rfl)
  refine wpAnyH_gen fun V hV => ?_
  have hb : Below W1.heap.size W1 V := by rw [hV]; exact (Below.refl _ _).drew
  have HZ := Lib.hid (HZ.out.bel hb)
  have HK := Lib.hid (HK.out.bel hb)
  have HB := Lib.hid (HB.out.trans (hb.mono HB.out.size))
  try have HT := Lib.hid (HT.out.bel hb)
  try have HE := Lib.hid (HE.out.bel hb)
  try have HI := Lib.hid (HI.out.bel hb)
  try have HO := Lib.hid (HO.out.bel hb)
  clear hV hb
  refine wpAnyH_ready (rs := [5, 18]) (by kernel_rfl) (by simp) (AllReadyH.cons rfl (fun K hK => ?_) (AllReadyH.cons rfl (fun K hK => ?_) AllReadyH.nil))
  · go_simp
    generalize hlb : V.heap.size = lb
    refine hK.out _ _ (Lib.hid (HK.out.1.alloc _)) (fun _ => ?_)
    clear hK K
    refine wpAnyH_gen fun V hV => ?_
    have hb := bel_alloc hV
    have HZ := Lib.hid (HZ.out.bel hb)
    have HK := Lib.hid (HK.out.bel hb)
    have HB := Lib.hid (HB.out.trans (hb.mono HB.out.size))
    try have HT := Lib.hid (HT.out.bel hb)
    try have HE := Lib.hid (HE.out.bel hb)
    try have HI := Lib.hid (HI.out.bel hb)
    try have HO := Lib.hid (HO.out.bel hb)
    have HE : Hid (Blk V lb 59 (entC tx out l)) := blk_alloc hV hlb
    clear hV hb hlb
    refine wpAnyH_ready (rs := [11, 18]) (by kernel_rfl) (by simp) (AllReadyH.cons rfl (fun K hK => ?_) (AllReadyH.cons rfl (fun K hK => ?_) AllReadyH.nil))
    · have hap := run_append_owned_none (P := Tryz.prog) (w := V) lb 51 51 59 ie 11 Tryz.underlying51 hie (.slice (some ⟨lb, 0, none⟩) 1 1) 1 (entC tx out l).toList (own_lit HE.out (Nat.le_refl _) (by rfl) (by unfold maxLen; omega))
      go_simp
      refine hK.out _ _ (Lib.hid (HK.out.1)) (fun _ => ?_)
      clear hK K hap
      refine wpAnyH_ready (rs := [13, 18]) (by kernel_rfl) (by simp) (AllReadyH.cons rfl (fun K hK => ?_) (AllReadyH.cons rfl (fun K hK => ?_) AllReadyH.nil))
      · go_simp
        refine (HRT _ HK.out.at_).out.mono ?_
        rintro e V2 ⟨rfl, hq⟩
        rw [hq]
        clear hq V2
        go_simp
        refine hK.out _ _ (Lib.hid (HK.out.1)) (fun _ => ?_)
        clear hK K
        refine wpAnyH_ready (rs := [14, 18]) (by kernel_rfl) (by simp) (AllReadyH.cons rfl (fun K hK => ?_) (AllReadyH.cons rfl (fun K hK => ?_) AllReadyH.nil))
        · go_simp
          refine (HBK _ lb ⟨_, HE.out, by rfl, Nat.le_refl 11⟩).out.mono ?_
          rintro e V ⟨gi, ci, go, co, rfl, g1, g2, hi3, ho3, hb⟩
          have HZ := Lib.hid (HZ.out.bel hb)
          have HK := Lib.hid (HK.out.bel hb)
          have HB := Lib.hid (HB.out.trans (hb.mono HB.out.size))
          try have HT := Lib.hid (HT.out.bel hb)
          try have HE := Lib.hid (HE.out.bel hb)
          try have HI := Lib.hid (HI.out.bel hb)
          try have HO := Lib.hid (HO.out.bel hb)
          have HI := Lib.hid hi3
          have HO := Lib.hid ho3
          clear hb hi3 ho3
          go_simp
          refine hK.out _ _ (Lib.hid (HK.out.1)) (fun hS => ?_)
          clear hK K
          refine wpAnyH_take (i := 15) (v := ?_) rfl (by kernel_rfl) (by kernel_rfl) (by kernel_rfl) (fun _ _ _ h => h) (Or.inl ⟨by rfl, ?_⟩) hS ?_
          rotate_left
          · (intro w _; go_simp; try with_reducible rfl)
          refine wpAnyH_take (i := 16) (v := ?_) rfl (by kernel_rfl) (by kernel_rfl) (by kernel_rfl) (fun _ _ _ h => h) (Or.inl ⟨by rfl, ?_⟩) hS ?_
          rotate_left
          · (intro w _; go_simp; try with_reducible rfl)
          refine wpAnyH_take (i := 17) (v := ?_) rfl (by kernel_rfl) (by kernel_rfl) (by kernel_rfl) (fun _ _ _ h => h) (Or.inl ⟨by rfl, ?_⟩) hS ?_
          rotate_left
          · (intro w _; go_simp; try with_reducible rfl)
          refine wpAnyH_ready (rs := [18]) (by kernel_rfl) (by simp) (AllReadyH.cons rfl (fun K hK => ?_) AllReadyH.nil)
          go_simp
          have htb : w.heap.size < V.heap.size := HZ.out.lt
          generalize hlb : V.heap.size = tb at htb ⊢
          refine hK.out _ _ (Lib.hid (HK.out.1.alloc _)) (fun _ => ?_)
          clear hK K
          refine wpAnyH_gen fun V hV => ?_
          have hb := bel_alloc hV
          have HZ := Lib.hid (HZ.out.bel hb)
          have HK := Lib.hid (HK.out.bel hb)
          have HB := Lib.hid (HB.out.trans (hb.mono HB.out.size))
          try have HT := Lib.hid (HT.out.bel hb)
          try have HE := Lib.hid (HE.out.bel hb)
          try have HI := Lib.hid (HI.out.bel hb)
          try have HO := Lib.hid (HO.out.bel hb)
          have HT : Hid (Blk V tb 70 zTx) := blk_alloc hV hlb
          clear hV hb hlb
          refine wpAnyH_ready (rs := [19]) (by kernel_rfl) (by simp) (AllReadyH.cons rfl (fun K hK => ?_) AllReadyH.nil)
          refine step_store_part (by rfl) 70 (.tmp 4) (.tmp 28) (by rfl) tb 0 HT.out (txC gi ci go co) (txC gi ci go co) (by rfl) (by rfl) (Nat.le_refl 6) infoTx (txC_one _ _ _ _) (txC_over _ _ _ _) ?_
          intro V5 hb5 hc5
          have HT5 := Lib.hid hb5
          have HK5 := Lib.hid (HK.out.chO hc5 rfl HT.out (by decide) (by decide) (by decide) (by decide) (by decide))
          have HZ5 : Hid (Blk V5 w.heap.size 70 zTx) := Blk.ch HZ.out hc5 (by simp; omega)
          have HI5 : Hid (Ins1 V5 gi tx out 3 ByteArray.empty) := by obtain ⟨cu', j1, j2⟩ := HI.out; exact ⟨cu', Blk.ch j1 hc5 (by have := j1.ne_ HT.out (by decide); simpa using this), j2⟩
          have HO5 : Hid (Outs1 V5 go (l.am - 10) (rootB seed h)) := by obtain ⟨cu', j1, j2⟩ := HO.out; exact ⟨cu', Blk.ch j1 hc5 (by have := j1.ne_ HT.out (by decide); simpa using this), j2⟩
          have HB5 : Hid (Below w.heap.size w V5) := HB.out.trans (hc5.below HB.out.size (by simp; omega))
          clear hb5 hc5
          refine hK.out _ _ (Lib.hid HK5.out.1) (fun hS5 => ?_)
          clear hK K
          refine wpAnyH_ready (rs := [20]) (by kernel_rfl) (by simp) (AllReadyH.cons rfl (fun K hK => ?_) AllReadyH.nil)
          go_simp
          refine hK.out _ _ hS5 (fun _ => ?_)
          clear hK K
          refine wpAnyH_done (by kernel_rfl) ?_ _
          go_wp2_with (first | (refine wpList_load_blk rfl 70 (.tmp 4) rfl tb 0 6 HT5.out (txC gi ci go co) (by rfl) (by rfl) Tryz.underlying70 infoTx (Nat.le_refl 6) ?_))
          refine (HSG _ gi ci go co HK5.out HI5.out HO5.out).out.mono ?_
          rintro e w6 ⟨gi6, ci6, go6, co6, rfl, g3, g4, hi6, ho6, hk6, hc6⟩
          have hsz5 := HB5.out.size
          have HI6 := Lib.hid hi6
          have HO6 := Lib.hid ho6
          have HK6 := Lib.hid hk6
          have HZ6 : Hid (Blk w6 w.heap.size 70 zTx) := Blk.ch HZ5.out hc6 (by simp; omega)
          have HC6 : Hid (Ch [ctr] w w6) := (Ch.of_below HB5.out _).trans hc6
          clear hi6 ho6 hk6 hc6
          go_wp2_with (first
            | (refine wpList_store_part rfl 70 (.tmp 2) (.tmp 37) rfl w.heap.size 0 HZ6.out (txC gi6 ci6 go6 co6) (txC gi6 ci6 go6 co6) (by rfl) (by rfl) (Nat.le_refl 6) infoTx (txC_one _ _ _ _) (txC_over _ _ _ _) ?_; intro W8 hb8 hc8; have HZ8 := Lib.hid hb8; have HC8 := Lib.hid hc8; clear hb8 hc8))
          have HI8 : Hid (Ins1 W8 gi6 tx out 3 sig) := by obtain ⟨cu', j1, j2⟩ := HI6.out; exact ⟨cu', Blk.ch j1 HC8.out (by have := j1.ne_ HZ6.out (by decide); simpa using this), j2⟩
          have HO8 : Hid (Outs1 W8 go6 (l.am - 10) (rootB seed h)) := by obtain ⟨cu', j1, j2⟩ := HO6.out; exact ⟨cu', Blk.ch j1 HC8.out (by have := j1.ne_ HZ6.out (by decide); simpa using this), j2⟩
          exact bodyPost_ret (results_cell_row2 rfl _ HZ8.out rfl Tryz.underlying70 infoTx) rfl ⟨gi6, ci6, go6, co6, rfl, by omega, by omega, HI8.out, HO8.out, HK6.out.chO HC8.out rfl HZ6.out (by decide) (by decide) (by decide) (by decide) (by decide), ((HC6.out.mono (S' := [ctr, w.heap.size]) (by simp <;> omega)).trans (HC8.out.mono (by simp))).mono (by simp <;> omega)⟩
        · go_simp
          have htb : w.heap.size < V.heap.size := HZ.out.lt
          generalize hlb : V.heap.size = tb at htb ⊢
          refine hK.out _ _ (Lib.hid (HK.out.1.alloc _)) (fun _ => ?_)
          clear hK K
          refine wpAnyH_gen fun V hV => ?_
          have hb := bel_alloc hV
          have HZ := Lib.hid (HZ.out.bel hb)
          have HK := Lib.hid (HK.out.bel hb)
          have HB := Lib.hid (HB.out.trans (hb.mono HB.out.size))
          try have HT := Lib.hid (HT.out.bel hb)
          try have HE := Lib.hid (HE.out.bel hb)
          try have HI := Lib.hid (HI.out.bel hb)
          try have HO := Lib.hid (HO.out.bel hb)
          have HT : Hid (Blk V tb 70 zTx) := blk_alloc hV hlb
          clear hV hb hlb
          refine wpAnyH_ready (rs := [14]) (by kernel_rfl) (by simp) (AllReadyH.cons rfl (fun K hK => ?_) AllReadyH.nil)
          go_simp
          refine (HBK _ lb ⟨_, HE.out, by rfl, Nat.le_refl 11⟩).out.mono ?_
          rintro e V ⟨gi, ci, go, co, rfl, g1, g2, hi3, ho3, hb⟩
          have HZ := Lib.hid (HZ.out.bel hb)
          have HK := Lib.hid (HK.out.bel hb)
          have HB := Lib.hid (HB.out.trans (hb.mono HB.out.size))
          try have HT := Lib.hid (HT.out.bel hb)
          try have HE := Lib.hid (HE.out.bel hb)
          try have HI := Lib.hid (HI.out.bel hb)
          try have HO := Lib.hid (HO.out.bel hb)
          have HI := Lib.hid hi3
          have HO := Lib.hid ho3
          clear hb hi3 ho3
          go_simp
          refine hK.out _ _ (Lib.hid (HK.out.1)) (fun hS => ?_)
          clear hK K
          refine wpAnyH_take (i := 15) (v := ?_) rfl (by kernel_rfl) (by kernel_rfl) (by kernel_rfl) (fun _ _ _ h => h) (Or.inl ⟨by rfl, ?_⟩) hS ?_
          rotate_left
          · (intro w _; go_simp; try with_reducible rfl)
          refine wpAnyH_take (i := 16) (v := ?_) rfl (by kernel_rfl) (by kernel_rfl) (by kernel_rfl) (fun _ _ _ h => h) (Or.inl ⟨by rfl, ?_⟩) hS ?_
          rotate_left
          · (intro w _; go_simp; try with_reducible rfl)
          refine wpAnyH_take (i := 17) (v := ?_) rfl (by kernel_rfl) (by kernel_rfl) (by kernel_rfl) (fun _ _ _ h => h) (Or.inl ⟨by rfl, ?_⟩) hS ?_
          rotate_left
          · (intro w _; go_simp; try with_reducible rfl)
          refine wpAnyH_ready (rs := [19]) (by kernel_rfl) (by simp) (AllReadyH.cons rfl (fun K hK => ?_) AllReadyH.nil)
          refine step_store_part (by rfl) 70 (.tmp 4) (.tmp 28) (by rfl) tb 0 HT.out (txC gi ci go co) (txC gi ci go co) (by rfl) (by rfl) (Nat.le_refl 6) infoTx (txC_one _ _ _ _) (txC_over _ _ _ _) ?_
          intro V5 hb5 hc5
          have HT5 := Lib.hid hb5
          have HK5 := Lib.hid (HK.out.chO hc5 rfl HT.out (by decide) (by decide) (by decide) (by decide) (by decide))
          have HZ5 : Hid (Blk V5 w.heap.size 70 zTx) := Blk.ch HZ.out hc5 (by simp; omega)
          have HI5 : Hid (Ins1 V5 gi tx out 3 ByteArray.empty) := by obtain ⟨cu', j1, j2⟩ := HI.out; exact ⟨cu', Blk.ch j1 hc5 (by have := j1.ne_ HT.out (by decide); simpa using this), j2⟩
          have HO5 : Hid (Outs1 V5 go (l.am - 10) (rootB seed h)) := by obtain ⟨cu', j1, j2⟩ := HO.out; exact ⟨cu', Blk.ch j1 hc5 (by have := j1.ne_ HT.out (by decide); simpa using this), j2⟩
          have HB5 : Hid (Below w.heap.size w V5) := HB.out.trans (hc5.below HB.out.size (by simp; omega))
          clear hb5 hc5
          refine hK.out _ _ (Lib.hid HK5.out.1) (fun hS5 => ?_)
          clear hK K
          refine wpAnyH_ready (rs := [20]) (by kernel_rfl) (by simp) (AllReadyH.cons rfl (fun K hK => ?_) AllReadyH.nil)
          go_simp
          refine hK.out _ _ hS5 (fun _ => ?_)
          clear hK K
          refine wpAnyH_done (by kernel_rfl) ?_ _
          go_wp2_with (first | (refine wpList_load_blk rfl 70 (.tmp 4) rfl tb 0 6 HT5.out (txC gi ci go co) (by rfl) (by rfl) Tryz.underlying70 infoTx (Nat.le_refl 6) ?_))
          refine (HSG _ gi ci go co HK5.out HI5.out HO5.out).out.mono ?_
          rintro e w6 ⟨gi6, ci6, go6, co6, rfl, g3, g4, hi6, ho6, hk6, hc6⟩
          have hsz5 := HB5.out.size
          have HI6 := Lib.hid hi6
          have HO6 := Lib.hid ho6
          have HK6 := Lib.hid hk6
          have HZ6 : Hid (Blk w6 w.heap.size 70 zTx) := Blk.ch HZ5.out hc6 (by simp; omega)
          have HC6 : Hid (Ch [ctr] w w6) := (Ch.of_below HB5.out _).trans hc6
          clear hi6 ho6 hk6 hc6
          go_wp2_with (first
            | (refine wpList_store_part rfl 70 (.tmp 2) (.tmp 37) rfl w.heap.size 0 HZ6.out (txC gi6 ci6 go6 co6) (txC gi6 ci6 go6 co6) (by rfl) (by rfl) (Nat.le_refl 6) infoTx (txC_one _ _ _ _) (txC_over _ _ _ _) ?_; intro W8 hb8 hc8; have HZ8 := Lib.hid hb8; have HC8 := Lib.hid hc8; clear hb8 hc8))
          have HI8 : Hid (Ins1 W8 gi6 tx out 3 sig) := by obtain ⟨cu', j1, j2⟩ := HI6.out; exact ⟨cu', Blk.ch j1 HC8.out (by have := j1.ne_ HZ6.out (by decide); simpa using this), j2⟩
          have HO8 : Hid (Outs1 W8 go6 (l.am - 10) (rootB seed h)) := by obtain ⟨cu', j1, j2⟩ := HO6.out; exact ⟨cu', Blk.ch j1 HC8.out (by have := j1.ne_ HZ6.out (by decide); simpa using this), j2⟩
          exact bodyPost_ret (results_cell_row2 rfl _ HZ8.out rfl Tryz.underlying70 infoTx) rfl ⟨gi6, ci6, go6, co6, rfl, by omega, by omega, HI8.out, HO8.out, HK6.out.chO HC8.out rfl HZ6.out (by decide) (by decide) (by decide) (by decide) (by decide), ((HC6.out.mono (S' := [ctr, w.heap.size]) (by simp <;> omega)).trans (HC8.out.mono (by simp))).mono (by simp <;> omega)⟩
      · go_simp
        have htb : w.heap.size < V.heap.size := HZ.out.lt
        generalize hlb : V.heap.size = tb at htb ⊢
        refine hK.out _ _ (Lib.hid (HK.out.1.alloc _)) (fun _ => ?_)
        clear hK K
        refine wpAnyH_gen fun V hV => ?_
        have hb := bel_alloc hV
        have HZ := Lib.hid (HZ.out.bel hb)
        have HK := Lib.hid (HK.out.bel hb)
        have HB := Lib.hid (HB.out.trans (hb.mono HB.out.size))
        try have HT := Lib.hid (HT.out.bel hb)
        try have HE := Lib.hid (HE.out.bel hb)
        try have HI := Lib.hid (HI.out.bel hb)
        try have HO := Lib.hid (HO.out.bel hb)
        have HT : Hid (Blk V tb 70 zTx) := blk_alloc hV hlb
        clear hV hb hlb
        refine wpAnyH_ready (rs := [13]) (by kernel_rfl) (by simp) (AllReadyH.cons rfl (fun K hK => ?_) AllReadyH.nil)
        go_simp
        refine (HRT _ HK.out.at_).out.mono ?_
        rintro e V2 ⟨rfl, hq⟩
        rw [hq]
        clear hq V2
        go_simp
        refine hK.out _ _ (Lib.hid (HK.out.1)) (fun _ => ?_)
        clear hK K
        refine wpAnyH_ready (rs := [14]) (by kernel_rfl) (by simp) (AllReadyH.cons rfl (fun K hK => ?_) AllReadyH.nil)
        go_simp
        refine (HBK _ lb ⟨_, HE.out, by rfl, Nat.le_refl 11⟩).out.mono ?_
        rintro e V ⟨gi, ci, go, co, rfl, g1, g2, hi3, ho3, hb⟩
        have HZ := Lib.hid (HZ.out.bel hb)
        have HK := Lib.hid (HK.out.bel hb)
        have HB := Lib.hid (HB.out.trans (hb.mono HB.out.size))
        try have HT := Lib.hid (HT.out.bel hb)
        try have HE := Lib.hid (HE.out.bel hb)
        try have HI := Lib.hid (HI.out.bel hb)
        try have HO := Lib.hid (HO.out.bel hb)
        have HI := Lib.hid hi3
        have HO := Lib.hid ho3
        clear hb hi3 ho3
        go_simp
        refine hK.out _ _ (Lib.hid (HK.out.1)) (fun hS => ?_)
        clear hK K
        refine wpAnyH_take (i := 15) (v := ?_) rfl (by kernel_rfl) (by kernel_rfl) (by kernel_rfl) (fun _ _ _ h => h) (Or.inl ⟨by rfl, ?_⟩) hS ?_
        rotate_left
        · (intro w _; go_simp; try with_reducible rfl)
        refine wpAnyH_take (i := 16) (v := ?_) rfl (by kernel_rfl) (by kernel_rfl) (by kernel_rfl) (fun _ _ _ h => h) (Or.inl ⟨by rfl, ?_⟩) hS ?_
        rotate_left
        · (intro w _; go_simp; try with_reducible rfl)
        refine wpAnyH_take (i := 17) (v := ?_) rfl (by kernel_rfl) (by kernel_rfl) (by kernel_rfl) (fun _ _ _ h => h) (Or.inl ⟨by rfl, ?_⟩) hS ?_
        rotate_left
        · (intro w _; go_simp; try with_reducible rfl)
        refine wpAnyH_ready (rs := [19]) (by kernel_rfl) (by simp) (AllReadyH.cons rfl (fun K hK => ?_) AllReadyH.nil)
        refine step_store_part (by rfl) 70 (.tmp 4) (.tmp 28) (by rfl) tb 0 HT.out (txC gi ci go co) (txC gi ci go co) (by rfl) (by rfl) (Nat.le_refl 6) infoTx (txC_one _ _ _ _) (txC_over _ _ _ _) ?_
        intro V5 hb5 hc5
        have HT5 := Lib.hid hb5
        have HK5 := Lib.hid (HK.out.chO hc5 rfl HT.out (by decide) (by decide) (by decide) (by decide) (by decide))
        have HZ5 : Hid (Blk V5 w.heap.size 70 zTx) := Blk.ch HZ.out hc5 (by simp; omega)
        have HI5 : Hid (Ins1 V5 gi tx out 3 ByteArray.empty) := by obtain ⟨cu', j1, j2⟩ := HI.out; exact ⟨cu', Blk.ch j1 hc5 (by have := j1.ne_ HT.out (by decide); simpa using this), j2⟩
        have HO5 : Hid (Outs1 V5 go (l.am - 10) (rootB seed h)) := by obtain ⟨cu', j1, j2⟩ := HO.out; exact ⟨cu', Blk.ch j1 hc5 (by have := j1.ne_ HT.out (by decide); simpa using this), j2⟩
        have HB5 : Hid (Below w.heap.size w V5) := HB.out.trans (hc5.below HB.out.size (by simp; omega))
        clear hb5 hc5
        refine hK.out _ _ (Lib.hid HK5.out.1) (fun hS5 => ?_)
        clear hK K
        refine wpAnyH_ready (rs := [20]) (by kernel_rfl) (by simp) (AllReadyH.cons rfl (fun K hK => ?_) AllReadyH.nil)
        go_simp
        refine hK.out _ _ hS5 (fun _ => ?_)
        clear hK K
        refine wpAnyH_done (by kernel_rfl) ?_ _
        go_wp2_with (first | (refine wpList_load_blk rfl 70 (.tmp 4) rfl tb 0 6 HT5.out (txC gi ci go co) (by rfl) (by rfl) Tryz.underlying70 infoTx (Nat.le_refl 6) ?_))
        refine (HSG _ gi ci go co HK5.out HI5.out HO5.out).out.mono ?_
        rintro e w6 ⟨gi6, ci6, go6, co6, rfl, g3, g4, hi6, ho6, hk6, hc6⟩
        have hsz5 := HB5.out.size
        have HI6 := Lib.hid hi6
        have HO6 := Lib.hid ho6
        have HK6 := Lib.hid hk6
        have HZ6 : Hid (Blk w6 w.heap.size 70 zTx) := Blk.ch HZ5.out hc6 (by simp; omega)
        have HC6 : Hid (Ch [ctr] w w6) := (Ch.of_below HB5.out _).trans hc6
        clear hi6 ho6 hk6 hc6
        go_wp2_with (first
          | (refine wpList_store_part rfl 70 (.tmp 2) (.tmp 37) rfl w.heap.size 0 HZ6.out (txC gi6 ci6 go6 co6) (txC gi6 ci6 go6 co6) (by rfl) (by rfl) (Nat.le_refl 6) infoTx (txC_one _ _ _ _) (txC_over _ _ _ _) ?_; intro W8 hb8 hc8; have HZ8 := Lib.hid hb8; have HC8 := Lib.hid hc8; clear hb8 hc8))
        have HI8 : Hid (Ins1 W8 gi6 tx out 3 sig) := by obtain ⟨cu', j1, j2⟩ := HI6.out; exact ⟨cu', Blk.ch j1 HC8.out (by have := j1.ne_ HZ6.out (by decide); simpa using this), j2⟩
        have HO8 : Hid (Outs1 W8 go6 (l.am - 10) (rootB seed h)) := by obtain ⟨cu', j1, j2⟩ := HO6.out; exact ⟨cu', Blk.ch j1 HC8.out (by have := j1.ne_ HZ6.out (by decide); simpa using this), j2⟩
        exact bodyPost_ret (results_cell_row2 rfl _ HZ8.out rfl Tryz.underlying70 infoTx) rfl ⟨gi6, ci6, go6, co6, rfl, by omega, by omega, HI8.out, HO8.out, HK6.out.chO HC8.out rfl HZ6.out (by decide) (by decide) (by decide) (by decide) (by decide), ((HC6.out.mono (S' := [ctr, w.heap.size]) (by simp <;> omega)).trans (HC8.out.mono (by simp))).mono (by simp <;> omega)⟩
    · go_simp
      have htb : w.heap.size < V.heap.size := HZ.out.lt
      generalize hlb : V.heap.size = tb at htb ⊢
      refine hK.out _ _ (Lib.hid (HK.out.1.alloc _)) (fun _ => ?_)
      clear hK K
      refine wpAnyH_gen fun V hV => ?_
      have hb := bel_alloc hV
      have HZ := Lib.hid (HZ.out.bel hb)
      have HK := Lib.hid (HK.out.bel hb)
      have HB := Lib.hid (HB.out.trans (hb.mono HB.out.size))
      try have HT := Lib.hid (HT.out.bel hb)
      try have HE := Lib.hid (HE.out.bel hb)
      try have HI := Lib.hid (HI.out.bel hb)
      try have HO := Lib.hid (HO.out.bel hb)
      have HT : Hid (Blk V tb 70 zTx) := blk_alloc hV hlb
      clear hV hb hlb
      refine wpAnyH_ready (rs := [11]) (by kernel_rfl) (by simp) (AllReadyH.cons rfl (fun K hK => ?_) AllReadyH.nil)
      have hap := run_append_owned_none (P := Tryz.prog) (w := V) lb 51 51 59 ie 11 Tryz.underlying51 hie (.slice (some ⟨lb, 0, none⟩) 1 1) 1 (entC tx out l).toList (own_lit HE.out (Nat.le_refl _) (by rfl) (by unfold maxLen; omega))
      go_simp
      refine hK.out _ _ (Lib.hid (HK.out.1)) (fun _ => ?_)
      clear hK K hap
      refine wpAnyH_ready (rs := [13]) (by kernel_rfl) (by simp) (AllReadyH.cons rfl (fun K hK => ?_) AllReadyH.nil)
      go_simp
      refine (HRT _ HK.out.at_).out.mono ?_
      rintro e V2 ⟨rfl, hq⟩
      rw [hq]
      clear hq V2
      go_simp
      refine hK.out _ _ (Lib.hid (HK.out.1)) (fun _ => ?_)
      clear hK K
      refine wpAnyH_ready (rs := [14]) (by kernel_rfl) (by simp) (AllReadyH.cons rfl (fun K hK => ?_) AllReadyH.nil)
      go_simp
      refine (HBK _ lb ⟨_, HE.out, by rfl, Nat.le_refl 11⟩).out.mono ?_
      rintro e V ⟨gi, ci, go, co, rfl, g1, g2, hi3, ho3, hb⟩
      have HZ := Lib.hid (HZ.out.bel hb)
      have HK := Lib.hid (HK.out.bel hb)
      have HB := Lib.hid (HB.out.trans (hb.mono HB.out.size))
      try have HT := Lib.hid (HT.out.bel hb)
      try have HE := Lib.hid (HE.out.bel hb)
      try have HI := Lib.hid (HI.out.bel hb)
      try have HO := Lib.hid (HO.out.bel hb)
      have HI := Lib.hid hi3
      have HO := Lib.hid ho3
      clear hb hi3 ho3
      go_simp
      refine hK.out _ _ (Lib.hid (HK.out.1)) (fun hS => ?_)
      clear hK K
      refine wpAnyH_take (i := 15) (v := ?_) rfl (by kernel_rfl) (by kernel_rfl) (by kernel_rfl) (fun _ _ _ h => h) (Or.inl ⟨by rfl, ?_⟩) hS ?_
      rotate_left
      · (intro w _; go_simp; try with_reducible rfl)
      refine wpAnyH_take (i := 16) (v := ?_) rfl (by kernel_rfl) (by kernel_rfl) (by kernel_rfl) (fun _ _ _ h => h) (Or.inl ⟨by rfl, ?_⟩) hS ?_
      rotate_left
      · (intro w _; go_simp; try with_reducible rfl)
      refine wpAnyH_take (i := 17) (v := ?_) rfl (by kernel_rfl) (by kernel_rfl) (by kernel_rfl) (fun _ _ _ h => h) (Or.inl ⟨by rfl, ?_⟩) hS ?_
      rotate_left
      · (intro w _; go_simp; try with_reducible rfl)
      refine wpAnyH_ready (rs := [19]) (by kernel_rfl) (by simp) (AllReadyH.cons rfl (fun K hK => ?_) AllReadyH.nil)
      refine step_store_part (by rfl) 70 (.tmp 4) (.tmp 28) (by rfl) tb 0 HT.out (txC gi ci go co) (txC gi ci go co) (by rfl) (by rfl) (Nat.le_refl 6) infoTx (txC_one _ _ _ _) (txC_over _ _ _ _) ?_
      intro V5 hb5 hc5
      have HT5 := Lib.hid hb5
      have HK5 := Lib.hid (HK.out.chO hc5 rfl HT.out (by decide) (by decide) (by decide) (by decide) (by decide))
      have HZ5 : Hid (Blk V5 w.heap.size 70 zTx) := Blk.ch HZ.out hc5 (by simp; omega)
      have HI5 : Hid (Ins1 V5 gi tx out 3 ByteArray.empty) := by obtain ⟨cu', j1, j2⟩ := HI.out; exact ⟨cu', Blk.ch j1 hc5 (by have := j1.ne_ HT.out (by decide); simpa using this), j2⟩
      have HO5 : Hid (Outs1 V5 go (l.am - 10) (rootB seed h)) := by obtain ⟨cu', j1, j2⟩ := HO.out; exact ⟨cu', Blk.ch j1 hc5 (by have := j1.ne_ HT.out (by decide); simpa using this), j2⟩
      have HB5 : Hid (Below w.heap.size w V5) := HB.out.trans (hc5.below HB.out.size (by simp; omega))
      clear hb5 hc5
      refine hK.out _ _ (Lib.hid HK5.out.1) (fun hS5 => ?_)
      clear hK K
      refine wpAnyH_ready (rs := [20]) (by kernel_rfl) (by simp) (AllReadyH.cons rfl (fun K hK => ?_) AllReadyH.nil)
      go_simp
      refine hK.out _ _ hS5 (fun _ => ?_)
      clear hK K
      refine wpAnyH_done (by kernel_rfl) ?_ _
      go_wp2_with (first | (refine wpList_load_blk rfl 70 (.tmp 4) rfl tb 0 6 HT5.out (txC gi ci go co) (by rfl) (by rfl) Tryz.underlying70 infoTx (Nat.le_refl 6) ?_))
      refine (HSG _ gi ci go co HK5.out HI5.out HO5.out).out.mono ?_
      rintro e w6 ⟨gi6, ci6, go6, co6, rfl, g3, g4, hi6, ho6, hk6, hc6⟩
      have hsz5 := HB5.out.size
      have HI6 := Lib.hid hi6
      have HO6 := Lib.hid ho6
      have HK6 := Lib.hid hk6
      have HZ6 : Hid (Blk w6 w.heap.size 70 zTx) := Blk.ch HZ5.out hc6 (by simp; omega)
      have HC6 : Hid (Ch [ctr] w w6) := (Ch.of_below HB5.out _).trans hc6
      clear hi6 ho6 hk6 hc6
      go_wp2_with (first
        | (refine wpList_store_part rfl 70 (.tmp 2) (.tmp 37) rfl w.heap.size 0 HZ6.out (txC gi6 ci6 go6 co6) (txC gi6 ci6 go6 co6) (by rfl) (by rfl) (Nat.le_refl 6) infoTx (txC_one _ _ _ _) (txC_over _ _ _ _) ?_; intro W8 hb8 hc8; have HZ8 := Lib.hid hb8; have HC8 := Lib.hid hc8; clear hb8 hc8))
      have HI8 : Hid (Ins1 W8 gi6 tx out 3 sig) := by obtain ⟨cu', j1, j2⟩ := HI6.out; exact ⟨cu', Blk.ch j1 HC8.out (by have := j1.ne_ HZ6.out (by decide); simpa using this), j2⟩
      have HO8 : Hid (Outs1 W8 go6 (l.am - 10) (rootB seed h)) := by obtain ⟨cu', j1, j2⟩ := HO6.out; exact ⟨cu', Blk.ch j1 HC8.out (by have := j1.ne_ HZ6.out (by decide); simpa using this), j2⟩
      exact bodyPost_ret (results_cell_row2 rfl _ HZ8.out rfl Tryz.underlying70 infoTx) rfl ⟨gi6, ci6, go6, co6, rfl, by omega, by omega, HI8.out, HO8.out, HK6.out.chO HC8.out rfl HZ6.out (by decide) (by decide) (by decide) (by decide) (by decide), ((HC6.out.mono (S' := [ctr, w.heap.size]) (by simp <;> omega)).trans (HC8.out.mono (by simp))).mono (by simp <;> omega)⟩
  · go_simp
    have htb : w.heap.size < V.heap.size := HZ.out.lt
    generalize hlb : V.heap.size = tb at htb ⊢
    refine hK.out _ _ (Lib.hid (HK.out.1.alloc _)) (fun _ => ?_)
    clear hK K
    refine wpAnyH_gen fun V hV => ?_
    have hb := bel_alloc hV
    have HZ := Lib.hid (HZ.out.bel hb)
    have HK := Lib.hid (HK.out.bel hb)
    have HB := Lib.hid (HB.out.trans (hb.mono HB.out.size))
    try have HT := Lib.hid (HT.out.bel hb)
    try have HE := Lib.hid (HE.out.bel hb)
    try have HI := Lib.hid (HI.out.bel hb)
    try have HO := Lib.hid (HO.out.bel hb)
    have HT : Hid (Blk V tb 70 zTx) := blk_alloc hV hlb
    clear hV hb hlb
    refine wpAnyH_ready (rs := [5]) (by kernel_rfl) (by simp) (AllReadyH.cons rfl (fun K hK => ?_) AllReadyH.nil)
    go_simp
    generalize hlb : V.heap.size = lb
    refine hK.out _ _ (Lib.hid (HK.out.1.alloc _)) (fun _ => ?_)
    clear hK K
    refine wpAnyH_gen fun V hV => ?_
    have hb := bel_alloc hV
    have HZ := Lib.hid (HZ.out.bel hb)
    have HK := Lib.hid (HK.out.bel hb)
    have HB := Lib.hid (HB.out.trans (hb.mono HB.out.size))
    try have HT := Lib.hid (HT.out.bel hb)
    try have HE := Lib.hid (HE.out.bel hb)
    try have HI := Lib.hid (HI.out.bel hb)
    try have HO := Lib.hid (HO.out.bel hb)
    have HE : Hid (Blk V lb 59 (entC tx out l)) := blk_alloc hV hlb
    clear hV hb hlb
    refine wpAnyH_ready (rs := [11]) (by kernel_rfl) (by simp) (AllReadyH.cons rfl (fun K hK => ?_) AllReadyH.nil)
    have hap := run_append_owned_none (P := Tryz.prog) (w := V) lb 51 51 59 ie 11 Tryz.underlying51 hie (.slice (some ⟨lb, 0, none⟩) 1 1) 1 (entC tx out l).toList (own_lit HE.out (Nat.le_refl _) (by rfl) (by unfold maxLen; omega))
    go_simp
    refine hK.out _ _ (Lib.hid (HK.out.1)) (fun _ => ?_)
    clear hK K hap
    refine wpAnyH_ready (rs := [13]) (by kernel_rfl) (by simp) (AllReadyH.cons rfl (fun K hK => ?_) AllReadyH.nil)
    go_simp
    refine (HRT _ HK.out.at_).out.mono ?_
    rintro e V2 ⟨rfl, hq⟩
    rw [hq]
    clear hq V2
    go_simp
    refine hK.out _ _ (Lib.hid (HK.out.1)) (fun _ => ?_)
    clear hK K
    refine wpAnyH_ready (rs := [14]) (by kernel_rfl) (by simp) (AllReadyH.cons rfl (fun K hK => ?_) AllReadyH.nil)
    go_simp
    refine (HBK _ lb ⟨_, HE.out, by rfl, Nat.le_refl 11⟩).out.mono ?_
    rintro e V ⟨gi, ci, go, co, rfl, g1, g2, hi3, ho3, hb⟩
    have HZ := Lib.hid (HZ.out.bel hb)
    have HK := Lib.hid (HK.out.bel hb)
    have HB := Lib.hid (HB.out.trans (hb.mono HB.out.size))
    try have HT := Lib.hid (HT.out.bel hb)
    try have HE := Lib.hid (HE.out.bel hb)
    try have HI := Lib.hid (HI.out.bel hb)
    try have HO := Lib.hid (HO.out.bel hb)
    have HI := Lib.hid hi3
    have HO := Lib.hid ho3
    clear hb hi3 ho3
    go_simp
    refine hK.out _ _ (Lib.hid (HK.out.1)) (fun hS => ?_)
    clear hK K
    refine wpAnyH_take (i := 15) (v := ?_) rfl (by kernel_rfl) (by kernel_rfl) (by kernel_rfl) (fun _ _ _ h => h) (Or.inl ⟨by rfl, ?_⟩) hS ?_
    rotate_left
    · (intro w _; go_simp; try with_reducible rfl)
    refine wpAnyH_take (i := 16) (v := ?_) rfl (by kernel_rfl) (by kernel_rfl) (by kernel_rfl) (fun _ _ _ h => h) (Or.inl ⟨by rfl, ?_⟩) hS ?_
    rotate_left
    · (intro w _; go_simp; try with_reducible rfl)
    refine wpAnyH_take (i := 17) (v := ?_) rfl (by kernel_rfl) (by kernel_rfl) (by kernel_rfl) (fun _ _ _ h => h) (Or.inl ⟨by rfl, ?_⟩) hS ?_
    rotate_left
    · (intro w _; go_simp; try with_reducible rfl)
    refine wpAnyH_ready (rs := [19]) (by kernel_rfl) (by simp) (AllReadyH.cons rfl (fun K hK => ?_) AllReadyH.nil)
    refine step_store_part (by rfl) 70 (.tmp 4) (.tmp 28) (by rfl) tb 0 HT.out (txC gi ci go co) (txC gi ci go co) (by rfl) (by rfl) (Nat.le_refl 6) infoTx (txC_one _ _ _ _) (txC_over _ _ _ _) ?_
    intro V5 hb5 hc5
    have HT5 := Lib.hid hb5
    have HK5 := Lib.hid (HK.out.chO hc5 rfl HT.out (by decide) (by decide) (by decide) (by decide) (by decide))
    have HZ5 : Hid (Blk V5 w.heap.size 70 zTx) := Blk.ch HZ.out hc5 (by simp; omega)
    have HI5 : Hid (Ins1 V5 gi tx out 3 ByteArray.empty) := by obtain ⟨cu', j1, j2⟩ := HI.out; exact ⟨cu', Blk.ch j1 hc5 (by have := j1.ne_ HT.out (by decide); simpa using this), j2⟩
    have HO5 : Hid (Outs1 V5 go (l.am - 10) (rootB seed h)) := by obtain ⟨cu', j1, j2⟩ := HO.out; exact ⟨cu', Blk.ch j1 hc5 (by have := j1.ne_ HT.out (by decide); simpa using this), j2⟩
    have HB5 : Hid (Below w.heap.size w V5) := HB.out.trans (hc5.below HB.out.size (by simp; omega))
    clear hb5 hc5
    refine hK.out _ _ (Lib.hid HK5.out.1) (fun hS5 => ?_)
    clear hK K
    refine wpAnyH_ready (rs := [20]) (by kernel_rfl) (by simp) (AllReadyH.cons rfl (fun K hK => ?_) AllReadyH.nil)
    go_simp
    refine hK.out _ _ hS5 (fun _ => ?_)
    clear hK K
    refine wpAnyH_done (by kernel_rfl) ?_ _
    go_wp2_with (first | (refine wpList_load_blk rfl 70 (.tmp 4) rfl tb 0 6 HT5.out (txC gi ci go co) (by rfl) (by rfl) Tryz.underlying70 infoTx (Nat.le_refl 6) ?_))
    refine (HSG _ gi ci go co HK5.out HI5.out HO5.out).out.mono ?_
    rintro e w6 ⟨gi6, ci6, go6, co6, rfl, g3, g4, hi6, ho6, hk6, hc6⟩
    have hsz5 := HB5.out.size
    have HI6 := Lib.hid hi6
    have HO6 := Lib.hid ho6
    have HK6 := Lib.hid hk6
    have HZ6 : Hid (Blk w6 w.heap.size 70 zTx) := Blk.ch HZ5.out hc6 (by simp; omega)
    have HC6 : Hid (Ch [ctr] w w6) := (Ch.of_below HB5.out _).trans hc6
    clear hi6 ho6 hk6 hc6
    go_wp2_with (first
      | (refine wpList_store_part rfl 70 (.tmp 2) (.tmp 37) rfl w.heap.size 0 HZ6.out (txC gi6 ci6 go6 co6) (txC gi6 ci6 go6 co6) (by rfl) (by rfl) (Nat.le_refl 6) infoTx (txC_one _ _ _ _) (txC_over _ _ _ _) ?_; intro W8 hb8 hc8; have HZ8 := Lib.hid hb8; have HC8 := Lib.hid hc8; clear hb8 hc8))
    have HI8 : Hid (Ins1 W8 gi6 tx out 3 sig) := by obtain ⟨cu', j1, j2⟩ := HI6.out; exact ⟨cu', Blk.ch j1 HC8.out (by have := j1.ne_ HZ6.out (by decide); simpa using this), j2⟩
    have HO8 : Hid (Outs1 W8 go6 (l.am - 10) (rootB seed h)) := by obtain ⟨cu', j1, j2⟩ := HO6.out; exact ⟨cu', Blk.ch j1 HC8.out (by have := j1.ne_ HZ6.out (by decide); simpa using this), j2⟩
    exact bodyPost_ret (results_cell_row2 rfl _ HZ8.out rfl Tryz.underlying70 infoTx) rfl ⟨gi6, ci6, go6, co6, rfl, by omega, by omega, HI8.out, HO8.out, HK6.out.chO HC8.out rfl HZ6.out (by decide) (by decide) (by decide) (by decide) (by decide), ((HC6.out.mono (S' := [ctr, w.heap.size]) (by simp <;> omega)).trans (HC8.out.mono (by simp))).mono (by simp <;> omega)⟩
end Go.Proofs.YtmbceheafjadhaaGreat
