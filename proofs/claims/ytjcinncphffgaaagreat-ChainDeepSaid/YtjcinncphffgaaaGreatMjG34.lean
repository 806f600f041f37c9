/- utxo.New of outputs that may be, and of others. law11's Locked. -/
import Derived.Outline
import Derived.Deep.RegionHeld3
import Derived.Test.YtjcinncphffgaaaGreatMjG33
import Derived.Test.YtjcinncphffgaaaGreatMjNote
set_option linter.unusedVariables false
set_option linter.unusedSimpArgs false
namespace Go.Proofs.YtjcinncphffgaaaGreat
open Go.RowKit Go.Maps Go.Sort
theorem fits_key {o : Ou} (h : fitsB o = true) : o.key.size = 16 := by
  unfold fitsB at h
  split at h
  · unfold fits2B at h; simp at h; omega
  · split at h
    · unfold fits3B at h; simp at h; omega
    · split at h
      · unfold fits1B at h; simp at h; omega
      · cases h
def newU (l : List Ou) : Bool := decide (1 ≤ l.length) && decide (l.length ≤ 64) && l.all fitsB
theorem any_odd (l : List Ou) : (l.any fun o => !fitsB o) = !l.all fitsB := by simp [List.all_eq_not_any_not]
set_option maxRecDepth 100000 in
set_option maxHeartbeats 2000000 in
theorem unew_ok (A : Option Addr) (l : List Ou) (c : Nat) (w : World) (hS : Sl w w.heap.size 9 Ou.cl A l) (hn : newU l = true) (ham : ∀ o ∈ l, o.am < 18446744073709551616) :
    Calls Tryz.prog 29 #[.slice A l.length c] w fun e w' => ∃ sb b, e = .returned (.tuple #[.pointer (some ⟨sb, 0, none⟩), .int .i64 0]) ∧ w.heap.size ≤ sb ∧ w.heap.size ≤ b ∧ SetAt w' sb b (utN (firstB l) l) ∧ Below w.heap.size w w' := by
  unfold newU at hn
  simp only [Bool.and_eq_true, decide_eq_true_eq] at hn
  obtain ⟨⟨h1, h2⟩, h3⟩ := hn
  have hz : ∀ o ∈ l, o.fz := fun o ho => ⟨fits_key (List.all_eq_true.1 h3 o ho), ham o ho⟩
  have HS := Lib.hid hS
  have HC := fun W (hW : Below w.heap.size w W) => Lib.hid (contains_ou A l c (fun o => !fitsB o) W ((hS.below hW).more hW.size) (by omega) (fun W' _ x _ => oddu_any x W'))
  have HFI := fun W (hW : Below w.heap.size w W) => Lib.hid (first_any A l c W ((hS.below hW).more hW.size) h2 hz)
  rw [any_odd, h3] at HC
  have hfs := firstB_size l
  have HUT := fun k hk => Lib.hid (utN_put (firstB l) l k hk)
  have HU0 : Hid (utN (firstB l) (l.take 0) = []) := rfl
  have HU1 : Hid (utN (firstB l) (l.take l.length) = utN (firstB l) l) := Lib.hid (by rw [List.take_length])
  have HUL := fun k => Lib.hid (utN_len (firstB l) (l.take k))
  generalize firstB l = tx at HFI hfs HUT HU0 HU1 HUL ⊢
  have HTX := Lib.hid hfs
  have d1 : decide ((l.length : Int) < 1) = false := decide_eq_false (by omega)
  have d1' : decide (l.length < 1) = false := decide_eq_false (by omega)
  have d2 : decide ((64 : Int) < (l.length : Int)) = false := decide_eq_false (by omega)
  have d2' : decide (64 < l.length) = false := decide_eq_false (by omega)
  have hmm := @run_makeMap Tryz.prog
  clear hS hz h3 ham hfs
  go_enter Tryz.func29, Tryz.ntmps29
  go_wp2_with fail
  refine (HC _ (Below.refl _ _)).out.mono ?_
  rintro e W1 ⟨rfl, hb⟩
  have HB1 := Lib.hid hb
  clear hb HC
  go_wp2_with fail
  have hz1 := HB1.out.size
  have HBA : Hid (Below w.heap.size w ((W1.alloc (.map #[] 0)).alloc (.cells #[.map (some W1.heap.size)] 186))) := Lib.hid ((HB1.out.alloc hz1 _).alloc (by simp; omega) _)
  refine (HFI _ HBA.out).out.mono ?_
  rintro e W2 ⟨rfl, hb⟩
  have HST : Hid (SetAt W2 (W1.heap.size + 1) W1.heap.size []) := Lib.hid (SetAt.bel ⟨Blk.newAt (by simp), (Ut.new W1).bel ((Below.refl _ _).alloc (Nat.le_refl _) _) (by simp)⟩ hb)
  have HB2 := Lib.hid (HBA.out.trans (hb.mono HBA.out.size))
  have hN : W1.heap.size + 1 < W2.heap.size := HST.out.hd.lt
  clear hb HFI HBA HB1
  generalize W1.heap.size = N at HST hN hz1 ⊢
  go_wp2_with fail
  go_loopw [29] (fun i wr => ∃ k : Nat, k ≤ l.length ∧ i = .int .i64 k ∧ Hid (SetAt wr (N + 1) N (utN tx (l.take k))) ∧ Hid (Below w.heap.size w wr)) (fun i _ => l.length - (intOf i).toNat)
  case atStart => exact ⟨0, Nat.zero_le _, rfl, Lib.hid (by rw [HU0.out]; exact HST.out), HB2⟩
  case round =>
    obtain ⟨k, hk, rfl, HT, HB⟩ := hrel
    have hzr := HB.out.size
    by_cases hlt : k < l.length
    · obtain ⟨ab, off, rfl, hbB, hc⟩ := (HS.out.below HB.out).at_ hlt
      have HPU := HUT k hlt
      have hlen := HUL k
      generalize l[k] = x at hc HPU
      have HCC := Lib.hid hc
      have HLN := hlen
      clear hc HUT HUL hlen
      generalize utN tx (l.take k) = T at HT HPU HLN
      go_upto_region 9 with (first
        | (refine wpList_load_ou rfl (.tmp 32) rfl ab (off + k * 9) (by rfl) x HCC.out ?_)
        | (refine wpList_store_part rfl 81 (.tmp 8) (.tmp 33) rfl wr.heap.size 0 (cs := zOu.cs) (Blk.new _ _ _) x.cs x.cs (by rfl) (by rfl) (Nat.le_refl 9) infoOu9 (oucs_one x) (ouv_over x rfl) ?_; intro X0 hb1 hc1; have HBX := Lib.hid (bel_st' hc1); have HP0 := Lib.hid hb1; clear hb1 hc1))
      have HTX0 := Lib.hid (HT.out.bel HBX.out)
      go_frame
      have hlr := HT.out.ut.lt
      have hlr2 := HT.out.hd.lt
      refine wp_region_held_drew (S := fun W => Hid (Blk W wr.heap.size 81 x.cs ∧ Blk W (N + 1) 186 #[.map (some N)])) (by kernel_rfl) (Lib.hid ⟨HP0.out.drewN 1, HTX0.out.hd.drewN 1⟩) (fun hS => ?_)
      have HB1 : Hid (Below w.heap.size w X0.drew) := Lib.hid ((HB.out.trans (HBX.out.mono hzr)).drew)
      have hzx : wr.heap.size < X0.drew.heap.size := HP0.out.lt
      have HUX : Hid (Ut X0.drew N T) := Lib.hid (HTX0.out.ut.bel (Below.refl X0.heap.size X0).drew HTX0.out.ut.lt)
      refine wpAnyH_genT fun X hX => ?_
      rw [← hX] at HB1 hS hzx HUX
      clear hX HP0 HBX HTX0
      refine wpAnyH_take (i := 0) (v := ?_) rfl (by kernel_rfl) (by kernel_rfl) (by kernel_rfl) (fun _ _ _ h => h) (Or.inl ⟨by rfl, ?_⟩) hS ?_
      rotate_left
      · (intro w _; go_simp; try with_reducible rfl)
      refine wpAnyH_take (i := 1) (v := ?_) rfl (by kernel_rfl) (by kernel_rfl) (by kernel_rfl) (fun _ _ _ h => h) (Or.inl ⟨by rfl, ?_⟩) hS ?_
      rotate_left
      · (intro w _; go_simp; try with_reducible rfl)
      refine wpAnyH_take (i := 2) (v := ?_) rfl (by kernel_rfl) (by kernel_rfl) (by kernel_rfl) (fun _ _ _ h => h) (Or.inl ⟨by rfl, ?_⟩) hS ?_
      rotate_left
      · (intro w _; go_simp; try with_reducible rfl)
      refine wpAnyH_take (i := 3) (v := ?_) rfl (by kernel_rfl) (by kernel_rfl) (by kernel_rfl) (fun _ _ _ h => h) (Or.inl ⟨by rfl, ?_⟩) hS ?_
      rotate_left
      · (intro w hS'; have hcell := (show World.cell? _ ⟨N + 1, 0, none⟩ = some (.map (some N)) from Blk.cell hS'.out.2 0); go_simp; try with_reducible rfl)
      refine wpAnyH_take (i := 4) (v := ?_) rfl (by kernel_rfl) (by kernel_rfl) (by kernel_rfl) (fun _ _ _ h => h) (Or.inl ⟨by rfl, ?_⟩) hS ?_
      rotate_left
      · (intro w _; go_simp; try with_reducible rfl)
      refine wpAnyH_take (i := 5) (v := ?_) rfl (by kernel_rfl) (by kernel_rfl) (by kernel_rfl) (fun _ _ _ h => h) (Or.inl ⟨by rfl, ?_⟩) hS ?_
      rotate_left
      · (intro w _; go_simp; try with_reducible rfl)
      refine wpAnyH_take (i := 6) (v := ?_) rfl (by kernel_rfl) (by kernel_rfl) (by kernel_rfl) (fun _ _ _ h => h) (Or.inl ⟨by rfl, ?_⟩) hS ?_
      rotate_left
      · (intro w _; go_simp; try with_reducible rfl)
      refine wpAnyH_take (i := 7) (v := .agg x.cs) rfl (by kernel_rfl) (by kernel_rfl) (by kernel_rfl) (fun _ _ _ h => h) (yields_blk (by rfl) 81 (.tmp 8) (by rfl) wr.heap.size 0 9 (t := 81) (cs := x.cs) (fun W h => h.out.1) x.cs (by rfl) (ouv_ext x) Tryz.underlying81 infoOu9 (Nat.le_refl 9)) hS ?_
      obtain ⟨W4, hrun, hu4, hc4⟩ := HUX.out.store ⟨tx, (k : Int), x⟩ ⟨HTX.out, by show (0 : Int) ≤ (k : Int); omega, by show (k : Int) < 256; omega⟩ (by rw [HLN.out, List.length_take]; simp only [maxLen]; omega)
      have hrun' : (Instr.mapUpdate 184 (.map (some N)) (.agg #[.string tx, .int .i64 (k : Int)]) (.agg x.cs)).run Tryz.prog X = .ok () W4 := hrun
      rw [HPU.out] at hu4
      have HU4 : Hid (SetAt W4 (N + 1) N (utN tx (l.take (k + 1)))) := Lib.hid ⟨hS.out.2.ch hc4 (by simp), hu4⟩
      have HB4 : Hid (Below w.heap.size w W4) := Lib.hid (HB1.out.trans (hc4.below HB1.out.size (by simp; omega)))
      have HP4 := Lib.hid (hS.out.1.ch hc4 (by simp; omega))
      clear hrun hu4 hc4
      refine wpAnyH_ready (rs := [8]) (by kernel_rfl) (by simp) (AllReadyH.cons rfl (fun K hK => ?_) AllReadyH.nil)
      go_simp
      refine hK.out _ _ (Lib.hid ⟨HP4.out, HU4.out.hd⟩) (fun _ => ?_)
      clear hK K hS HB1 HP4 hrun' HUX
      refine wpAnyH_done (by kernel_rfl) ?_ _
      go_wp2_with fail
      go_roundw
      case rel => exact ⟨k + 1, by omega, by go_num, HU4, HB4⟩
      case measure => simp [intOf]; omega
    · obtain rfl : k = l.length := by omega
      rw [HU1.out] at HT
      go_wp2_with fail
      go_ret2
      exact ⟨_, _, rfl, by omega, hz1, HT.out, HB.out⟩
end Go.Proofs.YtjcinncphffgaaaGreat
namespace Go.Proofs.YtjcinncphffgaaaGreat
open Go.RowKit Go.Maps Go.Sort
def hash16 : ByteArray := ⟨#[48, 49, 50, 51, 52, 53, 54, 55, 56, 57, 97, 98, 99, 100, 101, 102]⟩
theorem all_n (n sb b : Nat) (T : List En) (w : World) (hS : SetAt w sb b T) (hn : T.length = n) (h1 : n ≤ 1000) (h0 : 0 < n) :
    Calls Tryz.prog 30 #[.pointer (some ⟨sb, 0, none⟩)] w fun e w' => ∃ A c, e = .returned (.slice A n c) ∧ Sl w' w'.heap.size 11 En.cl A T ∧ Below w.heap.size w w' := by
  subst hn
  refine (all_any sb b T w hS h1 h0).mono ?_
  rintro e w' ⟨A, c, rfl, ho, hb⟩
  exact ⟨A, c, rfl, Sl.of_own (fun _ => rfl) ho, hb⟩
end Go.Proofs.YtjcinncphffgaaaGreat
