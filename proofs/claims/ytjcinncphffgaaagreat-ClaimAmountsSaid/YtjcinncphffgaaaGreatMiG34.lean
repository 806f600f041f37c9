/- utxo.New of outputs that may be, and of others. law11's Locked. -/
import Derived.Outline
import Derived.Deep.RegionHeld3
import Derived.Test.YtjcinncphffgaaaGreatMiG33
import Derived.Test.YtjcinncphffgaaaGreatMiNote
set_option linter.unusedVariables false
set_option linter.unusedSimpArgs false
namespace Go.Proofs.YtjcinncphffgaaaGreat
section
open Go.RowKit Go.Maps Go.Sort
theorem fits_key {o : Ou} (h : fitsB o = true) : o.key.size = 16 := by
 unfold fitsB at h
 split at h
 ·unfold fits2B at h; simp at h; omega
 ·split at h
  ·unfold fits3B at h; simp at h; omega
  ·split at h
   ·unfold fits1B at h; simp at h; omega
   ·cases h
def newU (l : List Ou) : Bool := decide (1 ≤ l.length) && decide (l.length ≤ 64) && l.all fitsB
theorem any_odd (l : List Ou) : (l.any fun o => !fitsB o) = !l.all fitsB := by simp [List.all_eq_not_any_not]
set_option maxRecDepth 100000 in
set_option maxHeartbeats 2000000 in
theorem unew_ok (A : Option Addr) (l : List Ou) (c : Nat) (w : World) (hS : Sl w w.heap.size 9 Ou.cl A l) (hn : newU l = true) (ham : ∀ o ∈ l, o.am < 18446744073709551616) :
  Calls Tryz.prog 29 #[.slice A l.length c] w fun e w' => ∃ sb b, e = .returned (.tuple #[.pointer (some ⟨sb, 0, none⟩), .int .i64 0]) ∧ w.heap.size ≤ sb ∧ w.heap.size ≤ b ∧ SetAt w' sb b (utN (firstB l) l) ∧ Below w.heap.size w w' := by
 unfold newU at hn
 simp only [Bool.and_eq_true, decide_eq_true_eq] at hn
 obtain ⟨⟨h1, h2⟩, h3⟩ := hn
 have hz : ∀ o ∈ l, o.fz := fun o ho => ⟨fits_key (List.all_eq_true.1 h3 o ho), ham o ho⟩
 have HS := Lib.hid hS
 have HC := fun W (hW : Below w.heap.size w W) => Lib.hid (contains_ou A l c (fun o => !fitsB o) W ((hS.below hW).more hW.size) (by omega) (fun W' _ x _ => oddu_any x W'))
 have HFI := fun W (hW : Below w.heap.size w W) => Lib.hid (first_any A l c W ((hS.below hW).more hW.size) h2 hz)
 rw [any_odd, h3] at HC
 have hfs := firstB_size l
 have HUT := fun k hk => Lib.hid (utN_put (firstB l) l k hk)
 have HU0 : Hid (utN (firstB l) (l.take 0) = []) := rfl
 have HU1 : Hid (utN (firstB l) (l.take l.length) = utN (firstB l) l) := Lib.hid (by rw [List.take_length])
 have HUL := fun k => Lib.hid (utN_len (firstB l) (l.take k))
 generalize firstB l = tx at HFI hfs HUT HU0 HU1 HUL ⊢
 have HTX := Lib.hid hfs
 have d1 : decide ((l.length : Int) < 1) = false := decide_eq_false (by omega)
 have d1' : decide (l.length < 1) = false := decide_eq_false (by omega)
 have d2 : decide ((64 : Int) < (l.length : Int)) = false := decide_eq_false (by omega)
 have d2' : decide (64 < l.length) = false := decide_eq_false (by omega)
 have hmm := @run_makeMap Tryz.prog
 clear hS hz h3 ham hfs
 go_enter Tryz.func29, Tryz.ntmps29
 go_wp2_with fail
 refine (HC _ (Below.refl _ _)).out.mono ?_
 rintro e W1 ⟨rfl, hb⟩
 have HB1 := Lib.hid hb
 clear hb HC
 go_wp2_with fail
 have hz1 := HB1.out.size
 have HBA : Hid (Below w.heap.size w ((W1.alloc (.map #[] 0)).alloc (.cells #[.map (some W1.heap.size)] 186))) := Lib.hid ((HB1.out.alloc hz1 _).alloc (by simp; omega) _)
 refine (HFI _ HBA.out).out.mono ?_
 rintro e W2 ⟨rfl, hb⟩
 have HST : Hid (SetAt W2 (W1.heap.size + 1) W1.heap.size []) := Lib.hid (SetAt.bel ⟨Blk.newAt (by simp), (Ut.new W1).bel ((Below.refl _ _).alloc (Nat.le_refl _) _) (by simp)⟩ hb)
 have HB2 := Lib.hid (HBA.out.trans (hb.mono HBA.out.size))
 have hN : W1.heap.size + 1 < W2.heap.size := HST.out.hd.lt
 clear hb HFI HBA HB1
 generalize W1.heap.size = N at HST hN hz1 ⊢
 go_wp2_with fail
 go_loopw [29] (fun i wr => ∃ k : Nat, k ≤ l.length ∧ i = .int .i64 k ∧ Hid (SetAt wr (N + 1) N (utN tx (l.take k))) ∧ Hid (Below w.heap.size w wr)) (fun i _ => l.length - (intOf i).toNat)
 case atStart => exact ⟨0, Nat.zero_le _, rfl, Lib.hid (by rw [HU0.out]; exact HST.out), HB2⟩
 case round =>
  obtain ⟨k, hk, rfl, HT, HB⟩ := hrel
  have hzr := HB.out.size
  by_cases hlt : k < l.length
  ·obtain ⟨ab, off, rfl, hbB, hc⟩ := (HS.out.below HB.out).at_ hlt
   have HPU := HUT k hlt
   have hlen := HUL k
   generalize l[k] = x at hc HPU
   have HCC := Lib.hid hc
   have HLN := hlen
   clear hc HUT HUL hlen
   generalize utN tx (l.take k) = T at HT HPU HLN
   go_upto_region 9 with (first
    | (refine wpList_load_ou rfl (.tmp 32) rfl ab (off + k * 9) (by rfl) x HCC.out ?_)
    | (refine wpList_store_part rfl 81 (.tmp 8) (.tmp 33) rfl wr.heap.size 0 (cs := zOu.cs) (Blk.new _ _ _) x.cs x.cs (by rfl) (by rfl) (Nat.le_refl 9) infoOu9 (oucs_one x) (ouv_over x rfl) ?_; intro X0 hb1 hc1; have HBX := Lib.hid (bel_st' hc1); have HP0 := Lib.hid hb1; clear hb1 hc1))
   have HTX0 := Lib.hid (HT.out.bel HBX.out)
   go_frame
   have hlr := HT.out.ut.lt
   have hlr2 := HT.out.hd.lt
   refine wp_region_held_drew (S := fun W => Hid (Blk W wr.heap.size 81 x.cs ∧ Blk W (N + 1) 186 #[.map (some N)])) (by kernel_rfl) (Lib.hid ⟨HP0.out.drewN 1, HTX0.out.hd.drewN 1⟩) (fun hS => ?_)
   have HB1 : Hid (Below w.heap.size w X0.drew) := Lib.hid ((HB.out.trans (HBX.out.mono hzr)).drew)
   have hzx : wr.heap.size < X0.drew.heap.size := HP0.out.lt
   have HUX : Hid (Ut X0.drew N T) := Lib.hid (HTX0.out.ut.bel (Below.refl X0.heap.size X0).drew HTX0.out.ut.lt)
   refine wpAnyH_genT fun X hX => ?_
   rw [← hX] at HB1 hS hzx HUX
   clear hX HP0 HBX HTX0
   refine wpAnyH_take (i := 0) (v := ?_) rfl (by kernel_rfl) (by kernel_rfl) (by kernel_rfl) (fun _ _ _ h => h) (Or.inl ⟨by rfl, ?_⟩) hS ?_
   rotate_left
   ·(intro w _; go_simp; try with_reducible rfl)
   refine wpAnyH_take (i := 1) (v := ?_) rfl (by kernel_rfl) (by kernel_rfl) (by kernel_rfl) (fun _ _ _ h => h) (Or.inl ⟨by rfl, ?_⟩) hS ?_
   rotate_left
   ·(intro w _; go_simp; try with_reducible rfl)
   refine wpAnyH_take (i := 2) (v := ?_) rfl (by kernel_rfl) (by kernel_rfl) (by kernel_rfl) (fun _ _ _ h => h) (Or.inl ⟨by rfl, ?_⟩) hS ?_
   rotate_left
   ·(intro w _; go_simp; try with_reducible rfl)
   refine wpAnyH_take (i := 3) (v := ?_) rfl (by kernel_rfl) (by kernel_rfl) (by kernel_rfl) (fun _ _ _ h => h) (Or.inl ⟨by rfl, ?_⟩) hS ?_
   rotate_left
   ·(intro w hS'; have hcell := (show World.cell? _ ⟨N + 1, 0, none⟩ = some (.map (some N)) from Blk.cell hS'.out.2 0); go_simp; try with_reducible rfl)
   refine wpAnyH_take (i := 4) (v := ?_) rfl (by kernel_rfl) (by kernel_rfl) (by kernel_rfl) (fun _ _ _ h => h) (Or.inl ⟨by rfl, ?_⟩) hS ?_
   rotate_left
   ·(intro w _; go_simp; try with_reducible rfl)
   refine wpAnyH_take (i := 5) (v := ?_) rfl (by kernel_rfl) (by kernel_rfl) (by kernel_rfl) (fun _ _ _ h => h) (Or.inl ⟨by rfl, ?_⟩) hS ?_
   rotate_left
   ·(intro w _; go_simp; try with_reducible rfl)
   refine wpAnyH_take (i := 6) (v := ?_) rfl (by kernel_rfl) (by kernel_rfl) (by kernel_rfl) (fun _ _ _ h => h) (Or.inl ⟨by rfl, ?_⟩) hS ?_
   rotate_left
   ·(intro w _; go_simp; try with_reducible rfl)
   refine wpAnyH_take (i := 7) (v := .agg x.cs) rfl (by kernel_rfl) (by kernel_rfl) (by kernel_rfl) (fun _ _ _ h => h) (yields_blk (by rfl) 81 (.tmp 8) (by rfl) wr.heap.size 0 9 (t := 81) (cs := x.cs) (fun W h => h.out.1) x.cs (by rfl) (ouv_ext x) Tryz.underlying81 infoOu9 (Nat.le_refl 9)) hS ?_
   obtain ⟨W4, hrun, hu4, hc4⟩ := HUX.out.store ⟨tx, (k : Int), x⟩ ⟨HTX.out, by show (0 : Int) ≤ (k : Int); omega, by show (k : Int) < 256; omega⟩ (by rw [HLN.out, List.length_take]; simp only [maxLen]; omega)
   have hrun' : (Instr.mapUpdate 184 (.map (some N)) (.agg #[.string tx, .int .i64 (k : Int)]) (.agg x.cs)).run Tryz.prog X = .ok () W4 := hrun
   rw [HPU.out] at hu4
   have HU4 : Hid (SetAt W4 (N + 1) N (utN tx (l.take (k + 1)))) := Lib.hid ⟨hS.out.2.ch hc4 (by simp), hu4⟩
   have HB4 : Hid (Below w.heap.size w W4) := Lib.hid (HB1.out.trans (hc4.below HB1.out.size (by simp; omega)))
   have HP4 := Lib.hid (hS.out.1.ch hc4 (by simp; omega))
   clear hrun hu4 hc4
   refine wpAnyH_ready (rs := [8]) (by kernel_rfl) (by simp) (AllReadyH.cons rfl (fun K hK => ?_) AllReadyH.nil)
   go_simp
   refine hK.out _ _ (Lib.hid ⟨HP4.out, HU4.out.hd⟩) (fun _ => ?_)
   clear hK K hS HB1 HP4 hrun' HUX
   refine wpAnyH_done (by kernel_rfl) ?_ _
   go_wp2_with fail
   go_roundw
   case rel => exact ⟨k + 1, by omega, by go_num, HU4, HB4⟩
   case measure => simp [intOf]; omega
  ·obtain rfl : k = l.length := by omega
   rw [HU1.out] at HT
   go_wp2_with fail
   go_ret2
   exact ⟨_, _, rfl, by omega, hz1, HT.out, HB.out⟩
end
section
open Go.RowKit Go.Maps Go.Sort
def wTok : ByteArray := ⟨#[116, 111, 107, 101, 110, 115]⟩
def lkoL (cl gt : ByteArray) (am ex : Nat) : Ou := ⟨2, am, cl, gt, (ex : Int), tokB wTok 5 0, 3, 5, ByteArray.empty⟩
def lkoM (cl gt : ByteArray) (mo ex : Nat) (of_ : ByteArray) : Ou := ⟨3, mo, cl, gt, (ex : Int), ByteArray.empty, 0, 0, of_⟩
def lkoX (cl gt : ByteArray) (am mo ex : Nat) : ByteArray := firstB [lkoL cl gt am ex, lkoM cl gt mo ex ByteArray.empty]
theorem lkoX_of (cl gt : ByteArray) (am mo ex : Nat) (of_ : ByteArray) : firstB [lkoL cl gt am ex, lkoM cl gt mo ex of_] = lkoX cl gt am mo ex := rfl
def lkoT (cl gt : ByteArray) (am mo ex : Nat) : List En := utN (lkoX cl gt am mo ex) [lkoL cl gt am ex, lkoM cl gt mo ex (nameO (lkoX cl gt am mo ex) 0)]
structure LkOk (cl gt : ByteArray) (am mo ex : Nat) : Prop where
 cl : cl.size = 16
 gt : gt.size = 16
 am0 : 0 < am
 am : am < 18446744073709551616
 mo0 : 0 < mo
 mo : mo < 18446744073709551616
 ex0 : 1 ≤ ex
 ex : ex ≤ 4294967295
theorem lk_fits {cl gt : ByteArray} {am mo ex : Nat} (h : LkOk cl gt am mo ex) (of_ : ByteArray) (ho : of_.size = 16) : newU [lkoL cl gt am ex, lkoM cl gt mo ex of_] = true := by
 have ht := tokB_size wTok 5 0
 have a1 := h.am0
 have a2 := h.mo0
 have a3 := h.ex0
 have a4 := h.ex
 have z0 : ByteArray.empty.size = 0 := rfl
 have e1 : fitsB (lkoL cl gt am ex) = true := by
  simp [fitsB, lkoL, fits2B, h.cl, h.gt, ht, z0]
  exact ⟨⟨decide_eq_true a1, decide_eq_true (by omega)⟩, decide_eq_true (by omega)⟩
 have e2 : fitsB (lkoM cl gt mo ex of_) = true := by
  simp [fitsB, lkoM, fits3B, h.cl, h.gt, ho, z0]
  exact ⟨⟨decide_eq_true a2, decide_eq_true (by omega)⟩, decide_eq_true (by omega)⟩
 simp [newU, e1, e2]
theorem lkx_size (cl gt : ByteArray) (am mo ex : Nat) : (lkoX cl gt am mo ex).size = 16 := firstB_size _
def hash16 : ByteArray := ⟨#[48, 49, 50, 51, 52, 53, 54, 55, 56, 57, 97, 98, 99, 100, 101, 102]⟩
theorem hash_any (w : World) : Calls Tryz.prog 111 #[] w fun e w' => e = .returned (.string hash16) ∧ w = w' := by
 go_enter Tryz.func111, Tryz.ntmps111
 go_wp2
 go_ret
 exact ⟨rfl, rfl⟩
/-- two outputs in a block -/
theorem sl_two {w : World} {g B : Nat} {cur : Array Value} {x y : Ou} (hb : Blk w g 81 cur) (hB : g < B) (hc : cur.toList.take 18 = x.cl ++ y.cl) : Sl w B 9 Ou.cl (some ⟨g, 0, none⟩) [x, y] := fun _ => ⟨g, 0, rfl, hB, fun i z hz j u hu => by
 have hj : j < 9 := by have := (List.getElem?_eq_some_iff.1 hu).1; exact this
 have key : ∀ q v, q < 18 → (x.cl ++ y.cl)[q]? = some v → w.cell? ⟨g, q, none⟩ = some v := fun q v hq hv => by
  rw [hb.cell, ← Array.getElem?_toList, ← hv, ← hc, List.getElem?_take, if_pos hq]
 match i, hz with
 | 0, hz =>
  injection hz with hz
  subst hz
  have := key j u (by omega) (by rw [List.getElem?_append_left (by exact hj)]; exact hu)
  simpa using this
 | 1, hz =>
  injection hz with hz
  subst hz
  have := key (9 + j) u (by omega) (by rw [List.getElem?_append_right (by show 9 ≤ 9 + j; omega)]; show y.cl[9 + j - 9]? = _; rw [Nat.add_sub_cancel_left]; exact hu)
  simpa using this
 | i + 2, hz => simp at hz⟩
theorem two_set {cur : Array Value} {cl gt : ByteArray} {am mo ex : Nat} {of_ nm : ByteArray} (h : cur.toList.take 18 = (lkoL cl gt am ex).cl ++ (lkoM cl gt mo ex of_).cl) : (cur.setIfInBounds 17 (.string nm)).toList.take 18 = (lkoL cl gt am ex).cl ++ (lkoM cl gt mo ex nm).cl := by
 rw [Array.toList_setIfInBounds, List.take_set, h]
 rfl
theorem own_two {w : World} {base c : Nat} {A : Option Addr} {e : TypeId} {xs : List Value} (h : w.ownsRow base e 9 (.slice A 2 c) 2 xs) : ∃ g cur, A = some ⟨g, 0, none⟩ ∧ base ≤ g ∧ Blk w g e cur ∧ cur.toList.take 18 = xs ∧ 18 ≤ cur.size := by
 rcases h.2 with ⟨h0, h1⟩ | ⟨g, cap, cur, h0, hb, hg, h1, h2, h3, h4⟩
 ·exact absurd h1 (by decide)
 ·injection h0 with h0 _ _
  exact ⟨g, cur, h0, hb, hg, h4, by rw [h3]; omega⟩
theorem all_n (n sb b : Nat) (T : List En) (w : World) (hS : SetAt w sb b T) (hn : T.length = n) (h1 : n ≤ 1000) (h0 : 0 < n) :
  Calls Tryz.prog 30 #[.pointer (some ⟨sb, 0, none⟩)] w fun e w' => ∃ A c, e = .returned (.slice A n c) ∧ Sl w' w'.heap.size 11 En.cl A T ∧ Below w.heap.size w w' := by
 subst hn
 refine (all_any sb b T w hS h1 h0).mono ?_
 rintro e w' ⟨A, c, rfl, ho, hb⟩
 exact ⟨A, c, rfl, Sl.of_own (fun _ => rfl) ho, hb⟩
set_option maxRecDepth 100000 in
set_option maxHeartbeats 2000000 in
theorem locked_any (cl gt : ByteArray) (am mo ex : Nat) (w : World) (h : LkOk cl gt am mo ex) :
  Calls Tryz.prog 37 #[.string cl, .string gt, .int .u64 (am : Nat), .int .u64 (mo : Nat), .int .i64 (ex : Int)] w fun e w' => ∃ sb b A c, e = .returned (.tuple #[.pointer (some ⟨sb, 0, none⟩), .slice A 2 c]) ∧ w.heap.size ≤ sb ∧ w.heap.size ≤ b ∧ SetAt w' sb b (lkoT cl gt am mo ex) ∧ Sl w' w'.heap.size 11 En.cl A (lkoT cl gt am mo ex) ∧ Below w.heap.size w w' := by
 obtain ⟨i0, hi, hz0, hz1, hz2⟩ := info_parts Tryz.infoOut9
 have Hz0 := Lib.hid hz0
 have HPN := fun W => Lib.hid (pnew_any wTok 5 W (by omega) (by omega) (by decide))
 have HLK := Lib.hid h
 have d1 : decide ((0 : Int) < (mo : Int)) = true := decide_eq_true (by have := h.mo0; omega)
 have d1' : decide (0 < mo) = true := decide_eq_true h.mo0
 have hts := tokB_size wTok 5 0
 obtain ⟨tk, htk⟩ : ∃ tk, tk = tokB wTok 5 0 := ⟨_, rfl⟩
 have HTK := Lib.hid htk
 clear hz0 h hts htk
 go_enter Tryz.func37, Tryz.ntmps37
 go_wp2_with fail
 refine (HPN _).out.mono ?_
 rintro e w1 ⟨cb, rfl, hcb, hch, hb⟩
 have HB1 := Lib.hid hb
 have HCH := Lib.hid hch
 clear hb hch HPN
 go_wp2_with fail
 refine (panchor_any cb 5 wTok _ HCH.out).mono ?_
 rintro e w2 ⟨rfl, rfl⟩
 rw [← HTK.out]
 go_wp2_with fail
 refine (hash_any _).mono ?_
 rintro e w2 ⟨rfl, rfl⟩
 go_wp2_with (at_builtin; go_must (refine wpList_append_own _ rfl (.tmp 39) (.tmp 46) _ rfl w1.heap.size 81 i0 _ 9 104 Tryz.underlying22 hi Hz0.out hz1 hz2 rfl (by decide) _ 1 (lkoL cl gt am ex).cl rfl ((own_lit (base := w1.heap.size) (n := 1) (k := 9) (cs := (lkoL cl gt am ex).cs) (by rw [lkoL, ← HTK.out]; exact Blk.new w1 _ _) (Nat.le_refl _) rfl (by decide)).alloc _) ⟨w1.heap.size + 1, 0, none⟩ 1 1 (lkoM cl gt mo ex hash16).cl rfl rfl (World.news_of_block (cs := (lkoM cl gt mo ex hash16).cs) (Blk.newAt (by simp))) (one_all (oucs_one _)) (by decide) (by decide) (by simp; omega) ?_); intro v' w3 hown3 hg3 hnil3)
 obtain ⟨A3, c3, rfl⟩ := own_form hown3
 obtain ⟨g, cur, rfl, hgb, hblk, hcur, hsz⟩ := own_two hown3
 have HG := Lib.hid hblk
 have HCU := Lib.hid hcur
 have hz1 := HB1.out.size
 have HB3 : Hid (Below w.heap.size w w3) := Lib.hid ((((HB1.out.alloc hz1 _).alloc (by simp; omega) _).grown hg3 (by simp; omega) (fun j hj => by have : w1.heap.size = j := Option.some.inj hj; omega)))
 have HGB : Hid (w.heap.size ≤ g) := Lib.hid (by omega)
 have hl2 : (18 : Nat) ≤ cur.size := hsz
 clear hown3 hg3 hnil3 hblk hcur hgb hsz HB1 HCH hi hz1 hz2
 have hams : ∀ of_, ∀ o ∈ [lkoL cl gt am ex, lkoM cl gt mo ex of_], o.am < 18446744073709551616 := by
  intro of_ o ho
  simp only [List.mem_cons, List.not_mem_nil, or_false] at ho
  rcases ho with rfl | rfl
  ·exact HLK.out.am
  ·exact HLK.out.mo
 have HAM := Lib.hid hams
 clear hams
 have HN1 := Lib.hid (unew_ok (some ⟨g, 0, none⟩) [lkoL cl gt am ex, lkoM cl gt mo ex hash16] c3 w3 (sl_two HG.out HG.out.lt HCU.out) (lk_fits HLK.out _ rfl) (HAM.out _))
 rw [lkoX_of] at HN1
 have hl0 : (utN (lkoX cl gt am mo ex) [lkoL cl gt am ex, lkoM cl gt mo ex hash16]).length = 2 := utN_len _ _
 have HT0 : Hid (∀ x, (utN (lkoX cl gt am mo ex) [lkoL cl gt am ex, lkoM cl gt mo ex hash16])[0]? = some x → x.tx = lkoX cl gt am mo ex ∧ x.out = 0) := Lib.hid (fun x hx => by injection hx with hx; subst hx; exact ⟨rfl, rfl⟩)
 generalize utN (lkoX cl gt am mo ex) [lkoL cl gt am ex, lkoM cl gt mo ex hash16] = T0 at HN1 hl0 HT0
 have HL0 := Lib.hid hl0
 clear hl0
 refine HN1.out.mono ?_
 rintro e w4 ⟨sb, b, rfl, hsb, hbb, hset, hb⟩
 have HS4 := Lib.hid hset
 have HB4 := Lib.hid (HB3.out.trans (hb.mono HB3.out.size))
 have HG4 := Lib.hid (HG.out.bel hb)
 clear hset hb HN1 hsb hbb
 go_wp2_with fail
 refine (all_n 2 sb b T0 w4 HS4.out HL0.out (by omega) (by omega)).mono ?_
 rintro e w5 ⟨A5, c5, rfl, _, hb⟩
 have HS5 := Lib.hid (HS4.out.bel hb)
 have HB5 := Lib.hid (HB4.out.trans (hb.mono HB4.out.size))
 have HG5 := Lib.hid (HG4.out.bel hb)
 clear hb HS4 HB4 HG4
 go_wp2_with fail
 refine (all_n 2 sb b T0 w5 HS5.out HL0.out (by omega) (by omega)).mono ?_
 rintro e w6 ⟨A6, c6, rfl, hsl, hb⟩
 have HB6 := Lib.hid (HB5.out.trans (hb.mono HB5.out.size))
 have HG6 := Lib.hid (HG5.out.bel hb)
 clear hb HS5 HB5 HG5
 have hlt0 : 0 < T0.length := by rw [HL0.out]; omega
 obtain ⟨ab, off, rfl, _, hcl⟩ := hsl.at_ hlt0
 obtain ⟨h0a, h0b⟩ := HT0.out _ (List.getElem?_eq_getElem hlt0)
 have p0 : w6.cell? ⟨ab, off, none⟩ = some (.string (lkoX cl gt am mo ex)) := by have := hcl 0 (.string T0[0].tx) rfl; rw [h0a] at this; simpa using this
 have p1 : w6.cell? ⟨ab, off + 1, none⟩ = some (.int .i64 0) := by have := hcl 1 (.int .i64 T0[0].out) rfl; rw [h0b] at this; simpa using this
 clear hsl hcl h0a h0b HT0 HL0
 have HNM := fun W => Lib.hid (cname_gen (lkoX cl gt am mo ex) 0 W (by rw [lkx_size]; omega))
 go_wp2_with fail
 refine (HNM _).out.mono ?_
 rintro e w7 ⟨rfl, hb⟩
 have HB7 := Lib.hid (HB6.out.trans (hb.mono HB6.out.size))
 have HG7 := Lib.hid (HG6.out.bel hb)
 clear hb HNM p0 p1 HB6 HG6 HG HB3
 have hcs : cur[17]? = some (.string hash16) := by
  have := congrArg (fun l => l[17]?) HCU.out
  simp only [List.getElem?_take, Array.getElem?_toList] at this
  rw [if_pos (by omega)] at this
  exact this
 have q17 : w7.cell? ⟨g, 17, none⟩ = some (.string hash16) := (HG7.out.cell 17).trans hcs
 have z17 : w7.frozen? ⟨g, 17, none⟩ = false := HG7.out.frozen 17
 go_wp2_with fail
 obtain ⟨w8, hw8⟩ : ∃ w8, w8 = w7.setCell ⟨g, 17, none⟩ (.string (nameO (lkoX cl gt am mo ex) 0)) := ⟨_, rfl⟩
 have HG8 : Hid (Blk w8 g 81 (cur.setIfInBounds 17 (.string (nameO (lkoX cl gt am mo ex) 0)))) := Lib.hid (by rw [hw8]; exact HG7.out.set_ 17 _)
 have HB8 : Hid (Below w.heap.size w w8) := Lib.hid (by rw [hw8]; exact HB7.out.setCell HGB.out _)
 rw [← hw8]
 clear hw8 q17 z17 hcs HB7 HG7
 have HC8 := Lib.hid (two_set (nm := nameO (lkoX cl gt am mo ex) 0) HCU.out)
 have HN2 := Lib.hid (unew_ok (some ⟨g, 0, none⟩) [lkoL cl gt am ex, lkoM cl gt mo ex (nameO (lkoX cl gt am mo ex) 0)] c3 w8 (sl_two HG8.out HG8.out.lt HC8.out) (lk_fits HLK.out _ (nameO_size _ _)) (HAM.out _))
 rw [lkoX_of] at HN2
 have HTT : Hid (lkoT cl gt am mo ex = utN (lkoX cl gt am mo ex) [lkoL cl gt am ex, lkoM cl gt mo ex (nameO (lkoX cl gt am mo ex) 0)]) := rfl
 have hl1 : (utN (lkoX cl gt am mo ex) [lkoL cl gt am ex, lkoM cl gt mo ex (nameO (lkoX cl gt am mo ex) 0)]).length = 2 := utN_len _ _
 generalize utN (lkoX cl gt am mo ex) [lkoL cl gt am ex, lkoM cl gt mo ex (nameO (lkoX cl gt am mo ex) 0)] = T1 at HN2 HTT hl1
 have HL1 := Lib.hid hl1
 clear hl1
 refine HN2.out.mono ?_
 rintro e w9 ⟨sb2, b2, rfl, hsb, hbb, hset, hb⟩
 have HS9 := Lib.hid hset
 have HZ2 : Hid (w.heap.size ≤ sb2 ∧ w.heap.size ≤ b2) := Lib.hid ⟨Nat.le_trans HB8.out.size hsb, Nat.le_trans HB8.out.size hbb⟩
 have HB9 := Lib.hid (HB8.out.trans (hb.mono HB8.out.size))
 clear hset hb HN2 hsb hbb HG8 HB8 HC8
 go_wp2_with fail
 refine (all_n 2 sb2 b2 T1 w9 HS9.out HL1.out (by omega) (by omega)).mono ?_
 rintro e w10 ⟨A10, c10, rfl, _, hb⟩
 have HS10 := Lib.hid (HS9.out.bel hb)
 have HB10 := Lib.hid (HB9.out.trans (hb.mono HB9.out.size))
 clear hb HS9 HB9
 go_wp2_with fail
 refine (all_n 2 sb2 b2 T1 w10 HS10.out HL1.out (by omega) (by omega)).mono ?_
 rintro e w11 ⟨A11, c11, rfl, hsl, hb⟩
 have HSL := Lib.hid hsl
 have HS11 := Lib.hid (HS10.out.bel hb)
 have HB11 := Lib.hid (HB10.out.trans (hb.mono HB10.out.size))
 clear hb HS10 HB10 hsl
 go_wp2_with fail
 go_ret2
 exact ⟨sb2, b2, A11, c11, rfl, HZ2.out.1, HZ2.out.2, by rw [HTT.out]; exact HS11.out, by rw [HTT.out]; exact HSL.out, HB11.out⟩
end
end Go.Proofs.YtjcinncphffgaaaGreat
