/- sdk: Back where the key is used up. -/
import Derived.Outline
import Derived.Deep.RegionHeld3
import Derived.Laws.AppendOwnNone
import Derived.Test.YtmbceheafjadhaaGreatMgSbA
import Derived.Test.YtmbceheafjadhaaGreatMgSgB
set_option linter.unusedVariables false
set_option linter.unusedSimpArgs false
namespace Go.Proofs.YtmbceheafjadhaaGreat
open Go.RowKit Go.Maps
variable {w : World} {cb kb ctr pb mb h n i out am tk : Nat} {seed tx : ByteArray} {l : Lk} {D : DU}
set_option maxRecDepth 100000 in
set_option maxHeartbeats 2000000 in
theorem sback_used (k : CIn w cb kb ctr pb mb seed h n i tx out l am tk D) (ho : out = 0) (hh : h ≤ 4) (hi : 2 ^ h ≤ i) (hi2 : i ≤ 1000) (h1 : tx.size = 16) (h3 : 10 < l.am) (h4 : l.am < 18446744073709551616) (h5 : (rootB seed h).size = 16) :
    Calls Tryz.prog 72 #[.pointer (some ⟨cb, 0, none⟩)] w fun e w' => e = .returned (.tuple #[.agg zTx, .int .i64 14]) ∧ Below w.heap.size w w' := by
  have HSG : ∀ W gi ci go co, CIn W cb kb ctr pb mb seed h n i tx out l am tk D → Ins1 W gi tx out 3 ByteArray.empty → Outs1 W go (l.am - 10) (rootB seed h) → Hid (Calls Tryz.prog 156 #[.pointer (some ⟨cb, 0, none⟩), .agg (txC gi ci go co)] W fun e w' => e = .returned (.tuple #[.agg zTx, .int .i64 14]) ∧ Below W.heap.size W w') := fun W gi ci go co k hI hO => Lib.hid (by subst ho; exact ssign_used (backT gi ci go co tx (l.am - 10) (rootB seed h) ByteArray.empty) k (backt_mem hI hO) (by show (1 : Nat) ≤ 1000; decide) (by show (1 : Nat) ≤ 1000; decide) (by show (0 : Nat) ≤ 1000; decide) (fun o ho => by rw [List.mem_singleton.1 ho]; exact ⟨by show l.am - 10 < _; omega, by show (0 : Nat) < _; decide⟩) (sb_right h1 h3 h5 (by show (0 : Nat) ≤ 400; decide)) hh hi hi2)
  have HBK := fun W lb hE => Lib.hid (cback_one lb 1 tx out l (rootB seed h) W hE h1 (by omega) h3 h4 h5)
  have HRT := fun W k => Lib.hid (sroot_any (w := W) (cb := cb) (h := h) (n := n) (i := i) (out := out) (am := am) (tk := tk) (seed := seed) (tx := tx) (l := l) (D := D) k)
  have HK := Lib.hid k
  have hlt := k.1.lt
  have c22 : ∀ o, (w.alloc o).cell? ⟨cb, 22, none⟩ = some (.bool true) := fun o => (k.1.alloc o).cell 22
  clear k hi hi2 hh ho
  go_enter Tryz.func72, Tryz.ntmps72
  go_wp2_with fail
  refine wp_gen fun W1 hW1 => ?_
  have HZ : Hid (Blk W1 w.heap.size 70 zTx) := by rw [hW1]; exact Blk.newAt rfl
  have HB : Hid (Below w.heap.size w W1) := by rw [hW1]; exact (Below.refl _ _).alloc (Nat.le_refl _) _
  have HK := Lib.hid (HK.out.bel HB.out)
  obtain ⟨ie, hie⟩ : ∃ i, Tryz.prog.info? 59 = some i := by
    cases hq : Tryz.prog.info? 59 with
    | none => have := infoEnt; rw [hq] at this; cases this
    | some i => exact ⟨i, rfl⟩
  clear hW1 c22
  refine wp_region_held_drew (S := fun W => Hid (Blk W cb 252 (clC kb pb mb tx out l am tk))) (by kernel_rfl) (Lib.hid (HK.out.1.drewN 1)) (fun hS => ?_)
  refine wpAnyH_take (i := 0) (v := ?_) rfl (by kernel_rfl) (by kernel_rfl) (by kernel_rfl) (fun _ _ _ h => h) (Or.inl ⟨by rfl, ?_⟩) hS ?_
  rotate_left
  · (intro w _; go_simp; try with_reducible rfl)
  refine wpAnyH_take (i := 1) (v := ?_) rfl (by kernel_rfl) (by kernel_rfl) (by kernel_rfl) (fun _ _ _ h => h) (Or.inl ⟨by rfl, ?_⟩) hS ?_
  rotate_left
  · (intro w _; go_simp; try with_reducible rfl)
  refine wpAnyH_take (i := 2) (v := ?_) rfl (by kernel_rfl) (by kernel_rfl) (by kernel_rfl) (fun _ _ _ h => h) (Or.inl ⟨by rfl, ?_⟩) hS ?_
  rotate_left
  · (intro w _; go_simp; try with_reducible rfl)
  refine wpAnyH_take (i := 3) (v := ?_) rfl (by kernel_rfl) (by kernel_rfl) (by kernel_rfl) (fun _ _ _ h => h) (Or.inl ⟨by rfl, ?_⟩) hS ?_
  rotate_left
  · (intro w _; go_simp; try with_reducible rfl)
  refine wpAnyH_take (i := 4) (v := .agg #[.string tx, .int .i64 (out : Nat), .int .i64 2, .int .u64 (l.am : Nat), .string l.key, .string l.gate, .int .i64 (l.ex : Nat), .string l.anchor, .int .u64 (l.unit : Nat), .int .i64 (l.tok : Nat), .string ByteArray.empty]) rfl (by kernel_rfl) (by kernel_rfl) (by kernel_rfl) (fun _ _ _ h => h) (yields_blk (by rfl) 59 (.tmp 16) (by rfl) cb 2 11 (t := 252) (cs := clC kb pb mb tx out l am tk) (fun W h => h.out) #[.string tx, .int .i64 (out : Nat), .int .i64 2, .int .u64 (l.am : Nat), .string l.key, .string l.gate, .int .i64 (l.ex : Nat), .string l.anchor, .int .u64 (l.unit : Nat), .int .i64 (l.tok : Nat), .string ByteArray.empty] (by rfl) (by rfl) Tryz.underlying59 infoEnt (by show 13 ≤ 26; omega)) hS ?_
  refine wpAnyH_take (i := 6) (v := ?_) rfl (by kernel_rfl) (by kernel_rfl) (by kernel_rfl) (fun _ _ _ h => h) (Or.inl ⟨by rfl, ?_⟩) hS ?_
  rotate_left
  · (intro w _; go_simp; try with_reducible rfl)
  refine wpAnyH_take (i := 7) (v := ?_) rfl (by kernel_rfl) (by kernel_rfl) (by kernel_rfl) (fun _ _ _ h => h) (Or.inl ⟨by rfl, ?_⟩) hS ?_
  rotate_left
  · (intro w _; go_simp; try with_reducible rfl)
  refine wpAnyH_take (i := 8) (v := ?_) rfl (by kernel_rfl) (by kernel_rfl) (by kernel_rfl) (fun _ _ _ h => h) (Or.inl ⟨by rfl, ?_⟩) hS ?_
  rotate_left
  · (intro w _; go_simp; try with_reducible rfl)
  refine wpAnyH_take (i := 9) (v := ?_) rfl (by kernel_rfl) (by kernel_rfl) (by kernel_rfl) (fun _ _ _ h => h) (Or.inl ⟨by rfl, ?_⟩) hS ?_
  rotate_left
  · (intro w _; go_simp; try with_reducible rfl)
  refine wpAnyH_take (i := 10) (v := ?_) rfl (by kernel_rfl) (by kernel_rfl) (by kernel_rfl) (fun _ _ _ h => h) (Or.inl ⟨by rfl, ?_⟩) hS ?_
  rotate_left
  · (intro w hS'; have hcell := (show World.cell? _ ⟨_, 13, none⟩ = some (.slice none 0 0) from Blk.cell hS'.out 13); go_simp; try with_reducible rfl)
  refine wpAnyH_take (i := 12) (v := ?_) rfl (by kernel_rfl) (by kernel_rfl) (by kernel_rfl) (fun _ _ _ h => h) (Or.inl ⟨by rfl, ?_⟩) hS ?_
  rotate_left
  · (intro w _; go_simp; try with_reducible rfl)
  refine wpAnyH_gen fun V hV => ?_
  have hb : Below W1.heap.size W1 V := by rw [hV]; exact (Below.refl _ _).drew
  have HZ := Lib.hid (HZ.out.bel hb)
  have HK := Lib.hid (HK.out.bel hb)
  have HB := Lib.hid (HB.out.trans (hb.mono HB.out.size))
  try have HT := Lib.hid (HT.out.bel hb)
  try have HE := Lib.hid (HE.out.bel hb)
  try have HI := Lib.hid (HI.out.bel hb)
  try have HO := Lib.hid (HO.out.bel hb)
  clear hV hb
  refine wpAnyH_ready (rs := [5, 18]) (by kernel_rfl) (by simp) (AllReadyH.cons rfl (fun K hK => ?_) (AllReadyH.cons rfl (fun K hK => ?_) AllReadyH.nil))
  · go_simp
    generalize hlb : V.heap.size = lb
    refine hK.out _ _ (Lib.hid (HK.out.1.alloc _)) (fun _ => ?_)
    clear hK K
    refine wpAnyH_gen fun V hV => ?_
    have hb := bel_alloc hV
    have HZ := Lib.hid (HZ.out.bel hb)
    have HK := Lib.hid (HK.out.bel hb)
    have HB := Lib.hid (HB.out.trans (hb.mono HB.out.size))
    try have HT := Lib.hid (HT.out.bel hb)
    try have HE := Lib.hid (HE.out.bel hb)
    try have HI := Lib.hid (HI.out.bel hb)
    try have HO := Lib.hid (HO.out.bel hb)
    have HE : Hid (Blk V lb 59 (entC tx out l)) := blk_alloc hV hlb
    clear hV hb hlb
    refine wpAnyH_ready (rs := [11, 18]) (by kernel_rfl) (by simp) (AllReadyH.cons rfl (fun K hK => ?_) (AllReadyH.cons rfl (fun K hK => ?_) AllReadyH.nil))
    · have hap := run_append_owned_none (P := Tryz.prog) (w := V) lb 51 51 59 ie 11 Tryz.underlying51 hie (.slice (some ⟨lb, 0, none⟩) 1 1) 1 (entC tx out l).toList (own_lit HE.out (Nat.le_refl _) (by rfl) (by unfold maxLen; omega))
      go_simp
      refine hK.out _ _ (Lib.hid (HK.out.1)) (fun _ => ?_)
      clear hK K hap
      refine wpAnyH_ready (rs := [13, 18]) (by kernel_rfl) (by simp) (AllReadyH.cons rfl (fun K hK => ?_) (AllReadyH.cons rfl (fun K hK => ?_) AllReadyH.nil))
      · go_simp
        refine (HRT _ HK.out.at_).out.mono ?_
        rintro e V2 ⟨rfl, hq⟩
        rw [hq]
        clear hq V2
        go_simp
        refine hK.out _ _ (Lib.hid (HK.out.1)) (fun _ => ?_)
        clear hK K
        refine wpAnyH_ready (rs := [14, 18]) (by kernel_rfl) (by simp) (AllReadyH.cons rfl (fun K hK => ?_) (AllReadyH.cons rfl (fun K hK => ?_) AllReadyH.nil))
        · go_simp
          refine (HBK _ lb ⟨_, HE.out, by rfl, Nat.le_refl 11⟩).out.mono ?_
          rintro e V ⟨gi, ci, go, co, rfl, g1, g2, hi3, ho3, hb⟩
          have HZ := Lib.hid (HZ.out.bel hb)
          have HK := Lib.hid (HK.out.bel hb)
          have HB := Lib.hid (HB.out.trans (hb.mono HB.out.size))
          try have HT := Lib.hid (HT.out.bel hb)
          try have HE := Lib.hid (HE.out.bel hb)
          try have HI := Lib.hid (HI.out.bel hb)
          try have HO := Lib.hid (HO.out.bel hb)
          have HI := Lib.hid hi3
          have HO := Lib.hid ho3
          clear hb hi3 ho3
          go_simp
          refine hK.out _ _ (Lib.hid (HK.out.1)) (fun hS => ?_)
          clear hK K
          refine wpAnyH_take (i := 15) (v := ?_) rfl (by kernel_rfl) (by kernel_rfl) (by kernel_rfl) (fun _ _ _ h => h) (Or.inl ⟨by rfl, ?_⟩) hS ?_
          rotate_left
          · (intro w _; go_simp; try with_reducible rfl)
          refine wpAnyH_take (i := 16) (v := ?_) rfl (by kernel_rfl) (by kernel_rfl) (by kernel_rfl) (fun _ _ _ h => h) (Or.inl ⟨by rfl, ?_⟩) hS ?_
          rotate_left
          · (intro w _; go_simp; try with_reducible rfl)
          refine wpAnyH_take (i := 17) (v := ?_) rfl (by kernel_rfl) (by kernel_rfl) (by kernel_rfl) (fun _ _ _ h => h) (Or.inl ⟨by rfl, ?_⟩) hS ?_
          rotate_left
          · (intro w _; go_simp; try with_reducible rfl)
          refine wpAnyH_ready (rs := [18]) (by kernel_rfl) (by simp) (AllReadyH.cons rfl (fun K hK => ?_) AllReadyH.nil)
          go_simp
          have htb : w.heap.size < V.heap.size := HZ.out.lt
          generalize hlb : V.heap.size = tb at htb ⊢
          refine hK.out _ _ (Lib.hid (HK.out.1.alloc _)) (fun _ => ?_)
          clear hK K
          refine wpAnyH_gen fun V hV => ?_
          have hb := bel_alloc hV
          have HZ := Lib.hid (HZ.out.bel hb)
          have HK := Lib.hid (HK.out.bel hb)
          have HB := Lib.hid (HB.out.trans (hb.mono HB.out.size))
          try have HT := Lib.hid (HT.out.bel hb)
          try have HE := Lib.hid (HE.out.bel hb)
          try have HI := Lib.hid (HI.out.bel hb)
          try have HO := Lib.hid (HO.out.bel hb)
          have HT : Hid (Blk V tb 70 zTx) := blk_alloc hV hlb
          clear hV hb hlb
          refine wpAnyH_ready (rs := [19]) (by kernel_rfl) (by simp) (AllReadyH.cons rfl (fun K hK => ?_) AllReadyH.nil)
          refine step_store_part (by rfl) 70 (.tmp 4) (.tmp 28) (by rfl) tb 0 HT.out (txC gi ci go co) (txC gi ci go co) (by rfl) (by rfl) (Nat.le_refl 6) infoTx (txC_one _ _ _ _) (txC_over _ _ _ _) ?_
          intro V5 hb5 hc5
          have HT5 := Lib.hid hb5
          have HK5 := Lib.hid (HK.out.chO hc5 rfl HT.out (by decide) (by decide) (by decide) (by decide) (by decide))
          have HZ5 : Hid (Blk V5 w.heap.size 70 zTx) := Blk.ch HZ.out hc5 (by simp; omega)
          have HI5 : Hid (Ins1 V5 gi tx out 3 ByteArray.empty) := by obtain ⟨cu', j1, j2⟩ := HI.out; exact ⟨cu', Blk.ch j1 hc5 (by have := j1.ne_ HT.out (by decide); simpa using this), j2⟩
          have HO5 : Hid (Outs1 V5 go (l.am - 10) (rootB seed h)) := by obtain ⟨cu', j1, j2⟩ := HO.out; exact ⟨cu', Blk.ch j1 hc5 (by have := j1.ne_ HT.out (by decide); simpa using this), j2⟩
          have HB5 : Hid (Below w.heap.size w V5) := HB.out.trans (hc5.below HB.out.size (by simp; omega))
          clear hb5 hc5
          refine hK.out _ _ (Lib.hid HK5.out.1) (fun hS5 => ?_)
          clear hK K
          refine wpAnyH_ready (rs := [20]) (by kernel_rfl) (by simp) (AllReadyH.cons rfl (fun K hK => ?_) AllReadyH.nil)
          go_simp
          refine hK.out _ _ hS5 (fun _ => ?_)
          clear hK K
          refine wpAnyH_done (by kernel_rfl) ?_ _
          go_wp2_with (first | (refine wpList_load_blk rfl 70 (.tmp 4) rfl tb 0 6 HT5.out (txC gi ci go co) (by rfl) (by rfl) Tryz.underlying70 infoTx (Nat.le_refl 6) ?_))
          refine (HSG _ gi ci go co HK5.out HI5.out HO5.out).out.mono ?_
          rintro e w6 ⟨rfl, hb6⟩
          have HZ6 := Lib.hid (HZ5.out.bel hb6)
          have HB6 := Lib.hid (HB5.out.trans (hb6.mono HB5.out.size))
          clear hb6
          go_wp2_with (first
            | (refine wpList_store_part rfl 70 (.tmp 2) (.tmp 37) rfl w.heap.size 0 HZ6.out zTx zTx (by rfl) (by rfl) (Nat.le_refl 6) infoTx zTx_one zTx_over ?_; intro W8 hb8 hc8; have HZ8 := Lib.hid hb8; have HC8 := Lib.hid hc8; clear hb8 hc8))
          exact bodyPost_ret (results_cell_row2 rfl _ HZ8.out rfl Tryz.underlying70 infoTx) rfl ⟨rfl, HB6.out.trans (HC8.out.below HB6.out.size (by simp))⟩
        · go_simp
          have htb : w.heap.size < V.heap.size := HZ.out.lt
          generalize hlb : V.heap.size = tb at htb ⊢
          refine hK.out _ _ (Lib.hid (HK.out.1.alloc _)) (fun _ => ?_)
          clear hK K
          refine wpAnyH_gen fun V hV => ?_
          have hb := bel_alloc hV
          have HZ := Lib.hid (HZ.out.bel hb)
          have HK := Lib.hid (HK.out.bel hb)
          have HB := Lib.hid (HB.out.trans (hb.mono HB.out.size))
          try have HT := Lib.hid (HT.out.bel hb)
          try have HE := Lib.hid (HE.out.bel hb)
          try have HI := Lib.hid (HI.out.bel hb)
          try have HO := Lib.hid (HO.out.bel hb)
          have HT : Hid (Blk V tb 70 zTx) := blk_alloc hV hlb
          clear hV hb hlb
          refine wpAnyH_ready (rs := [14]) (by kernel_rfl) (by simp) (AllReadyH.cons rfl (fun K hK => ?_) AllReadyH.nil)
          go_simp
          refine (HBK _ lb ⟨_, HE.out, by rfl, Nat.le_refl 11⟩).out.mono ?_
          rintro e V ⟨gi, ci, go, co, rfl, g1, g2, hi3, ho3, hb⟩
          have HZ := Lib.hid (HZ.out.bel hb)
          have HK := Lib.hid (HK.out.bel hb)
          have HB := Lib.hid (HB.out.trans (hb.mono HB.out.size))
          try have HT := Lib.hid (HT.out.bel hb)
          try have HE := Lib.hid (HE.out.bel hb)
          try have HI := Lib.hid (HI.out.bel hb)
          try have HO := Lib.hid (HO.out.bel hb)
          have HI := Lib.hid hi3
          have HO := Lib.hid ho3
          clear hb hi3 ho3
          go_simp
          refine hK.out _ _ (Lib.hid (HK.out.1)) (fun hS => ?_)
          clear hK K
          refine wpAnyH_take (i := 15) (v := ?_) rfl (by kernel_rfl) (by kernel_rfl) (by kernel_rfl) (fun _ _ _ h => h) (Or.inl ⟨by rfl, ?_⟩) hS ?_
          rotate_left
          · (intro w _; go_simp; try with_reducible rfl)
          refine wpAnyH_take (i := 16) (v := ?_) rfl (by kernel_rfl) (by kernel_rfl) (by kernel_rfl) (fun _ _ _ h => h) (Or.inl ⟨by rfl, ?_⟩) hS ?_
          rotate_left
          · (intro w _; go_simp; try with_reducible rfl)
          refine wpAnyH_take (i := 17) (v := ?_) rfl (by kernel_rfl) (by kernel_rfl) (by kernel_rfl) (fun _ _ _ h => h) (Or.inl ⟨by rfl, ?_⟩) hS ?_
          rotate_left
          · (intro w _; go_simp; try with_reducible rfl)
          refine wpAnyH_ready (rs := [19]) (by kernel_rfl) (by simp) (AllReadyH.cons rfl (fun K hK => ?_) AllReadyH.nil)
          refine step_store_part (by rfl) 70 (.tmp 4) (.tmp 28) (by rfl) tb 0 HT.out (txC gi ci go co) (txC gi ci go co) (by rfl) (by rfl) (Nat.le_refl 6) infoTx (txC_one _ _ _ _) (txC_over _ _ _ _) ?_
          intro V5 hb5 hc5
          have HT5 := Lib.hid hb5
          have HK5 := Lib.hid (HK.out.chO hc5 rfl HT.out (by decide) (by decide) (by decide) (by decide) (by decide))
          have HZ5 : Hid (Blk V5 w.heap.size 70 zTx) := Blk.ch HZ.out hc5 (by simp; omega)
          have HI5 : Hid (Ins1 V5 gi tx out 3 ByteArray.empty) := by obtain ⟨cu', j1, j2⟩ := HI.out; exact ⟨cu', Blk.ch j1 hc5 (by have := j1.ne_ HT.out (by decide); simpa using this), j2⟩
          have HO5 : Hid (Outs1 V5 go (l.am - 10) (rootB seed h)) := by obtain ⟨cu', j1, j2⟩ := HO.out; exact ⟨cu', Blk.ch j1 hc5 (by have := j1.ne_ HT.out (by decide); simpa using this), j2⟩
          have HB5 : Hid (Below w.heap.size w V5) := HB.out.trans (hc5.below HB.out.size (by simp; omega))
          clear hb5 hc5
          refine hK.out _ _ (Lib.hid HK5.out.1) (fun hS5 => ?_)
          clear hK K
          refine wpAnyH_ready (rs := [20]) (by kernel_rfl) (by simp) (AllReadyH.cons rfl (fun K hK => ?_) AllReadyH.nil)
          go_simp
          refine hK.out _ _ hS5 (fun _ => ?_)
          clear hK K
          refine wpAnyH_done (by kernel_rfl) ?_ _
          go_wp2_with (first | (refine wpList_load_blk rfl 70 (.tmp 4) rfl tb 0 6 HT5.out (txC gi ci go co) (by rfl) (by rfl) Tryz.underlying70 infoTx (Nat.le_refl 6) ?_))
          refine (HSG _ gi ci go co HK5.out HI5.out HO5.out).out.mono ?_
          rintro e w6 ⟨rfl, hb6⟩
          have HZ6 := Lib.hid (HZ5.out.bel hb6)
          have HB6 := Lib.hid (HB5.out.trans (hb6.mono HB5.out.size))
          clear hb6
          go_wp2_with (first
            | (refine wpList_store_part rfl 70 (.tmp 2) (.tmp 37) rfl w.heap.size 0 HZ6.out zTx zTx (by rfl) (by rfl) (Nat.le_refl 6) infoTx zTx_one zTx_over ?_; intro W8 hb8 hc8; have HZ8 := Lib.hid hb8; have HC8 := Lib.hid hc8; clear hb8 hc8))
          exact bodyPost_ret (results_cell_row2 rfl _ HZ8.out rfl Tryz.underlying70 infoTx) rfl ⟨rfl, HB6.out.trans (HC8.out.below HB6.out.size (by simp))⟩
      · go_simp
        have htb : w.heap.size < V.heap.size := HZ.out.lt
        generalize hlb : V.heap.size = tb at htb ⊢
        refine hK.out _ _ (Lib.hid (HK.out.1.alloc _)) (fun _ => ?_)
        clear hK K
        refine wpAnyH_gen fun V hV => ?_
        have hb := bel_alloc hV
        have HZ := Lib.hid (HZ.out.bel hb)
        have HK := Lib.hid (HK.out.bel hb)
        have HB := Lib.hid (HB.out.trans (hb.mono HB.out.size))
        try have HT := Lib.hid (HT.out.bel hb)
        try have HE := Lib.hid (HE.out.bel hb)
        try have HI := Lib.hid (HI.out.bel hb)
        try have HO := Lib.hid (HO.out.bel hb)
        have HT : Hid (Blk V tb 70 zTx) := blk_alloc hV hlb
        clear hV hb hlb
        refine wpAnyH_ready (rs := [13]) (by kernel_rfl) (by simp) (AllReadyH.cons rfl (fun K hK => ?_) AllReadyH.nil)
        go_simp
        refine (HRT _ HK.out.at_).out.mono ?_
        rintro e V2 ⟨rfl, hq⟩
        rw [hq]
        clear hq V2
        go_simp
        refine hK.out _ _ (Lib.hid (HK.out.1)) (fun _ => ?_)
        clear hK K
        refine wpAnyH_ready (rs := [14]) (by kernel_rfl) (by simp) (AllReadyH.cons rfl (fun K hK => ?_) AllReadyH.nil)
        go_simp
        refine (HBK _ lb ⟨_, HE.out, by rfl, Nat.le_refl 11⟩).out.mono ?_
        rintro e V ⟨gi, ci, go, co, rfl, g1, g2, hi3, ho3, hb⟩
        have HZ := Lib.hid (HZ.out.bel hb)
        have HK := Lib.hid (HK.out.bel hb)
        have HB := Lib.hid (HB.out.trans (hb.mono HB.out.size))
        try have HT := Lib.hid (HT.out.bel hb)
        try have HE := Lib.hid (HE.out.bel hb)
        try have HI := Lib.hid (HI.out.bel hb)
        try have HO := Lib.hid (HO.out.bel hb)
        have HI := Lib.hid hi3
        have HO := Lib.hid ho3
        clear hb hi3 ho3
        go_simp
        refine hK.out _ _ (Lib.hid (HK.out.1)) (fun hS => ?_)
        clear hK K
        refine wpAnyH_take (i := 15) (v := ?_) rfl (by kernel_rfl) (by kernel_rfl) (by kernel_rfl) (fun _ _ _ h => h) (Or.inl ⟨by rfl, ?_⟩) hS ?_
        rotate_left
        · (intro w _; go_simp; try with_reducible rfl)
        refine wpAnyH_take (i := 16) (v := ?_) rfl (by kernel_rfl) (by kernel_rfl) (by kernel_rfl) (fun _ _ _ h => h) (Or.inl ⟨by rfl, ?_⟩) hS ?_
        rotate_left
        · (intro w _; go_simp; try with_reducible rfl)
        refine wpAnyH_take (i := 17) (v := ?_) rfl (by kernel_rfl) (by kernel_rfl) (by kernel_rfl) (fun _ _ _ h => h) (Or.inl ⟨by rfl, ?_⟩) hS ?_
        rotate_left
        · (intro w _; go_simp; try with_reducible rfl)
        refine wpAnyH_ready (rs := [19]) (by kernel_rfl) (by simp) (AllReadyH.cons rfl (fun K hK => ?_) AllReadyH.nil)
        refine step_store_part (by rfl) 70 (.tmp 4) (.tmp 28) (by rfl) tb 0 HT.out (txC gi ci go co) (txC gi ci go co) (by rfl) (by rfl) (Nat.le_refl 6) infoTx (txC_one _ _ _ _) (txC_over _ _ _ _) ?_
        intro V5 hb5 hc5
        have HT5 := Lib.hid hb5
        have HK5 := Lib.hid (HK.out.chO hc5 rfl HT.out (by decide) (by decide) (by decide) (by decide) (by decide))
        have HZ5 : Hid (Blk V5 w.heap.size 70 zTx) := Blk.ch HZ.out hc5 (by simp; omega)
        have HI5 : Hid (Ins1 V5 gi tx out 3 ByteArray.empty) := by obtain ⟨cu', j1, j2⟩ := HI.out; exact ⟨cu', Blk.ch j1 hc5 (by have := j1.ne_ HT.out (by decide); simpa using this), j2⟩
        have HO5 : Hid (Outs1 V5 go (l.am - 10) (rootB seed h)) := by obtain ⟨cu', j1, j2⟩ := HO.out; exact ⟨cu', Blk.ch j1 hc5 (by have := j1.ne_ HT.out (by decide); simpa using this), j2⟩
        have HB5 : Hid (Below w.heap.size w V5) := HB.out.trans (hc5.below HB.out.size (by simp; omega))
        clear hb5 hc5
        refine hK.out _ _ (Lib.hid HK5.out.1) (fun hS5 => ?_)
        clear hK K
        refine wpAnyH_ready (rs := [20]) (by kernel_rfl) (by simp) (AllReadyH.cons rfl (fun K hK => ?_) AllReadyH.nil)
        go_simp
        refine hK.out _ _ hS5 (fun _ => ?_)
        clear hK K
        refine wpAnyH_done (by kernel_rfl) ?_ _
        go_wp2_with (first | (refine wpList_load_blk rfl 70 (.tmp 4) rfl tb 0 6 HT5.out (txC gi ci go co) (by rfl) (by rfl) Tryz.underlying70 infoTx (Nat.le_refl 6) ?_))
        refine (HSG _ gi ci go co HK5.out HI5.out HO5.out).out.mono ?_
        rintro e w6 ⟨rfl, hb6⟩
        have HZ6 := Lib.hid (HZ5.out.bel hb6)
        have HB6 := Lib.hid (HB5.out.trans (hb6.mono HB5.out.size))
        clear hb6
        go_wp2_with (first
          | (refine wpList_store_part rfl 70 (.tmp 2) (.tmp 37) rfl w.heap.size 0 HZ6.out zTx zTx (by rfl) (by rfl) (Nat.le_refl 6) infoTx zTx_one zTx_over ?_; intro W8 hb8 hc8; have HZ8 := Lib.hid hb8; have HC8 := Lib.hid hc8; clear hb8 hc8))
        exact bodyPost_ret (results_cell_row2 rfl _ HZ8.out rfl Tryz.underlying70 infoTx) rfl ⟨rfl, HB6.out.trans (HC8.out.below HB6.out.size (by simp))⟩
    · go_simp
      have htb : w.heap.size < V.heap.size := HZ.out.lt
      generalize hlb : V.heap.size = tb at htb ⊢
      refine hK.out _ _ (Lib.hid (HK.out.1.alloc _)) (fun _ => ?_)
      clear hK K
      refine wpAnyH_gen fun V hV => ?_
      have hb := bel_alloc hV
      have HZ := Lib.hid (HZ.out.bel hb)
      have HK := Lib.hid (HK.out.bel hb)
      have HB := Lib.hid (HB.out.trans (hb.mono HB.out.size))
      try have HT := Lib.hid (HT.out.bel hb)
      try have HE := Lib.hid (HE.out.bel hb)
      try have HI := Lib.hid (HI.out.bel hb)
      try have HO := Lib.hid (HO.out.bel hb)
      have HT : Hid (Blk V tb 70 zTx) := blk_alloc hV hlb
      clear hV hb hlb
      refine wpAnyH_ready (rs := [11]) (by kernel_rfl) (by simp) (AllReadyH.cons rfl (fun K hK => ?_) AllReadyH.nil)
      have hap := run_append_owned_none (P := Tryz.prog) (w := V) lb 51 51 59 ie 11 Tryz.underlying51 hie (.slice (some ⟨lb, 0, none⟩) 1 1) 1 (entC tx out l).toList (own_lit HE.out (Nat.le_refl _) (by rfl) (by unfold maxLen; omega))
      go_simp
      refine hK.out _ _ (Lib.hid (HK.out.1)) (fun _ => ?_)
      clear hK K hap
      refine wpAnyH_ready (rs := [13]) (by kernel_rfl) (by simp) (AllReadyH.cons rfl (fun K hK => ?_) AllReadyH.nil)
      go_simp
      refine (HRT _ HK.out.at_).out.mono ?_
      rintro e V2 ⟨rfl, hq⟩
      rw [hq]
      clear hq V2
      go_simp
      refine hK.out _ _ (Lib.hid (HK.out.1)) (fun _ => ?_)
      clear hK K
      refine wpAnyH_ready (rs := [14]) (by kernel_rfl) (by simp) (AllReadyH.cons rfl (fun K hK => ?_) AllReadyH.nil)
      go_simp
      refine (HBK _ lb ⟨_, HE.out, by rfl, Nat.le_refl 11⟩).out.mono ?_
      rintro e V ⟨gi, ci, go, co, rfl, g1, g2, hi3, ho3, hb⟩
      have HZ := Lib.hid (HZ.out.bel hb)
      have HK := Lib.hid (HK.out.bel hb)
      have HB := Lib.hid (HB.out.trans (hb.mono HB.out.size))
      try have HT := Lib.hid (HT.out.bel hb)
      try have HE := Lib.hid (HE.out.bel hb)
      try have HI := Lib.hid (HI.out.bel hb)
      try have HO := Lib.hid (HO.out.bel hb)
      have HI := Lib.hid hi3
      have HO := Lib.hid ho3
      clear hb hi3 ho3
      go_simp
      refine hK.out _ _ (Lib.hid (HK.out.1)) (fun hS => ?_)
      clear hK K
      refine wpAnyH_take (i := 15) (v := ?_) rfl (by kernel_rfl) (by kernel_rfl) (by kernel_rfl) (fun _ _ _ h => h) (Or.inl ⟨by rfl, ?_⟩) hS ?_
      rotate_left
      · (intro w _; go_simp; try with_reducible rfl)
      refine wpAnyH_take (i := 16) (v := ?_) rfl (by kernel_rfl) (by kernel_rfl) (by kernel_rfl) (fun _ _ _ h => h) (Or.inl ⟨by rfl, ?_⟩) hS ?_
      rotate_left
      · (intro w _; go_simp; try with_reducible rfl)
      refine wpAnyH_take (i := 17) (v := ?_) rfl (by kernel_rfl) (by kernel_rfl) (by kernel_rfl) (fun _ _ _ h => h) (Or.inl ⟨by rfl, ?_⟩) hS ?_
      rotate_left
      · (intro w _; go_simp; try with_reducible rfl)
      refine wpAnyH_ready (rs := [19]) (by kernel_rfl) (by simp) (AllReadyH.cons rfl (fun K hK => ?_) AllReadyH.nil)
      refine step_store_part (by rfl) 70 (.tmp 4) (.tmp 28) (by rfl) tb 0 HT.out (txC gi ci go co) (txC gi ci go co) (by rfl) (by rfl) (Nat.le_refl 6) infoTx (txC_one _ _ _ _) (txC_over _ _ _ _) ?_
      intro V5 hb5 hc5
      have HT5 := Lib.hid hb5
      have HK5 := Lib.hid (HK.out.chO hc5 rfl HT.out (by decide) (by decide) (by decide) (by decide) (by decide))
      have HZ5 : Hid (Blk V5 w.heap.size 70 zTx) := Blk.ch HZ.out hc5 (by simp; omega)
      have HI5 : Hid (Ins1 V5 gi tx out 3 ByteArray.empty) := by obtain ⟨cu', j1, j2⟩ := HI.out; exact ⟨cu', Blk.ch j1 hc5 (by have := j1.ne_ HT.out (by decide); simpa using this), j2⟩
      have HO5 : Hid (Outs1 V5 go (l.am - 10) (rootB seed h)) := by obtain ⟨cu', j1, j2⟩ := HO.out; exact ⟨cu', Blk.ch j1 hc5 (by have := j1.ne_ HT.out (by decide); simpa using this), j2⟩
      have HB5 : Hid (Below w.heap.size w V5) := HB.out.trans (hc5.below HB.out.size (by simp; omega))
      clear hb5 hc5
      refine hK.out _ _ (Lib.hid HK5.out.1) (fun hS5 => ?_)
      clear hK K
      refine wpAnyH_ready (rs := [20]) (by kernel_rfl) (by simp) (AllReadyH.cons rfl (fun K hK => ?_) AllReadyH.nil)
      go_simp
      refine hK.out _ _ hS5 (fun _ => ?_)
      clear hK K
      refine wpAnyH_done (by kernel_rfl) ?_ _
      go_wp2_with (first | (refine wpList_load_blk rfl 70 (.tmp 4) rfl tb 0 6 HT5.out (txC gi ci go co) (by rfl) (by rfl) Tryz.underlying70 infoTx (Nat.le_refl 6) ?_))
      refine (HSG _ gi ci go co HK5.out HI5.out HO5.out).out.mono ?_
      rintro e w6 ⟨rfl, hb6⟩
      have HZ6 := Lib.hid (HZ5.out.bel hb6)
      have HB6 := Lib.hid (HB5.out.trans (hb6.mono HB5.out.size))
      clear hb6
      go_wp2_with (first
        | (refine wpList_store_part rfl 70 (.tmp 2) (.tmp 37) rfl w.heap.size 0 HZ6.out zTx zTx (by rfl) (by rfl) (Nat.le_refl 6) infoTx zTx_one zTx_over ?_; intro W8 hb8 hc8; have HZ8 := Lib.hid hb8; have HC8 := Lib.hid hc8; clear hb8 hc8))
      exact bodyPost_ret (results_cell_row2 rfl _ HZ8.out rfl Tryz.underlying70 infoTx) rfl ⟨rfl, HB6.out.trans (HC8.out.below HB6.out.size (by simp))⟩
  · go_simp
    have htb : w.heap.size < V.heap.size := HZ.out.lt
    generalize hlb : V.heap.size = tb at htb ⊢
    refine hK.out _ _ (Lib.hid (HK.out.1.alloc _)) (fun _ => ?_)
    clear hK K
    refine wpAnyH_gen fun V hV => ?_
    have hb := bel_alloc hV
    have HZ := Lib.hid (HZ.out.bel hb)
    have HK := Lib.hid (HK.out.bel hb)
    have HB := Lib.hid (HB.out.trans (hb.mono HB.out.size))
    try have HT := Lib.hid (HT.out.bel hb)
    try have HE := Lib.hid (HE.out.bel hb)
    try have HI := Lib.hid (HI.out.bel hb)
    try have HO := Lib.hid (HO.out.bel hb)
    have HT : Hid (Blk V tb 70 zTx) := blk_alloc hV hlb
    clear hV hb hlb
    refine wpAnyH_ready (rs := [5]) (by kernel_rfl) (by simp) (AllReadyH.cons rfl (fun K hK => ?_) AllReadyH.nil)
    go_simp
    generalize hlb : V.heap.size = lb
    refine hK.out _ _ (Lib.hid (HK.out.1.alloc _)) (fun _ => ?_)
    clear hK K
    refine wpAnyH_gen fun V hV => ?_
    have hb := bel_alloc hV
    have HZ := Lib.hid (HZ.out.bel hb)
    have HK := Lib.hid (HK.out.bel hb)
    have HB := Lib.hid (HB.out.trans (hb.mono HB.out.size))
    try have HT := Lib.hid (HT.out.bel hb)
    try have HE := Lib.hid (HE.out.bel hb)
    try have HI := Lib.hid (HI.out.bel hb)
    try have HO := Lib.hid (HO.out.bel hb)
    have HE : Hid (Blk V lb 59 (entC tx out l)) := blk_alloc hV hlb
    clear hV hb hlb
    refine wpAnyH_ready (rs := [11]) (by kernel_rfl) (by simp) (AllReadyH.cons rfl (fun K hK => ?_) AllReadyH.nil)
    have hap := run_append_owned_none (P := Tryz.prog) (w := V) lb 51 51 59 ie 11 Tryz.underlying51 hie (.slice (some ⟨lb, 0, none⟩) 1 1) 1 (entC tx out l).toList (own_lit HE.out (Nat.le_refl _) (by rfl) (by unfold maxLen; omega))
    go_simp
    refine hK.out _ _ (Lib.hid (HK.out.1)) (fun _ => ?_)
    clear hK K hap
    refine wpAnyH_ready (rs := [13]) (by kernel_rfl) (by simp) (AllReadyH.cons rfl (fun K hK => ?_) AllReadyH.nil)
    go_simp
    refine (HRT _ HK.out.at_).out.mono ?_
    rintro e V2 ⟨rfl, hq⟩
    rw [hq]
    clear hq V2
    go_simp
    refine hK.out _ _ (Lib.hid (HK.out.1)) (fun _ => ?_)
    clear hK K
    refine wpAnyH_ready (rs := [14]) (by kernel_rfl) (by simp) (AllReadyH.cons rfl (fun K hK => ?_) AllReadyH.nil)
    go_simp
    refine (HBK _ lb ⟨_, HE.out, by rfl, Nat.le_refl 11⟩).out.mono ?_
    rintro e V ⟨gi, ci, go, co, rfl, g1, g2, hi3, ho3, hb⟩
    have HZ := Lib.hid (HZ.out.bel hb)
    have HK := Lib.hid (HK.out.bel hb)
    have HB := Lib.hid (HB.out.trans (hb.mono HB.out.size))
    try have HT := Lib.hid (HT.out.bel hb)
    try have HE := Lib.hid (HE.out.bel hb)
    try have HI := Lib.hid (HI.out.bel hb)
    try have HO := Lib.hid (HO.out.bel hb)
    have HI := Lib.hid hi3
    have HO := Lib.hid ho3
    clear hb hi3 ho3
    go_simp
    refine hK.out _ _ (Lib.hid (HK.out.1)) (fun hS => ?_)
    clear hK K
    refine wpAnyH_take (i := 15) (v := ?_) rfl (by kernel_rfl) (by kernel_rfl) (by kernel_rfl) (fun _ _ _ h => h) (Or.inl ⟨by rfl, ?_⟩) hS ?_
    rotate_left
    · (intro w _; go_simp; try with_reducible rfl)
    refine wpAnyH_take (i := 16) (v := ?_) rfl (by kernel_rfl) (by kernel_rfl) (by kernel_rfl) (fun _ _ _ h => h) (Or.inl ⟨by rfl, ?_⟩) hS ?_
    rotate_left
    · (intro w _; go_simp; try with_reducible rfl)
    refine wpAnyH_take (i := 17) (v := ?_) rfl (by kernel_rfl) (by kernel_rfl) (by kernel_rfl) (fun _ _ _ h => h) (Or.inl ⟨by rfl, ?_⟩) hS ?_
    rotate_left
    · (intro w _; go_simp; try with_reducible rfl)
    refine wpAnyH_ready (rs := [19]) (by kernel_rfl) (by simp) (AllReadyH.cons rfl (fun K hK => ?_) AllReadyH.nil)
    refine step_store_part (by rfl) 70 (.tmp 4) (.tmp 28) (by rfl) tb 0 HT.out (txC gi ci go co) (txC gi ci go co) (by rfl) (by rfl) (Nat.le_refl 6) infoTx (txC_one _ _ _ _) (txC_over _ _ _ _) ?_
    intro V5 hb5 hc5
    have HT5 := Lib.hid hb5
    have HK5 := Lib.hid (HK.out.chO hc5 rfl HT.out (by decide) (by decide) (by decide) (by decide) (by decide))
    have HZ5 : Hid (Blk V5 w.heap.size 70 zTx) := Blk.ch HZ.out hc5 (by simp; omega)
    have HI5 : Hid (Ins1 V5 gi tx out 3 ByteArray.empty) := by obtain ⟨cu', j1, j2⟩ := HI.out; exact ⟨cu', Blk.ch j1 hc5 (by have := j1.ne_ HT.out (by decide); simpa using this), j2⟩
    have HO5 : Hid (Outs1 V5 go (l.am - 10) (rootB seed h)) := by obtain ⟨cu', j1, j2⟩ := HO.out; exact ⟨cu', Blk.ch j1 hc5 (by have := j1.ne_ HT.out (by decide); simpa using this), j2⟩
    have HB5 : Hid (Below w.heap.size w V5) := HB.out.trans (hc5.below HB.out.size (by simp; omega))
    clear hb5 hc5
    refine hK.out _ _ (Lib.hid HK5.out.1) (fun hS5 => ?_)
    clear hK K
    refine wpAnyH_ready (rs := [20]) (by kernel_rfl) (by simp) (AllReadyH.cons rfl (fun K hK => ?_) AllReadyH.nil)
    go_simp
    refine hK.out _ _ hS5 (fun _ => ?_)
    clear hK K
    refine wpAnyH_done (by kernel_rfl) ?_ _
    go_wp2_with (first | (refine wpList_load_blk rfl 70 (.tmp 4) rfl tb 0 6 HT5.out (txC gi ci go co) (by rfl) (by rfl) Tryz.underlying70 infoTx (Nat.le_refl 6) ?_))
    refine (HSG _ gi ci go co HK5.out HI5.out HO5.out).out.mono ?_
    rintro e w6 ⟨rfl, hb6⟩
    have HZ6 := Lib.hid (HZ5.out.bel hb6)
    have HB6 := Lib.hid (HB5.out.trans (hb6.mono HB5.out.size))
    clear hb6
    go_wp2_with (first
      | (refine wpList_store_part rfl 70 (.tmp 2) (.tmp 37) rfl w.heap.size 0 HZ6.out zTx zTx (by rfl) (by rfl) (Nat.le_refl 6) infoTx zTx_one zTx_over ?_; intro W8 hb8 hc8; have HZ8 := Lib.hid hb8; have HC8 := Lib.hid hc8; clear hb8 hc8))
    exact bodyPost_ret (results_cell_row2 rfl _ HZ8.out rfl Tryz.underlying70 infoTx) rfl ⟨rfl, HB6.out.trans (HC8.out.below HB6.out.size (by simp))⟩
end Go.Proofs.YtmbceheafjadhaaGreat
