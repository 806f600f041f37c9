/- draw.Nominal of any numbers. channel.Ticket, of any state. channel.Ticket, of any state: a ticket that won. channel.Ticket, of any state. channel.More, of any state. channel.More, of any state: the walk, up to its tests. channel.New, Close, of any output and state. slices.Equal, note.Same, channel.Same of what is alike. channel.Same of states that are alike. law09's CutOut, law17's cut, law08's cutTicket and cutWin, of anything. law08's cutTicket, cutWin, of anything. law08's cutWin; law17's cut, of anything. law17's cut, of anything. law17: play, of any state and call. -/
import Derived.Outline
import Derived.Deep.RegionHeld3
import Derived.Deep.DeepCutAuto
import Derived.Deep.CutBlock
import Derived.Deep.AppendLies
import Derived.Test.YtjcinncphffgaaaGreatMhG26
import Derived.Test.YtjcinncphffgaaaGreatMhLotD
import Derived.Test.YtjcinncphffgaaaGreatMhNum
set_option linter.unusedVariables false
set_option linter.unusedSimpArgs false
namespace Go.Proofs.YtjcinncphffgaaaGreat
open Go.RowKit
end Go.Proofs.YtjcinncphffgaaaGreat
namespace Go.Proofs.YtjcinncphffgaaaGreat
open Go.RowKit Go.Maps
end Go.Proofs.YtjcinncphffgaaaGreat
namespace Go.Proofs.YtjcinncphffgaaaGreat
open Go.RowKit Go.Maps
end Go.Proofs.YtjcinncphffgaaaGreat
namespace Go.Proofs.YtjcinncphffgaaaGreat
open Go.RowKit Go.Maps
end Go.Proofs.YtjcinncphffgaaaGreat
namespace Go.Proofs.YtjcinncphffgaaaGreat
open Go.RowKit Go.Maps
def sameP (a b : En) : Bool := decide (a.tx = b.tx) && decide (a.out = b.out)
set_option maxRecDepth 100000 in
set_option maxHeartbeats 1000000 in
theorem moresame_any (px : Nat) (x y : En) (w : World) (hx : Blk w px 89 x.cs) :
    Calls Tryz.prog 157 (#[.agg y.cs] ++ #[.pointer (some ⟨px, 0, none⟩)]) w fun e w' => e = .returned (.bool (sameP y x)) ∧ Below w.heap.size w w' := by
  have hlt := hx.lt
  have HX := Lib.hid (Blk.alloc hx (.cells y.cs 89))
  have HY : Hid (Blk (w.alloc (.cells y.cs 89)) w.heap.size 89 y.cs) := Blk.new _ _ _
  have hq : sameP y x = (decide (y.tx = x.tx) && decide (y.out = x.out)) := rfl
  rw [hq]
  have hb := toList_beq y.tx x.tx
  show Calls _ _ #[.agg y.cs, .pointer (some ⟨px, 0, none⟩)] _ _
  clear hx hq
  by_cases t1 : y.tx.toList = x.tx.toList
  · have e1 : y.tx = x.tx := by rw [show (y.tx.toList == x.tx.toList) = true by rw [t1]; exact beq_self_eq_true _] at hb; exact of_decide_eq_true hb.symm
    by_cases t2 : y.out = x.out
    · rw [decide_eq_true e1, decide_eq_true t2]
      clear hb e1
      go_enter Tryz.func157, Tryz.ntmps157
      go_wp2_with (first
        | (refine wpList_load_blk rfl 57 (.tmp 4) rfl w.heap.size 0 2 HY.out #[.string y.tx, .int .i64 y.out] (by rfl) (by rfl) Tryz.underlying57 infoPnt (by show 2 ≤ 11; omega) ?_)
        | (refine wpList_load_blk rfl 57 (.tmp 6) rfl px 0 2 HX.out #[.string x.tx, .int .i64 x.out] (by rfl) (by rfl) Tryz.underlying57 infoPnt (by show 2 ≤ 11; omega) ?_))
      all_goals
        first
          | contradiction
          | (go_ret; exact ⟨rfl, (Below.refl _ _).alloc (Nat.le_refl _) _⟩)
    · rw [decide_eq_true e1, decide_eq_false t2]
      clear hb e1
      go_enter Tryz.func157, Tryz.ntmps157
      go_wp2_with (first
        | (refine wpList_load_blk rfl 57 (.tmp 4) rfl w.heap.size 0 2 HY.out #[.string y.tx, .int .i64 y.out] (by rfl) (by rfl) Tryz.underlying57 infoPnt (by show 2 ≤ 11; omega) ?_)
        | (refine wpList_load_blk rfl 57 (.tmp 6) rfl px 0 2 HX.out #[.string x.tx, .int .i64 x.out] (by rfl) (by rfl) Tryz.underlying57 infoPnt (by show 2 ≤ 11; omega) ?_))
      all_goals
        first
          | contradiction
          | (go_ret; exact ⟨rfl, (Below.refl _ _).alloc (Nat.le_refl _) _⟩)
  · have e1 : ¬ y.tx = x.tx := fun e => t1 (by rw [e])
    rw [decide_eq_false e1]
    clear hb e1
    go_enter Tryz.func157, Tryz.ntmps157
    go_wp2_with (first
      | (refine wpList_load_blk rfl 57 (.tmp 4) rfl w.heap.size 0 2 HY.out #[.string y.tx, .int .i64 y.out] (by rfl) (by rfl) Tryz.underlying57 infoPnt (by show 2 ≤ 11; omega) ?_)
      | (refine wpList_load_blk rfl 57 (.tmp 6) rfl px 0 2 HX.out #[.string x.tx, .int .i64 x.out] (by rfl) (by rfl) Tryz.underlying57 infoPnt (by show 2 ≤ 11; omega) ?_))
    all_goals
      first
        | contradiction
        | (go_ret; exact ⟨rfl, (Below.refl _ _).alloc (Nat.le_refl _) _⟩)
set_option maxRecDepth 100000 in
set_option maxHeartbeats 1000000 in
theorem index_en (px : Nat) (A : Option Addr) (l : List En) (c : Nat) (q : En → Bool) (w : World) (hS : Sl w w.heap.size 11 En.cl A l) (hl : l.length ≤ 1000000)
    (HF : ∀ W, Below w.heap.size w W → ∀ x ∈ l, Calls Tryz.prog 157 (#[.agg x.cs] ++ #[.pointer (some ⟨px, 0, none⟩)]) W fun e w' => e = .returned (.bool (q x)) ∧ Below W.heap.size W w') :
    Calls Tryz.prog 189 #[.slice A l.length c, .func (Fn.func 157) #[] #[.pointer (some ⟨px, 0, none⟩)]] w fun e w' => e = .returned (.int .i64 (fIdx q l)) ∧ Below w.heap.size w w' := by
  have HS := Lib.hid hS
  have HFF := Lib.hid HF
  clear hS HF
  go_enter Tryz.func189, Tryz.ntmps189
  go_wp2_with fail
  go_loopw [8] (fun i wr => ∃ k : Nat, k ≤ l.length ∧ i = .int .i64 k ∧ Hid ((l.take k).any q = false) ∧ Hid (Below w.heap.size w wr)) (fun i _ => l.length - (intOf i).toNat)
  case atStart => exact ⟨0, Nat.zero_le _, rfl, Lib.hid rfl, Lib.hid (Below.refl _ _)⟩
  case round =>
    obtain ⟨k, hk, rfl, HT, HB⟩ := hrel
    have hz := HB.out.size
    by_cases hlt : k < l.length
    · obtain ⟨ab, off, rfl, hbB, hc⟩ := (HS.out.below HB.out).at_ hlt
      have HC1 := HFF.out wr HB.out _ (List.getElem_mem hlt)
      have HTS : Hid ((l.take (k + 1)).any q = ((l.take k).any q || q l[k])) := by
        show _ = _
        rw [List.take_succ_eq_append_getElem hlt, List.any_append]
        simp
      have HIX := Lib.hid (fIdx_at q l k hlt HT.out)
      generalize l[k] = x at hc HC1 HTS HIX
      have HCC := Lib.hid hc
      have HCL := Lib.hid HC1
      clear hc HC1
      go_wp2_with (refine wpList_load_en rfl (.tmp 14) rfl ab (off + k * 11) (by rfl) x HCC.out ?_)
      refine HCL.out.mono ?_
      rintro e W1 ⟨rfl, hb⟩
      have HB1 := Lib.hid (HB.out.trans (hb.mono hz))
      clear hb HCL
      generalize q x = b at HTS HIX ⊢
      cases b with
      | true =>
        have HI1 := Lib.hid (HIX.out rfl)
        clear HIX HTS
        go_wp2_with fail
        go_ret
        exact ⟨by rw [HI1.out]; rfl, HB1.out⟩
      | false =>
        have HT1 : Hid ((l.take (k + 1)).any q = false) := Lib.hid (by rw [HTS.out, HT.out]; rfl)
        clear HIX HTS
        go_wp2_with fail
        go_roundw
        case rel => exact ⟨k + 1, by omega, by go_num, HT1, HB1⟩
        case measure => simp [intOf]; omega
    · have hkl : k = l.length := by omega
      subst hkl
      have HE := Lib.hid (fIdx_none q l (by rw [List.take_length] at HT; exact HT.out))
      go_wp2_with fail
      go_ret
      exact ⟨by rw [HE.out]; rfl, HB.out⟩
set_option maxRecDepth 100000 in
theorem contains_en (px : Nat) (A : Option Addr) (l : List En) (c : Nat) (q : En → Bool) (w : World) (hS : Sl w w.heap.size 11 En.cl A l) (hl : l.length ≤ 1000000)
    (HF : ∀ W, Below w.heap.size w W → ∀ x ∈ l, Calls Tryz.prog 157 (#[.agg x.cs] ++ #[.pointer (some ⟨px, 0, none⟩)]) W fun e w' => e = .returned (.bool (q x)) ∧ Below W.heap.size W w') :
    Calls Tryz.prog 158 #[.slice A l.length c, .func (Fn.func 157) #[] #[.pointer (some ⟨px, 0, none⟩)]] w fun e w' => e = .returned (.bool (l.any q)) ∧ Below w.heap.size w w' := by
  have HI := Lib.hid (index_en px A l c q w hS hl HF)
  have HD := Lib.hid (fIdx_any q l)
  generalize fIdx q l = z at HI HD
  generalize l.any q = b at HD ⊢
  clear hS HF
  have hd : decide ((0 : Int) ≤ z) = b := HD.out
  clear HD
  go_enter Tryz.func158, Tryz.ntmps158
  go_wp2_with fail
  refine HI.out.mono ?_
  rintro e W1 ⟨rfl, hb⟩
  have HB := Lib.hid hb
  clear hb HI
  go_wp2
  go_ret
  exact ⟨rfl, HB.out⟩
def mustB (s : St) (e : En) (fb : Bool) : Bool := decide (e.o.kind = 3) && fb && decide (e.o.of_ = s.name) && decide (e.o.key = s.lock.o.key) && decide (e.o.gate = s.lock.o.gate) && decide (e.o.ex = s.lock.o.ex)
def moreE (s : St) (e : En) (fb : Bool) : Int :=
  if s.closed then 8 else if mustB s e fb = false then 13 else if sameP s.lock e || s.tops.any (fun y => sameP y e) then 7 else if 3 ≤ s.tops.length then 9 else 0
def St.addtop (s : St) (e : En) : St := { s with tops := s.tops ++ [e] }



end Go.Proofs.YtjcinncphffgaaaGreat
namespace Go.Proofs.YtjcinncphffgaaaGreat
open Go.RowKit Go.Maps
theorem own_keptT {w w' : World} {base base' n n' size size' : Nat} {e e' : TypeId} {v v' : Value} {xs xs' : List Value} (h : w.ownsRow base e size v n xs) (h' : w.ownsRow base' e' size' v' n' xs') (hne : e ≠ e') (hg : w.grownBy w' v'.ownBlock) : w'.ownsRow base e size v n xs := by
  refine h.kept hg ?_
  cases hv : v.ownBlock with
  | none => exact .inl rfl
  | some g =>
    refine .inr fun hq => ?_
    obtain ⟨c, fz, h1⟩ := Lib.ownsRow_kind h g hv
    obtain ⟨c', fz', h2⟩ := Lib.ownsRow_kind h' g hq.symm
    rw [h1] at h2
    injection h2 with h2
    injection h2 with _ h2
    exact hne h2
theorem top_set11 (s : St) (e : En) (A2 : Option Addr) (c2 : Nat) (A5 : Option Addr) (c5 : Nat) (B : Option Addr) (d : Nat) : (s.lists A2 c2 B d).cs.setIfInBounds 11 (.slice A5 (s.tops.length + 1) c5) = ((s.addtop e).lists A5 c5 B d).cs := by
  show _ = St.cs { s with tops := s.tops ++ [e], A := A5, c := c5, B := B, d := d }
  unfold St.cs
  simp only [List.length_append, List.length_cons, List.length_nil, Nat.zero_add]
  rfl
theorem top_ls {s : St} {e : En} {N : Nat} {w : World} {A : Option Addr} {c : Nat} {B : Option Addr} {d : Nat} (h1 : w.ownsRow N 89 11 (.slice A (s.tops.length + 1) c) (s.tops.length + 1) (s.tops.flatMap En.cl ++ e.cl)) (h2 : w.ownsRow N 122 10 (.slice B s.wins.length d) s.wins.length (s.wins.flatMap Wn.cl)) (hn : B = none → d = 0) : LsAt (s.addtop e) N w A c B d := by
  have hl : (s.tops ++ [e]).length = s.tops.length + 1 := by simp
  have hf : (s.tops ++ [e]).flatMap En.cl = s.tops.flatMap En.cl ++ e.cl := by simp
  refine ⟨?_, h2, fun hA => ?_, hn⟩
  · show w.ownsRow N 89 11 (.slice A (s.tops ++ [e]).length c) (s.tops ++ [e]).length ((s.tops ++ [e]).flatMap En.cl)
    rw [hl, hf]; exact h1
  · subst hA; exact own_noneC h1
theorem ou_over (o : Ou) {cs : Array Value} (h : cs.size = 9) : over cs 0 o.cs.toList = o.cs := (over_full o.cs.toList cs (by rw [h]; rfl)).trans (Array.toArray_toList ..)
theorem infoOuC : (Tryz.prog.info? 81).map (·.size) = some 9 := by kernel_rfl
theorem en_part (e : En) : e.cs.extract 2 (2 + 9) = e.o.cs := by rfl
theorem st_part (s : St) : s.cs.extract 2 (2 + 9) = s.lock.o.cs := by rfl
theorem st_lock (s : St) : s.cs.extract 0 (0 + 11) = s.lock.cs := by rfl
set_option maxRecDepth 100000 in
set_option maxHeartbeats 2000000 in
theorem xmore_any (s : St) (e : En) (w : World) (hf : s.fit) (ht9 : s.tops.length ≤ 900) (hS : s.mem w) (hea : e.o.am < 18446744073709551616) (fb : Bool) (HFT : ∀ W, Calls Tryz.prog 83 #[.agg e.o.cs] W fun e' w' => e' = .returned (.bool fb) ∧ Below W.heap.size W w') :
    Calls Tryz.prog 96 #[.agg s.cs, .agg e.cs] w (ChR (s.addtop e) (moreE s e fb) w) := by
  have HX0 : Hid (∀ o, Blk (((w.alloc (.cells s.cs 103)).alloc (.cells e.cs 89)).alloc o) w.heap.size 103 s.cs) := Lib.hid (fun o => ((Blk.new w _ _).alloc _).alloc o)
  have HE0 : Hid (∀ o, Blk (((w.alloc (.cells s.cs 103)).alloc (.cells e.cs 89)).alloc o) (w.heap.size + 1) 89 e.cs) := Lib.hid (fun o => Blk.alloc (Blk.newAt (by simp)) o)
  have HR : Hid (Blk (((w.alloc (.cells s.cs 103)).alloc (.cells e.cs 89)).alloc (.cells zSt 103)) (w.heap.size + 1 + 1) 103 zSt) := Blk.newAt (by simp)
  have HB : Hid (Below w.heap.size w (((w.alloc (.cells s.cs 103)).alloc (.cells e.cs 89)).alloc (.cells zSt 103))) := (((Below.refl _ _).alloc (Nat.le_refl _) _).alloc (by simp) _).alloc (by simp <;> omega) _
  have HM := Lib.hid hS
  have HF := Lib.hid hf
  have HFI := fun W => Lib.hid (HFT W)
  have HNM := fun W => Lib.hid (sname_gen s W hf)
  have HOW := fun W hW => Lib.hid (xown_any s W hf (hS.bel (w' := W) hW))
  have htl := hf.tops
  have HCT := fun (W : World) (hW : Below w.heap.size w W) (hk : Blk W (w.heap.size + 1) 89 e.cs) => Lib.hid (contains_en (w.heap.size + 1) s.A s.tops s.c (fun y => sameP y e) W (hS.bel hW).tops (by omega) (fun W' hW' y _ => moresame_any _ e y W' (hk.bel hW')))
  have HE : Hid (moreE s e fb = if s.closed then 8 else if mustB s e fb = false then 13 else if sameP s.lock e || s.tops.any (fun y => sameP y e) then 7 else if 3 ≤ s.tops.length then 9 else 0) := rfl
  have HMU : Hid (mustB s e fb = (decide (e.o.kind = 3) && fb && decide (e.o.of_ = s.name) && decide (e.o.key = s.lock.o.key) && decide (e.o.gate = s.lock.o.gate) && decide (e.o.ex = s.lock.o.ex))) := rfl
  generalize moreE s e fb = f at HE ⊢
  generalize mustB s e fb = mu at HE HMU
  generalize s.tops.any (fun y => sameP y e) = bt at HE HCT
  have HSL := fun W hW => Lib.hid (moresame_any (w.heap.size + 1) e s.lock W hW)
  generalize sameP s.lock e = bl at HE HSL
  generalize hnm : s.name = nm at HNM HMU
  obtain ⟨i0, hi, hz0, hz1, hz2⟩ := info_parts Tryz.infoEn'
  have Hhz := Lib.hid hz0
  clear hS hf HFT hnm hz0
  go_enter Tryz.func96, Tryz.ntmps96
  go_upto_region 1 with fail
  refine wp_gen fun X0 hX => ?_
  have HX : Hid (Blk X0 w.heap.size 103 s.cs) := Lib.hid (by rw [hX]; exact HX0.out _)
  have HEn : Hid (Blk X0 (w.heap.size + 1) 89 e.cs) := Lib.hid (by rw [hX]; exact HE0.out _)
  replace HR : Hid (Blk X0 (w.heap.size + 1 + 1) 103 zSt) := Lib.hid (by rw [hX]; exact HR.out)
  replace HB : Hid (Below w.heap.size w X0) := Lib.hid (by rw [hX]; exact HB.out)
  clear hX HX0 HE0
  go_cut [6, 7] from 9 to 13 (fun v6 v7 wx => ∃ a6 a7 : Nat, v6 = .pointer (some ⟨a6, 0, none⟩) ∧ v7 = .pointer (some ⟨a7, 0, none⟩) ∧ Hid (Blk wx a6 81 e.o.cs) ∧ Hid (Blk wx a7 81 s.lock.o.cs) ∧ Hid (Blk wx w.heap.size 103 s.cs) ∧ Hid (Blk wx (w.heap.size + 1) 89 e.cs) ∧ Hid (Blk wx (w.heap.size + 1 + 1) 103 zSt) ∧ Hid (Below w.heap.size w wx))
  case first =>
    refine wp_region_held_drew (S := fun W => Hid (Blk W w.heap.size 103 s.cs ∧ Blk W (w.heap.size + 1) 89 e.cs)) (by kernel_rfl) (Lib.hid ⟨HX.out.drewN 1, HEn.out.drewN 1⟩) (fun hS => ?_)
    replace HX : Hid (Blk X0.drew w.heap.size 103 s.cs) := Lib.hid (HX.out.drewN 1)
    replace HEn : Hid (Blk X0.drew (w.heap.size + 1) 89 e.cs) := Lib.hid (HEn.out.drewN 1)
    replace HR : Hid (Blk X0.drew (w.heap.size + 1 + 1) 103 zSt) := Lib.hid (HR.out.drewN 1)
    replace HB : Hid (Below w.heap.size w X0.drew) := HB.out.drew
    refine wpAnyH_genT fun X hX => ?_
    rw [← hX] at HX HEn HR HB hS
    clear hX
    refine wpAnyH_take (i := 0) (v := ?_) rfl (by kernel_rfl) (by kernel_rfl) (by kernel_rfl) (fun _ _ _ h => h) (Or.inl ⟨by rfl, ?_⟩) hS ?_
    rotate_left
    · (intro w _; go_simp; try with_reducible rfl)
    refine wpAnyH_take (i := 1) (v := .agg e.o.cs) rfl (by kernel_rfl) (by kernel_rfl) (by kernel_rfl) (fun _ _ _ h => h) (yields_blk (by rfl) 81 (.tmp 9) (by rfl) (w.heap.size + 1) 2 9 (t := 89) (cs := e.cs) (fun W h => h.out.2) e.o.cs (by rfl) (en_part e) Tryz.underlying81 infoOuC (by show 11 ≤ 11; omega)) hS ?_
    refine wpAnyH_take (i := 2) (v := ?_) rfl (by kernel_rfl) (by kernel_rfl) (by kernel_rfl) (fun _ _ _ h => h) (Or.inl ⟨by rfl, ?_⟩) hS ?_
    rotate_left
    · (intro w _; go_simp; try with_reducible rfl)
    refine wpAnyH_take (i := 3) (v := ?_) rfl (by kernel_rfl) (by kernel_rfl) (by kernel_rfl) (fun _ _ _ h => h) (Or.inl ⟨by rfl, ?_⟩) hS ?_
    rotate_left
    · (intro w _; go_simp; try with_reducible rfl)
    refine wpAnyH_take (i := 4) (v := .agg s.lock.o.cs) rfl (by kernel_rfl) (by kernel_rfl) (by kernel_rfl) (fun _ _ _ h => h) (yields_blk (by rfl) 81 (.tmp 12) (by rfl) w.heap.size 2 9 (t := 103) (cs := s.cs) (fun W h => h.out.1) s.lock.o.cs (by rfl) (st_part s) Tryz.underlying81 infoOuC (by show 11 ≤ 20; omega)) hS ?_
    clear hS
    refine wpAnyH_ready (rs := [5, 6]) (by kernel_rfl) (by simp) (AllReadyH.cons rfl (fun K hK => ?_) (AllReadyH.cons rfl (fun K hK => ?_) AllReadyH.nil))
    · go_simp
      refine hK.out _ _ (Lib.hid ⟨HX.out.alloc _, HEn.out.alloc _⟩) (fun _ => ?_)
      clear hK K
      refine wpAnyH_ready (rs := [6]) (by kernel_rfl) (by simp) (AllReadyH.cons rfl (fun K hK => ?_) AllReadyH.nil)
      go_simp
      refine hK.out _ _ (Lib.hid ⟨(HX.out.alloc _).alloc _, (HEn.out.alloc _).alloc _⟩) (fun _ => ?_)
      clear hK K
      have hgl := HR.out.lt
      have HZ0 : Hid (Blk ((X.alloc (.cells zOu.cs 81)).alloc (.cells zOu.cs 81)) X.heap.size 81 zOu.cs) := Lib.hid ((Blk.new _ _ _).alloc _)
      have HZ1 : Hid (Blk ((X.alloc (.cells zOu.cs 81)).alloc (.cells zOu.cs 81)) (X.heap.size + 1) 81 zOu.cs) := Lib.hid (Blk.newAt (by simp))
      replace HX := Lib.hid ((HX.out.alloc (.cells zOu.cs 81)).alloc (.cells zOu.cs 81))
      replace HEn := Lib.hid ((HEn.out.alloc (.cells zOu.cs 81)).alloc (.cells zOu.cs 81))
      replace HR := Lib.hid ((HR.out.alloc (.cells zOu.cs 81)).alloc (.cells zOu.cs 81))
      replace HB := Lib.hid ((HB.out.alloc HB.out.size (.cells zOu.cs 81)).alloc (by have := HB.out.size; simp; omega) (.cells zOu.cs 81))
      have HZA : Hid (Blk ((X.alloc (.cells zOu.cs 81)).alloc (.cells zOu.cs 81)) (X.heap.size) 81 zOu.cs) := by first | exact HZ0 | exact HZ1
      have HZB : Hid (Blk ((X.alloc (.cells zOu.cs 81)).alloc (.cells zOu.cs 81)) ((X.heap.size + 1)) 81 zOu.cs) := by first | exact HZ0 | exact HZ1
      have hge : w.heap.size ≤ X.heap.size := by omega
      clear HZ0 HZ1
      refine wpAnyH_ready (rs := [7]) (by kernel_rfl) (by simp) (AllReadyH.cons rfl (fun K hK => ?_) AllReadyH.nil)
      refine step_store_part (by rfl) 81 (.tmp 6) (.tmp 10) (by rfl) (X.heap.size) 0 HZA.out e.o.cs e.o.cs (by rfl) (by rfl) (Nat.le_refl 9) infoOuC (oucs_one _) (ou_over _ rfl) ?_
      intro W1 hb1 hc1
      have HO := Lib.hid hb1
      replace HZB := Lib.hid (HZB.out.ch hc1 (by simp))
      replace HX := Lib.hid (HX.out.ch hc1 (by simp <;> omega))
      replace HEn := Lib.hid (HEn.out.ch hc1 (by simp <;> omega))
      replace HR := Lib.hid (HR.out.ch hc1 (by simp <;> omega))
      replace HB := Lib.hid (HB.out.trans (hc1.below HB.out.size (by simp <;> omega)))
      clear hb1 hc1 HZA
      refine hK.out _ _ (Lib.hid ⟨HX.out, HEn.out⟩) (fun _ => ?_)
      clear hK K
      refine wpAnyH_ready (rs := [8]) (by kernel_rfl) (by simp) (AllReadyH.cons rfl (fun K hK => ?_) AllReadyH.nil)
      refine step_store_part (by rfl) 81 (.tmp 7) (.tmp 13) (by rfl) ((X.heap.size + 1)) 0 HZB.out s.lock.o.cs s.lock.o.cs (by rfl) (by rfl) (Nat.le_refl 9) infoOuC (oucs_one _) (ou_over _ rfl) ?_
      intro W2 hb1 hc1
      have HL := Lib.hid hb1
      replace HO := Lib.hid (HO.out.ch hc1 (by simp))
      replace HX := Lib.hid (HX.out.ch hc1 (by simp <;> omega))
      replace HEn := Lib.hid (HEn.out.ch hc1 (by simp <;> omega))
      replace HR := Lib.hid (HR.out.ch hc1 (by simp <;> omega))
      replace HB := Lib.hid (HB.out.trans (hc1.below HB.out.size (by simp <;> omega)))
      clear hb1 hc1 HZB
      refine hK.out _ _ (Lib.hid ⟨HX.out, HEn.out⟩) (fun _ => ?_)
      clear hK K
      refine wpAnyH_done (by kernel_rfl) ?_ _
      go_simp
      go_wp2_with fail
      go_meet
      exact ⟨X.heap.size, (X.heap.size + 1), rfl, rfl, HO, HL, HX, HEn, HR, HB⟩
    · go_simp
      refine hK.out _ _ (Lib.hid ⟨HX.out.alloc _, HEn.out.alloc _⟩) (fun _ => ?_)
      clear hK K
      refine wpAnyH_ready (rs := [5]) (by kernel_rfl) (by simp) (AllReadyH.cons rfl (fun K hK => ?_) AllReadyH.nil)
      go_simp
      refine hK.out _ _ (Lib.hid ⟨(HX.out.alloc _).alloc _, (HEn.out.alloc _).alloc _⟩) (fun _ => ?_)
      clear hK K
      have hgl := HR.out.lt
      have HZ0 : Hid (Blk ((X.alloc (.cells zOu.cs 81)).alloc (.cells zOu.cs 81)) X.heap.size 81 zOu.cs) := Lib.hid ((Blk.new _ _ _).alloc _)
      have HZ1 : Hid (Blk ((X.alloc (.cells zOu.cs 81)).alloc (.cells zOu.cs 81)) (X.heap.size + 1) 81 zOu.cs) := Lib.hid (Blk.newAt (by simp))
      replace HX := Lib.hid ((HX.out.alloc (.cells zOu.cs 81)).alloc (.cells zOu.cs 81))
      replace HEn := Lib.hid ((HEn.out.alloc (.cells zOu.cs 81)).alloc (.cells zOu.cs 81))
      replace HR := Lib.hid ((HR.out.alloc (.cells zOu.cs 81)).alloc (.cells zOu.cs 81))
      replace HB := Lib.hid ((HB.out.alloc HB.out.size (.cells zOu.cs 81)).alloc (by have := HB.out.size; simp; omega) (.cells zOu.cs 81))
      have HZA : Hid (Blk ((X.alloc (.cells zOu.cs 81)).alloc (.cells zOu.cs 81)) ((X.heap.size + 1)) 81 zOu.cs) := by first | exact HZ0 | exact HZ1
      have HZB : Hid (Blk ((X.alloc (.cells zOu.cs 81)).alloc (.cells zOu.cs 81)) (X.heap.size) 81 zOu.cs) := by first | exact HZ0 | exact HZ1
      have hge : w.heap.size ≤ X.heap.size := by omega
      clear HZ0 HZ1
      refine wpAnyH_ready (rs := [7]) (by kernel_rfl) (by simp) (AllReadyH.cons rfl (fun K hK => ?_) AllReadyH.nil)
      refine step_store_part (by rfl) 81 (.tmp 6) (.tmp 10) (by rfl) ((X.heap.size + 1)) 0 HZA.out e.o.cs e.o.cs (by rfl) (by rfl) (Nat.le_refl 9) infoOuC (oucs_one _) (ou_over _ rfl) ?_
      intro W1 hb1 hc1
      have HO := Lib.hid hb1
      replace HZB := Lib.hid (HZB.out.ch hc1 (by simp))
      replace HX := Lib.hid (HX.out.ch hc1 (by simp <;> omega))
      replace HEn := Lib.hid (HEn.out.ch hc1 (by simp <;> omega))
      replace HR := Lib.hid (HR.out.ch hc1 (by simp <;> omega))
      replace HB := Lib.hid (HB.out.trans (hc1.below HB.out.size (by simp <;> omega)))
      clear hb1 hc1 HZA
      refine hK.out _ _ (Lib.hid ⟨HX.out, HEn.out⟩) (fun _ => ?_)
      clear hK K
      refine wpAnyH_ready (rs := [8]) (by kernel_rfl) (by simp) (AllReadyH.cons rfl (fun K hK => ?_) AllReadyH.nil)
      refine step_store_part (by rfl) 81 (.tmp 7) (.tmp 13) (by rfl) (X.heap.size) 0 HZB.out s.lock.o.cs s.lock.o.cs (by rfl) (by rfl) (Nat.le_refl 9) infoOuC (oucs_one _) (ou_over _ rfl) ?_
      intro W2 hb1 hc1
      have HL := Lib.hid hb1
      replace HO := Lib.hid (HO.out.ch hc1 (by simp))
      replace HX := Lib.hid (HX.out.ch hc1 (by simp <;> omega))
      replace HEn := Lib.hid (HEn.out.ch hc1 (by simp <;> omega))
      replace HR := Lib.hid (HR.out.ch hc1 (by simp <;> omega))
      replace HB := Lib.hid (HB.out.trans (hc1.below HB.out.size (by simp <;> omega)))
      clear hb1 hc1 HZB
      refine hK.out _ _ (Lib.hid ⟨HX.out, HEn.out⟩) (fun _ => ?_)
      clear hK K
      refine wpAnyH_done (by kernel_rfl) ?_ _
      go_simp
      go_wp2_with fail
      go_meet
      exact ⟨(X.heap.size + 1), X.heap.size, rfl, rfl, HO, HL, HX, HEn, HR, HB⟩
  case rest =>
    clear HX HEn HR HB
    obtain ⟨a6, a7, rfl, rfl, HO, HL, HX, HEn, HR, HB⟩ := hcut
    have u19 : wc.cell? ⟨w.heap.size, 19, none⟩ = some (.bool s.closed) := HX.out.cell 19
    generalize s.closed = cl at u19 HE
    cases cl with
    | true =>
      obtain rfl : f = 8 := HE.out
      clear HE HMU HFI HNM HOW HCT HSL
      go_wp2_with (refine wpList_store_part rfl 103 (.tmp 4) (.tmp 18) rfl (w.heap.size + 1 + 1) 0 HR.out zSt zSt (by rfl) (by rfl) (Nat.le_refl 20) infoSta zStO (zStV rfl) ?_; intro W6 hb6 hc6; have HT := Lib.hid hb6; have HC6 := Lib.hid hc6; clear hb6 hc6)
      refine bodyPost_ret (results_cell_row2 rfl _ HT.out rfl Tryz.underlying103 infoSta) rfl ?_
      exact ⟨HB.out.trans (HC6.out.below HB.out.size (by simp <;> omega)), .inl ⟨by decide, rfl⟩⟩
    | false =>
      have HE1 : Hid (f = if mu = false then 13 else if bl || bt then 7 else if 3 ≤ s.tops.length then 9 else 0) := Lib.hid (by rw [HE.out, if_neg (by simp)])
      clear HE
      go_upto_region 5 with fail
      clear u19
      have q0 := cell_rg (show wc.cell? ⟨a6, 0, none⟩ = some (.int .i64 e.o.kind) from HO.out.cell 0)
      have q8 := cell_rg (show wc.cell? ⟨a6, 8, none⟩ = some (.string e.o.of_) from HO.out.cell 8)
      have q2 := cell_rg (show wc.cell? ⟨a6, 2, none⟩ = some (.string e.o.key) from HO.out.cell 2)
      have q3 := cell_rg (show wc.cell? ⟨a6, 3, none⟩ = some (.string e.o.gate) from HO.out.cell 3)
      have q4 := cell_rg (show wc.cell? ⟨a6, 4, none⟩ = some (.int .i64 e.o.ex) from HO.out.cell 4)
      have p2 := cell_rg (show wc.cell? ⟨a7, 2, none⟩ = some (.string s.lock.o.key) from HL.out.cell 2)
      have p3 := cell_rg (show wc.cell? ⟨a7, 3, none⟩ = some (.string s.lock.o.gate) from HL.out.cell 3)
      have p4 := cell_rg (show wc.cell? ⟨a7, 4, none⟩ = some (.int .i64 s.lock.o.ex) from HL.out.cell 4)
      have g2 := toList_beq e.o.key s.lock.o.key
      have g3 := toList_beq e.o.gate s.lock.o.gate
      have g8 := toList_beq e.o.of_ nm
      by_cases k0 : e.o.kind = 3
      · have d0 : (e.o.kind != 3) = false := by simp [k0]
        rw [decide_eq_true k0] at HMU
        clear k0
        cases fb with
        | false =>
          obtain rfl : mu = false := HMU.out.trans (by simp)
          obtain rfl : f = 13 := by rw [HE1.out, if_pos rfl]
          refine wp_region_quiet_below (by kernel_rfl) (by kernel_rfl) ?_
          repeat (first | go_big_quiet_skip | (go_big_quiet_want; first | ((first
                        | (refine quiet_load_blk 81 (.tmp 6) rfl a6 0 9 HO.out e.o.cs (by rfl) (by rfl) Tryz.underlying81 infoOuC (Nat.le_refl 9) ?_; go_simp)
                        | (refine quiet_load_blk 103 (.tmp 2) rfl w.heap.size 0 20 HX.out s.cs (by rfl) (st_ext s) Tryz.underlying103 infoSta (st_le s) ?_; go_simp)); go_big_quiet_on) | (go_big_quiet_op; first | go_big_quiet_on | go_big_quiet_call ((first
                      | (go_at_call 83; exact Calls.rg fun W _ => (HFI W).out)
                      | (go_at_call 119; exact Calls.rg fun W _ => (HNM W).out))))))
          refine wpQuiet_nil ?_
          intro U hp
          have hb := bel_regrown hp
          clear hp
          replace HX := Lib.hid (HX.out.bel hb)
          replace HEn := Lib.hid (HEn.out.bel hb)
          replace HR := Lib.hid (HR.out.bel hb)
          replace HB := Lib.hid (HB.out.trans (hb.mono HB.out.size))
          clear hb
          clear q0 q8 q2 q3 q4 p2 p3 p4
          go_wp2_with (refine wpList_store_part rfl 103 (.tmp 4) (.tmp 56) rfl (w.heap.size + 1 + 1) 0 HR.out zSt zSt (by rfl) (by rfl) (Nat.le_refl 20) infoSta zStO (zStV rfl) ?_; intro W6 hb6 hc6; have HT := Lib.hid hb6; have HC6 := Lib.hid hc6; clear hb6 hc6)
          refine bodyPost_ret (results_cell_row2 rfl _ HT.out rfl Tryz.underlying103 infoSta) rfl ?_
          exact ⟨HB.out.trans (HC6.out.below HB.out.size (by simp <;> omega)), .inl ⟨by decide, rfl⟩⟩
        | true =>
          by_cases k8 : e.o.of_ = nm
          · rw [decide_eq_true k8] at g8 HMU
            clear k8
            by_cases k2 : e.o.key = s.lock.o.key
            · rw [decide_eq_true k2] at g2 HMU
              clear k2
              by_cases k3 : e.o.gate = s.lock.o.gate
              · rw [decide_eq_true k3] at g3 HMU
                clear k3
                by_cases k4 : e.o.ex = s.lock.o.ex
                · rw [decide_eq_true k4] at HMU
                  have d4 : (e.o.ex != s.lock.o.ex) = false := by simp [k4]
                  obtain rfl : mu = true := HMU.out.trans (by simp)
                  have HE2 : Hid (f = if bl || bt then 7 else if 3 ≤ s.tops.length then 9 else 0) := Lib.hid (by rw [HE1.out, if_neg (by simp)])
                  clear k4 HMU HE1
                  refine wp_region_quiet_below (by kernel_rfl) (by kernel_rfl) ?_
                  repeat (first | go_big_quiet_skip | (go_big_quiet_want; first | ((first
                                        | (refine quiet_load_blk 81 (.tmp 6) rfl a6 0 9 HO.out e.o.cs (by rfl) (by rfl) Tryz.underlying81 infoOuC (Nat.le_refl 9) ?_; go_simp)
                                        | (refine quiet_load_blk 103 (.tmp 2) rfl w.heap.size 0 20 HX.out s.cs (by rfl) (st_ext s) Tryz.underlying103 infoSta (st_le s) ?_; go_simp)); go_big_quiet_on) | (go_big_quiet_op; first | go_big_quiet_on | go_big_quiet_call ((first
                                      | (go_at_call 83; exact Calls.rg fun W _ => (HFI W).out)
                                      | (go_at_call 119; exact Calls.rg fun W _ => (HNM W).out))))))
                  refine wpQuiet_nil ?_
                  intro U hp
                  have hb := bel_regrown hp
                  clear hp
                  replace HX := Lib.hid (HX.out.bel hb)
                  replace HEn := Lib.hid (HEn.out.bel hb)
                  replace HR := Lib.hid (HR.out.bel hb)
                  replace HB := Lib.hid (HB.out.trans (hb.mono HB.out.size))
                  clear hb
                  clear q0 q8 q2 q3 q4 p2 p3 p4
                  clear d0 d4 g2 g3 g8 HFI HNM
                  go_wp2_with (refine wpList_load_blk rfl 89 (.tmp 59) rfl w.heap.size 0 11 HX.out s.lock.cs (by rfl) (st_lock s) Tryz.underlying89 infoEnt (by show 11 ≤ 20; omega) ?_)
                  refine (HSL _ HEn.out).out.mono ?_
                  rintro e' V1 ⟨rfl, hb⟩
                  replace HX := Lib.hid (HX.out.bel hb)
                  replace HEn := Lib.hid (HEn.out.bel hb)
                  replace HR := Lib.hid (HR.out.bel hb)
                  replace HB := Lib.hid (HB.out.trans (hb.mono HB.out.size))
                  clear hb
                  cases bl with
                  | true =>
                    obtain rfl : f = 7 := HE2.out
                    go_wp2_with (refine wpList_store_part rfl 103 (.tmp 4) (.tmp 68) rfl (w.heap.size + 1 + 1) 0 HR.out zSt zSt (by rfl) (by rfl) (Nat.le_refl 20) infoSta zStO (zStV rfl) ?_; intro W6 hb6 hc6; have HT := Lib.hid hb6; have HC6 := Lib.hid hc6; clear hb6 hc6)
                    refine bodyPost_ret (results_cell_row2 rfl _ HT.out rfl Tryz.underlying103 infoSta) rfl ?_
                    exact ⟨HB.out.trans (HC6.out.below HB.out.size (by simp <;> omega)), .inl ⟨by decide, rfl⟩⟩
                  | false =>
                    have HE3 : Hid (f = if bt then 7 else if 3 ≤ s.tops.length then 9 else 0) := HE2
                    have u11 : V1.cell? ⟨w.heap.size, 11, none⟩ = some (.slice s.A s.tops.length s.c) := HX.out.cell 11
                    go_wp2_with fail
                    refine (HCT _ HB.out HEn.out).out.mono ?_
                    rintro e' V2 ⟨rfl, hb⟩
                    replace HX := Lib.hid (HX.out.bel hb)
                    replace HEn := Lib.hid (HEn.out.bel hb)
                    replace HR := Lib.hid (HR.out.bel hb)
                    replace HB := Lib.hid (HB.out.trans (hb.mono HB.out.size))
                    clear hb
                    clear u11 HE2 HSL HCT
                    cases bt with
                    | true =>
                      obtain rfl : f = 7 := HE3.out
                      go_wp2_with (refine wpList_store_part rfl 103 (.tmp 4) (.tmp 68) rfl (w.heap.size + 1 + 1) 0 HR.out zSt zSt (by rfl) (by rfl) (Nat.le_refl 20) infoSta zStO (zStV rfl) ?_; intro W6 hb6 hc6; have HT := Lib.hid hb6; have HC6 := Lib.hid hc6; clear hb6 hc6)
                      refine bodyPost_ret (results_cell_row2 rfl _ HT.out rfl Tryz.underlying103 infoSta) rfl ?_
                      exact ⟨HB.out.trans (HC6.out.below HB.out.size (by simp <;> omega)), .inl ⟨by decide, rfl⟩⟩
                    | false =>
                      have HE4 : Hid (f = if 3 ≤ s.tops.length then 9 else 0) := HE3
                      have u11 : V2.cell? ⟨w.heap.size, 11, none⟩ = some (.slice s.A s.tops.length s.c) := HX.out.cell 11
                      clear HE3
                      by_cases h3 : 3 ≤ s.tops.length
                      · have d3 : decide ((3 : Int) ≤ (s.tops.length : Int)) = true := decide_eq_true (by omega)
                        have d3' : decide (3 ≤ s.tops.length) = true := decide_eq_true h3
                        obtain rfl : f = 9 := by rw [HE4.out, if_pos h3]
                        clear h3 HE4
                        go_wp2_with (refine wpList_store_part rfl 103 (.tmp 4) (.tmp 74) rfl (w.heap.size + 1 + 1) 0 HR.out zSt zSt (by rfl) (by rfl) (Nat.le_refl 20) infoSta zStO (zStV rfl) ?_; intro W6 hb6 hc6; have HT := Lib.hid hb6; have HC6 := Lib.hid hc6; clear hb6 hc6)
                        refine bodyPost_ret (results_cell_row2 rfl _ HT.out rfl Tryz.underlying103 infoSta) rfl ?_
                        exact ⟨HB.out.trans (HC6.out.below HB.out.size (by simp <;> omega)), .inl ⟨by decide, rfl⟩⟩
                      · have d3 : decide ((3 : Int) ≤ (s.tops.length : Int)) = false := decide_eq_false (by omega)
                        have d3' : decide (3 ≤ s.tops.length) = false := decide_eq_false h3
                        obtain rfl : f = 0 := by rw [HE4.out, if_neg h3]
                        clear h3 HE4
                        go_wp2_with (refine wpList_load_blk rfl 103 (.tmp 2) rfl w.heap.size 0 20 HX.out s.cs (by rfl) (st_ext s) Tryz.underlying103 infoSta (st_le s) ?_)
                        refine (HOW _ HB.out).out.mono ?_
                        rintro e' V3 ⟨VV, A2, c2, B2, d2, rfl, ho⟩
                        have hval := ho.val
                        subst hval
                        have hb := ho.below
                        have HLS := Lib.hid ho.ls
                        have hv2 : w.heap.size + 1 + 1 < V2.heap.size := HR.out.lt
                        have hz23 := hb.size
                        replace HX := Lib.hid (HX.out.bel hb)
                        replace HEn := Lib.hid (HEn.out.bel hb)
                        replace HR := Lib.hid (HR.out.bel hb)
                        replace HB := Lib.hid (HB.out.trans (hb.mono HB.out.size))
                        clear hb
                        clear ho u11 d3 d3' HOW
                        have hz3 := HB.out.size
                        have hN : w.heap.size + 1 + 1 < V3.heap.size := HR.out.lt
                        have HE11 : Hid (e.cs = #[.string e.tx, .int .i64 e.out, .int .i64 e.o.kind, .int .u64 (e.o.am : Nat), .string e.o.key, .string e.o.gate, .int .i64 e.o.ex, .string e.o.anchor, .int .u64 (e.o.unit : Nat), .int .i64 e.o.tok, .string e.o.of_]) := rfl
                        go_wp2_with (first
                          | (refine wpList_store_part rfl 103 (.tmp 2) (.tmp 76) rfl w.heap.size 0 HX.out (s.lists A2 c2 B2 d2).cs (s.lists A2 c2 B2 d2).cs (by rfl) (by rfl) (Nat.le_refl 20) infoSta (stcs_one _) (st_over _ rfl) ?_; intro V4 hb4 hc4; have HX4 := Lib.hid hb4; have HEn4 := Lib.hid (HEn.out.ch hc4 (by simp)); have HR4 := Lib.hid (HR.out.ch hc4 (by simp <;> omega)); have HB4 := Lib.hid (HB.out.trans (hc4.below HB.out.size (by simp))); have HLS4 := Lib.hid (HLS.out.ch hc4 HX.out.kdT); have u11 : V4.cell? ⟨w.heap.size, 11, none⟩ = some (.slice A2 s.tops.length c2) := HX4.out.cell 11; have hz4 := hc4.size; clear hb4 hc4)
                          | (refine wpList_load_blk rfl 89 (.tmp 3) rfl (w.heap.size + 1) 0 11 HEn4.out #[.string e.tx, .int .i64 e.out, .int .i64 e.o.kind, .int .u64 (e.o.am : Nat), .string e.o.key, .string e.o.gate, .int .i64 e.o.ex, .string e.o.anchor, .int .u64 (e.o.unit : Nat), .int .i64 e.o.tok, .string e.o.of_] (by rfl) (by rfl) Tryz.underlying89 infoEnt (Nat.le_refl 11) ?_)
                          | (at_builtin; go_must (refine wpList_append_own _ rfl (.tmp 78) (.tmp 80) _ rfl V2.heap.size 89 i0 _ 11 128 Tryz.underlying85 hi Hhz.out hz1 hz2 rfl (by decide) _ s.tops.length _ rfl (HLS4.out.r1.alloc _) ⟨V4.heap.size, 0, none⟩ 1 1 e.cl rfl rfl (World.news_of_block (cs := e.cs) (heap_alloc_new V4 _)) (encl_one e) (by simp only [maxLen]; omega) (by omega) (by simp; omega) ?_); intro v' V5 hown5 hg5 hnil5; have hb5 : Below V2.heap.size V4 V5 := ((Below.refl _ _).alloc (by omega) _).grown hg5 (by simp; omega) (own_base HLS4.out.r1); have HO5 := Lib.hid hown5; have HX5 := Lib.hid (HX4.out.below hb5 (by omega)); have HR5 := Lib.hid (HR4.out.below hb5 (by omega)); have HB5 := Lib.hid (HB4.out.trans (hb5.mono (by omega))); have HW5 := Lib.hid (own_keptT (HLS4.out.r2.alloc _) (HLS4.out.r1.alloc _) (by decide) hg5); obtain ⟨A5, c5, rfl⟩ := own_form hown5; have z11 : V5.frozen? ⟨w.heap.size, 11, none⟩ = false := HX5.out.frozen 11; have u11b : V5.cell? ⟨w.heap.size, 11, none⟩ = some (.slice A2 s.tops.length c2) := HX5.out.cell 11; have HX6 : Hid (Blk (V5.setCell ⟨w.heap.size, 11, none⟩ (.slice A5 (s.tops.length + 1) c5)) w.heap.size 103 ((s.addtop e).lists A5 c5 B2 d2).cs) := Lib.hid (by have q := HX5.out.set_ 11 (.slice A5 (s.tops.length + 1) c5); rw [top_set11 s e] at q; exact q); have HR6 : Hid (Blk (V5.setCell ⟨w.heap.size, 11, none⟩ (.slice A5 (s.tops.length + 1) c5)) (w.heap.size + 1 + 1) 103 zSt) := Lib.hid (HR5.out.far (p := ⟨w.heap.size, 11, none⟩) (by simp <;> omega) _); have HB6 : Hid (Below w.heap.size w (V5.setCell ⟨w.heap.size, 11, none⟩ (.slice A5 (s.tops.length + 1) c5))) := HB5.out.setCell (by simp) _; have HL6 : Hid (LsAt (s.addtop e) V2.heap.size (V5.setCell ⟨w.heap.size, 11, none⟩ (.slice A5 (s.tops.length + 1) c5)) A5 c5 B2 d2) := Lib.hid (top_ls (own_chT HO5.out (Ch.set_ (S := [w.heap.size]) (b := w.heap.size) (by simp) V5 11 _) HX5.out.kdT (by decide)) (own_chT HW5.out (Ch.set_ (S := [w.heap.size]) (b := w.heap.size) (by simp) V5 11 _) HX5.out.kdT (by decide)) HLS4.out.n2); clear hown5 hg5 hnil5 hb5 HO5 HX5 HR5 HB5 HW5)
                          | (refine wpList_load_blk rfl 103 (.tmp 2) rfl w.heap.size 0 20 HX6.out ((s.addtop e).lists A5 c5 B2 d2).cs (by rfl) (st_ext _) Tryz.underlying103 infoSta (st_le _) ?_)
                          | (refine wpList_store_part rfl 103 (.tmp 4) (.tmp 83) rfl (w.heap.size + 1 + 1) 0 HR6.out ((s.addtop e).lists A5 c5 B2 d2).cs ((s.addtop e).lists A5 c5 B2 d2).cs (by rfl) (by rfl) (Nat.le_refl 20) infoSta (stcs_one _) (st_over _ rfl) ?_; intro W6 hb6 hc6; have HT := Lib.hid hb6; have HC6 := Lib.hid hc6; clear hb6 hc6))
                        refine bodyPost_ret (results_cell_row2 rfl _ HT.out rfl Tryz.underlying103 infoSta) rfl ?_
                        exact ⟨HB6.out.trans (HC6.out.below HB6.out.size (by simp <;> omega)), .inr ⟨rfl, A5, c5, B2, d2, rfl, (HL6.out.mono (by omega)).ch HC6.out HR6.out.kdT⟩⟩
                · have d4 : (e.o.ex != s.lock.o.ex) = true := by simp [bne, beq_eq_false_iff_ne.2 k4]
                  rw [decide_eq_false k4] at HMU
                  obtain rfl : mu = false := HMU.out.trans (by simp)
                  obtain rfl : f = 13 := by rw [HE1.out, if_pos rfl]
                  clear k4
                  refine wp_region_quiet_below (by kernel_rfl) (by kernel_rfl) ?_
                  repeat (first | go_big_quiet_skip | (go_big_quiet_want; first | ((first
                                        | (refine quiet_load_blk 81 (.tmp 6) rfl a6 0 9 HO.out e.o.cs (by rfl) (by rfl) Tryz.underlying81 infoOuC (Nat.le_refl 9) ?_; go_simp)
                                        | (refine quiet_load_blk 103 (.tmp 2) rfl w.heap.size 0 20 HX.out s.cs (by rfl) (st_ext s) Tryz.underlying103 infoSta (st_le s) ?_; go_simp)); go_big_quiet_on) | (go_big_quiet_op; first | go_big_quiet_on | go_big_quiet_call ((first
                                      | (go_at_call 83; exact Calls.rg fun W _ => (HFI W).out)
                                      | (go_at_call 119; exact Calls.rg fun W _ => (HNM W).out))))))
                  refine wpQuiet_nil ?_
                  intro U hp
                  have hb := bel_regrown hp
                  clear hp
                  replace HX := Lib.hid (HX.out.bel hb)
                  replace HEn := Lib.hid (HEn.out.bel hb)
                  replace HR := Lib.hid (HR.out.bel hb)
                  replace HB := Lib.hid (HB.out.trans (hb.mono HB.out.size))
                  clear hb
                  clear q0 q8 q2 q3 q4 p2 p3 p4
                  go_wp2_with (refine wpList_store_part rfl 103 (.tmp 4) (.tmp 56) rfl (w.heap.size + 1 + 1) 0 HR.out zSt zSt (by rfl) (by rfl) (Nat.le_refl 20) infoSta zStO (zStV rfl) ?_; intro W6 hb6 hc6; have HT := Lib.hid hb6; have HC6 := Lib.hid hc6; clear hb6 hc6)
                  refine bodyPost_ret (results_cell_row2 rfl _ HT.out rfl Tryz.underlying103 infoSta) rfl ?_
                  exact ⟨HB.out.trans (HC6.out.below HB.out.size (by simp <;> omega)), .inl ⟨by decide, rfl⟩⟩
              · rw [decide_eq_false k3] at g3 HMU
                obtain rfl : mu = false := HMU.out.trans (by simp)
                obtain rfl : f = 13 := by rw [HE1.out, if_pos rfl]
                clear k3
                refine wp_region_quiet_below (by kernel_rfl) (by kernel_rfl) ?_
                repeat (first | go_big_quiet_skip | (go_big_quiet_want; first | ((first
                                    | (refine quiet_load_blk 81 (.tmp 6) rfl a6 0 9 HO.out e.o.cs (by rfl) (by rfl) Tryz.underlying81 infoOuC (Nat.le_refl 9) ?_; go_simp)
                                    | (refine quiet_load_blk 103 (.tmp 2) rfl w.heap.size 0 20 HX.out s.cs (by rfl) (st_ext s) Tryz.underlying103 infoSta (st_le s) ?_; go_simp)); go_big_quiet_on) | (go_big_quiet_op; first | go_big_quiet_on | go_big_quiet_call ((first
                                  | (go_at_call 83; exact Calls.rg fun W _ => (HFI W).out)
                                  | (go_at_call 119; exact Calls.rg fun W _ => (HNM W).out))))))
                refine wpQuiet_nil ?_
                intro U hp
                have hb := bel_regrown hp
                clear hp
                replace HX := Lib.hid (HX.out.bel hb)
                replace HEn := Lib.hid (HEn.out.bel hb)
                replace HR := Lib.hid (HR.out.bel hb)
                replace HB := Lib.hid (HB.out.trans (hb.mono HB.out.size))
                clear hb
                clear q0 q8 q2 q3 q4 p2 p3 p4
                go_wp2_with (refine wpList_store_part rfl 103 (.tmp 4) (.tmp 56) rfl (w.heap.size + 1 + 1) 0 HR.out zSt zSt (by rfl) (by rfl) (Nat.le_refl 20) infoSta zStO (zStV rfl) ?_; intro W6 hb6 hc6; have HT := Lib.hid hb6; have HC6 := Lib.hid hc6; clear hb6 hc6)
                refine bodyPost_ret (results_cell_row2 rfl _ HT.out rfl Tryz.underlying103 infoSta) rfl ?_
                exact ⟨HB.out.trans (HC6.out.below HB.out.size (by simp <;> omega)), .inl ⟨by decide, rfl⟩⟩
            · rw [decide_eq_false k2] at g2 HMU
              obtain rfl : mu = false := HMU.out.trans (by simp)
              obtain rfl : f = 13 := by rw [HE1.out, if_pos rfl]
              clear k2
              refine wp_region_quiet_below (by kernel_rfl) (by kernel_rfl) ?_
              repeat (first | go_big_quiet_skip | (go_big_quiet_want; first | ((first
                                | (refine quiet_load_blk 81 (.tmp 6) rfl a6 0 9 HO.out e.o.cs (by rfl) (by rfl) Tryz.underlying81 infoOuC (Nat.le_refl 9) ?_; go_simp)
                                | (refine quiet_load_blk 103 (.tmp 2) rfl w.heap.size 0 20 HX.out s.cs (by rfl) (st_ext s) Tryz.underlying103 infoSta (st_le s) ?_; go_simp)); go_big_quiet_on) | (go_big_quiet_op; first | go_big_quiet_on | go_big_quiet_call ((first
                              | (go_at_call 83; exact Calls.rg fun W _ => (HFI W).out)
                              | (go_at_call 119; exact Calls.rg fun W _ => (HNM W).out))))))
              refine wpQuiet_nil ?_
              intro U hp
              have hb := bel_regrown hp
              clear hp
              replace HX := Lib.hid (HX.out.bel hb)
              replace HEn := Lib.hid (HEn.out.bel hb)
              replace HR := Lib.hid (HR.out.bel hb)
              replace HB := Lib.hid (HB.out.trans (hb.mono HB.out.size))
              clear hb
              clear q0 q8 q2 q3 q4 p2 p3 p4
              go_wp2_with (refine wpList_store_part rfl 103 (.tmp 4) (.tmp 56) rfl (w.heap.size + 1 + 1) 0 HR.out zSt zSt (by rfl) (by rfl) (Nat.le_refl 20) infoSta zStO (zStV rfl) ?_; intro W6 hb6 hc6; have HT := Lib.hid hb6; have HC6 := Lib.hid hc6; clear hb6 hc6)
              refine bodyPost_ret (results_cell_row2 rfl _ HT.out rfl Tryz.underlying103 infoSta) rfl ?_
              exact ⟨HB.out.trans (HC6.out.below HB.out.size (by simp <;> omega)), .inl ⟨by decide, rfl⟩⟩
          · rw [decide_eq_false k8] at g8 HMU
            obtain rfl : mu = false := HMU.out.trans (by simp)
            obtain rfl : f = 13 := by rw [HE1.out, if_pos rfl]
            clear k8
            refine wp_region_quiet_below (by kernel_rfl) (by kernel_rfl) ?_
            repeat (first | go_big_quiet_skip | (go_big_quiet_want; first | ((first
                            | (refine quiet_load_blk 81 (.tmp 6) rfl a6 0 9 HO.out e.o.cs (by rfl) (by rfl) Tryz.underlying81 infoOuC (Nat.le_refl 9) ?_; go_simp)
                            | (refine quiet_load_blk 103 (.tmp 2) rfl w.heap.size 0 20 HX.out s.cs (by rfl) (st_ext s) Tryz.underlying103 infoSta (st_le s) ?_; go_simp)); go_big_quiet_on) | (go_big_quiet_op; first | go_big_quiet_on | go_big_quiet_call ((first
                          | (go_at_call 83; exact Calls.rg fun W _ => (HFI W).out)
                          | (go_at_call 119; exact Calls.rg fun W _ => (HNM W).out))))))
            refine wpQuiet_nil ?_
            intro U hp
            have hb := bel_regrown hp
            clear hp
            replace HX := Lib.hid (HX.out.bel hb)
            replace HEn := Lib.hid (HEn.out.bel hb)
            replace HR := Lib.hid (HR.out.bel hb)
            replace HB := Lib.hid (HB.out.trans (hb.mono HB.out.size))
            clear hb
            clear q0 q8 q2 q3 q4 p2 p3 p4
            go_wp2_with (refine wpList_store_part rfl 103 (.tmp 4) (.tmp 56) rfl (w.heap.size + 1 + 1) 0 HR.out zSt zSt (by rfl) (by rfl) (Nat.le_refl 20) infoSta zStO (zStV rfl) ?_; intro W6 hb6 hc6; have HT := Lib.hid hb6; have HC6 := Lib.hid hc6; clear hb6 hc6)
            refine bodyPost_ret (results_cell_row2 rfl _ HT.out rfl Tryz.underlying103 infoSta) rfl ?_
            exact ⟨HB.out.trans (HC6.out.below HB.out.size (by simp <;> omega)), .inl ⟨by decide, rfl⟩⟩
      · have d0 : (e.o.kind != 3) = true := by simp [bne, beq_eq_false_iff_ne.2 k0]
        rw [decide_eq_false k0] at HMU
        obtain rfl : mu = false := HMU.out.trans (by simp)
        obtain rfl : f = 13 := by rw [HE1.out, if_pos rfl]
        clear k0
        refine wp_region_quiet_below (by kernel_rfl) (by kernel_rfl) ?_
        repeat (first | go_big_quiet_skip | (go_big_quiet_want; first | ((first
                    | (refine quiet_load_blk 81 (.tmp 6) rfl a6 0 9 HO.out e.o.cs (by rfl) (by rfl) Tryz.underlying81 infoOuC (Nat.le_refl 9) ?_; go_simp)
                    | (refine quiet_load_blk 103 (.tmp 2) rfl w.heap.size 0 20 HX.out s.cs (by rfl) (st_ext s) Tryz.underlying103 infoSta (st_le s) ?_; go_simp)); go_big_quiet_on) | (go_big_quiet_op; first | go_big_quiet_on | go_big_quiet_call ((first
                  | (go_at_call 83; exact Calls.rg fun W _ => (HFI W).out)
                  | (go_at_call 119; exact Calls.rg fun W _ => (HNM W).out))))))
        refine wpQuiet_nil ?_
        intro U hp
        have hb := bel_regrown hp
        clear hp
        replace HX := Lib.hid (HX.out.bel hb)
        replace HEn := Lib.hid (HEn.out.bel hb)
        replace HR := Lib.hid (HR.out.bel hb)
        replace HB := Lib.hid (HB.out.trans (hb.mono HB.out.size))
        clear hb
        clear q0 q8 q2 q3 q4 p2 p3 p4
        go_wp2_with (refine wpList_store_part rfl 103 (.tmp 4) (.tmp 56) rfl (w.heap.size + 1 + 1) 0 HR.out zSt zSt (by rfl) (by rfl) (Nat.le_refl 20) infoSta zStO (zStV rfl) ?_; intro W6 hb6 hc6; have HT := Lib.hid hb6; have HC6 := Lib.hid hc6; clear hb6 hc6)
        refine bodyPost_ret (results_cell_row2 rfl _ HT.out rfl Tryz.underlying103 infoSta) rfl ?_
        exact ⟨HB.out.trans (HC6.out.below HB.out.size (by simp <;> omega)), .inl ⟨by decide, rfl⟩⟩
end Go.Proofs.YtjcinncphffgaaaGreat
namespace Go.Proofs.YtjcinncphffgaaaGreat
open Go.RowKit Go.Maps
def newS (e : En) : St := ⟨e, none, [], 0, 0, ByteArray.empty, ByteArray.empty, none, [], 0, 0, 0, 0, false⟩
def newB (e : En) (fb : Bool) : Bool := decide (e.o.kind = 2) && fb
theorem newS_mem (e : En) (w : World) : (newS e).mem w := ⟨Sl.nil _ _ _ _ _, Sl.nil _ _ _ _ _, fun _ => rfl, fun _ => rfl⟩
set_option maxRecDepth 100000 in
set_option maxHeartbeats 2000000 in
theorem xnew_any (e : En) (w : World) (fb : Bool) (HFT : ∀ W, Calls Tryz.prog 83 #[.agg e.o.cs] W fun e' w' => e' = .returned (.bool fb) ∧ Below W.heap.size W w') :
    Calls Tryz.prog 39 #[.agg e.cs] w fun e' w' => e' = .returned (.tuple #[.agg (if newB e fb then (newS e).cs else zSt), .int .i64 (if newB e fb then 0 else 1)]) ∧ Below w.heap.size w w' := by
  have HEn : Hid (Blk ((w.alloc (.cells e.cs 89)).alloc (.cells zSt 103)) w.heap.size 89 e.cs) := Lib.hid ((Blk.new _ _ _).alloc _)
  have HR : Hid (Blk ((w.alloc (.cells e.cs 89)).alloc (.cells zSt 103)) (w.heap.size + 1) 103 zSt) := Blk.newAt (by simp)
  have HB : Hid (Below w.heap.size w ((w.alloc (.cells e.cs 89)).alloc (.cells zSt 103))) := ((Below.refl _ _).alloc (Nat.le_refl _) _).alloc (by simp) _
  have HFI := fun W => Lib.hid (HFT W)
  have c2 : ∀ o, ((w.alloc (.cells e.cs 89)).alloc o).cell? ⟨w.heap.size, 2, none⟩ = some (.int .i64 e.o.kind) := fun o => Blk.cell ((Blk.new w 89 e.cs).alloc o) 2
  have HN : Hid (newB e fb = (decide (e.o.kind = 2) && fb)) := rfl
  generalize newB e fb = nb at HN ⊢
  clear HFT
  by_cases k : e.o.kind = 2
  · have d : (e.o.kind != 2) = false := by simp [k]
    rw [decide_eq_true k] at HN
    obtain rfl : nb = fb := by rw [HN.out]; simp
    clear k HN
    go_enter Tryz.func39, Tryz.ntmps39
    go_wp2_with (refine wpList_load_blkG (by rfl) 81 (.tmp 9) rfl w.heap.size 2 9 HEn.out e.o.cs (by rfl) (en_part e) Tryz.underlying81 infoOuC (by show 11 ≤ 11; omega) ?_)
    refine (HFI _).out.mono ?_
    rintro e' W ⟨rfl, hb⟩
    replace HEn := Lib.hid (HEn.out.bel hb)
    replace HR := Lib.hid (HR.out.bel hb)
    replace HB := Lib.hid (HB.out.trans (hb.mono HB.out.size))
    clear hb c2 HFI d
    cases nb with
    | true =>
      go_wp2_with (first
        | (refine wpList_load_blk rfl 89 (.tmp 1) rfl w.heap.size 0 11 HEn.out #[.string e.tx, .int .i64 e.out, .int .i64 e.o.kind, .int .u64 (e.o.am : Nat), .string e.o.key, .string e.o.gate, .int .i64 e.o.ex, .string e.o.anchor, .int .u64 (e.o.unit : Nat), .int .i64 e.o.tok, .string e.o.of_] (by rfl) (by rfl) Tryz.underlying89 infoEnt (Nat.le_refl 11) ?_)
        | (refine wpList_store_part rfl 103 (.tmp 2) (.tmp 16) rfl (w.heap.size + 1) 0 HR.out (newS e).cs (newS e).cs (by rfl) (by rfl) (Nat.le_refl 20) infoSta (stcs_one _) (st_over _ rfl) ?_; intro W6 hb6 hc6; have HT := Lib.hid hb6; have HC6 := Lib.hid hc6; clear hb6 hc6))
      exact bodyPost_ret (results_cell_row2 rfl _ HT.out rfl Tryz.underlying103 infoSta) rfl ⟨rfl, HB.out.trans (HC6.out.below HB.out.size (by simp))⟩
    | false =>
      go_wp2_with (refine wpList_store_part rfl 103 (.tmp 2) (.tmp 14) rfl (w.heap.size + 1) 0 HR.out zSt zSt (by rfl) (by rfl) (Nat.le_refl 20) infoSta zStO (zStV rfl) ?_; intro W6 hb6 hc6; have HT := Lib.hid hb6; have HC6 := Lib.hid hc6; clear hb6 hc6)
      exact bodyPost_ret (results_cell_row2 rfl _ HT.out rfl Tryz.underlying103 infoSta) rfl ⟨rfl, HB.out.trans (HC6.out.below HB.out.size (by simp))⟩
  · have d : (e.o.kind != 2) = true := by simp [bne, beq_eq_false_iff_ne.2 k]
    rw [decide_eq_false k] at HN
    obtain rfl : nb = false := by rw [HN.out]; simp
    clear k HN HFI
    go_enter Tryz.func39, Tryz.ntmps39
    go_wp2_with (refine wpList_store_part rfl 103 (.tmp 2) (.tmp 14) rfl (w.heap.size + 1) 0 HR.out zSt zSt (by rfl) (by rfl) (Nat.le_refl 20) infoSta zStO (zStV rfl) ?_; intro W6 hb6 hc6; have HT := Lib.hid hb6; have HC6 := Lib.hid hc6; clear hb6 hc6)
    exact bodyPost_ret (results_cell_row2 rfl _ HT.out rfl Tryz.underlying103 infoSta) rfl ⟨rfl, HB.out.trans (HC6.out.below HB.out.size (by simp))⟩
end Go.Proofs.YtjcinncphffgaaaGreat
namespace Go.Proofs.YtjcinncphffgaaaGreat
open Go.RowKit Go.Maps
end Go.Proofs.YtjcinncphffgaaaGreat
namespace Go.Proofs.YtjcinncphffgaaaGreat
open Go.RowKit Go.Maps
def St.pf (s : St) (B : Option Addr) (d : Nat) : Pf := ⟨s.am, s.sig, s.tok, B, s.wins, d⟩
end Go.Proofs.YtjcinncphffgaaaGreat
namespace Go.Proofs.YtjcinncphffgaaaGreat
open Go.RowKit Go.Maps
end Go.Proofs.YtjcinncphffgaaaGreat
namespace Go.Proofs.YtjcinncphffgaaaGreat
open Go.RowKit Go.Maps
end Go.Proofs.YtjcinncphffgaaaGreat
namespace Go.Proofs.YtjcinncphffgaaaGreat
open Go.RowKit Go.Maps
end Go.Proofs.YtjcinncphffgaaaGreat
namespace Go.Proofs.YtjcinncphffgaaaGreat
open Go.RowKit Go.Maps
end Go.Proofs.YtjcinncphffgaaaGreat
namespace Go.Proofs.YtjcinncphffgaaaGreat
open Go.RowKit Go.Maps
/-- a call of a script -/
structure Op17 where
  kind : Int
  am : Nat
  s : ByteArray
  x : Wn
  e : En
  r : Nat
/-- a state of a channel that was made -/
structure St.good (s : St) (mt : Nat) : Prop where
  fit : s.fit
  an : s.lock.o.anchor.size = 16
  tok : s.lock.o.tok = (mt : Int)
  mt : mt ≤ 4096
  tops : s.tops.length ≤ 900
  wins : s.wins.length ≤ 900
end Go.Proofs.YtjcinncphffgaaaGreat
