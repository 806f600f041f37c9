/- wots.Step; the calls of Tag with one, two, three parts. wots.digits. wots: what the two iterators yield. wots.Public, Sign, From. A region that draws its order, in a round of a range over a function: as outside of it, if it defers nothing. wots.Sign. wots.From. -/
import Derived.Outline
import Derived.RangeFuncNested
import Derived.RangeFuncBound
import Derived.RangeFuncCalls
import Derived.RangeFuncLeaves
import Derived.Shelf.Abstract
import Derived.Shelf.RegionOpen
import Derived.OwnWalkIn
import Derived.TacticsInMore
import Derived.LoopNIn
import Derived.LoopIn
import Derived.RangeFuncWrites
import Derived.RangeFuncBox
import Derived.Test.YtjcinncphffgaaaGreatMjNum
import Derived.Test.YtjcinncphffgaaaGreatMjSha
set_option linter.unusedVariables false
set_option linter.unusedSimpArgs false
namespace Go.Proofs.YtjcinncphffgaaaGreat
open Go.RowKit
theorem sl_lit {w : World} {g : Nat} {t : TypeId} {cs : Array Value} {l : List ByteArray} (h : Blk w g t cs) (e : cs.toList = l.flatMap strC) : Sl w w.heap.size 1 strC (some ⟨g, 0, none⟩) l := fun _ =>
  ⟨g, 0, rfl, h.lt, fun i x hx j u hu => by
    have hc := Blk.cell h (0 + i * 1 + j)
    have h2 : cs.toList[i * 1 + j]? = some u := by rw [e]; exact flatMap_get strC 1 (fun _ => rfl) l i j x u hx hu
    rw [Nat.zero_add] at hc ⊢
    rw [hc, ← Array.getElem?_toList]
    exact h2⟩
theorem tag1 (word a : ByteArray) (w : World) (g : Nat) (hg : g = w.heap.size) (hw : word.size ≤ 1000) (ha : a.size ≤ 1000000) :
    Calls Tryz.prog 70 #[.string word, .slice (some ⟨g, 0, none⟩) 1 1] (w.alloc (.cells #[.string a] 9)) fun e w' => e = .returned (.string (tagB word [a])) ∧ Below w.heap.size w w' :=
  by subst hg; exact (tag_any word _ 1 [a] _ hw (by simp) (by simpa using ha) (sl_lit (Blk.new w _ _) rfl)).mono fun _ _ ⟨he, hb⟩ => ⟨he, ((Below.refl _ _).alloc (Nat.le_refl _) _).trans (hb.mono (by simp))⟩
theorem tag2 (word a b : ByteArray) (w : World) (g : Nat) (hg : g = w.heap.size) (hw : word.size ≤ 1000) (ha : a.size ≤ 1000000) (hb : b.size ≤ 1000000) :
    Calls Tryz.prog 70 #[.string word, .slice (some ⟨g, 0, none⟩) 2 2] (w.alloc (.cells #[.string a, .string b] 9)) fun e w' => e = .returned (.string (tagB word [a, b])) ∧ Below w.heap.size w w' :=
  by subst hg; exact (tag_any word _ 2 [a, b] _ hw (by simp) (by simpa using ⟨ha, hb⟩) (sl_lit (Blk.new w _ _) rfl)).mono fun _ _ ⟨he, hb⟩ => ⟨he, ((Below.refl _ _).alloc (Nat.le_refl _) _).trans (hb.mono (by simp))⟩
theorem tag3 (word a b c : ByteArray) (w : World) (g : Nat) (hg : g = w.heap.size) (hw : word.size ≤ 1000) (ha : a.size ≤ 1000000) (hb : b.size ≤ 1000000) (hc : c.size ≤ 1000000) :
    Calls Tryz.prog 70 #[.string word, .slice (some ⟨g, 0, none⟩) 3 3] (w.alloc (.cells #[.string a, .string b, .string c] 9)) fun e w' => e = .returned (.string (tagB word [a, b, c])) ∧ Below w.heap.size w w' :=
  by subst hg; exact (tag_any word _ 3 [a, b, c] _ hw (by simp) (by simpa using ⟨ha, hb, hc⟩) (sl_lit (Blk.new w _ _) rfl)).mono fun _ _ ⟨he, hb⟩ => ⟨he, ((Below.refl _ _).alloc (Nat.le_refl _) _).trans (hb.mono (by simp))⟩
set_option maxRecDepth 100000 in
set_option maxHeartbeats 400000 in
theorem step_any (p n : Nat) (x : ByteArray) (w : World) (hp : p < 18) (hn : n ≤ 15) (hx : x.size = 16) :
    Calls Tryz.prog 145 #[.int .i64 p, .string x, .int .i64 n] w fun e w' => e = .returned (.string (stepN p n x)) ∧ Below w.heap.size w w' := by
  have g1 : decide ((p : Int) < 0) = false := decide_eq_false (by omega)
  have g2 : decide ((18 : Int) ≤ p) = false := decide_eq_false (by omega)
  have g3 : ((x.size : Int) != 16) = false := by rw [hx]; rfl
  have g4 : decide ((n : Int) < 0) = false := decide_eq_false (by omega)
  have g5 : decide ((15 : Int) < n) = false := decide_eq_false (by omega)
  have HX := Lib.hid hx
  clear hx
  go_enter Tryz.func145, Tryz.ntmps145
  go_wp2_with fail
  go_loopw [1, 27] (fun t i wr => ∃ k : Nat, k ≤ n ∧ i = .int .i64 k ∧ t = .string (stepN p k x) ∧ Hid (Below w.heap.size w wr)) (fun _ i _ => n - (intOf i).toNat)
  case atStart => exact ⟨0, by omega, rfl, rfl, Below.refl _ _⟩
  case round =>
    obtain ⟨k, hk, rfl, rfl, HB⟩ := hrel
    have hzs : (stepN p k x).size ≤ 1000000 := by rw [stepN_size p HX.out]; omega
    have hN : Hid (stepN p (k + 1) x = stp p (stepN p k x)) := rfl
    have HZ2 : Hid ((stepN p k x).size ≤ 1000000) := hzs
    clear hzs
    generalize ht : stepN p k x = t at hN HZ2
    have HT := Lib.hid ht
    clear ht
    by_cases hkn : k < n
    · have kc := conv1
      go_wp2_with fail
      clear kc
      refine (tag2 _ _ _ _ _ (by simp) (by decide) (by rw [num1_size]; omega) HZ2.out).mono ?_
      rintro e w1 ⟨rfl, hb⟩
      go_wp2_with fail
      go_roundw
      case rel => exact ⟨k + 1, by omega, by go_num, by rw [hN.out]; rfl, ((HB.out.alloc HB.out.size _).trans (hb.mono (by simp; have := HB.out.size; omega)))⟩
      case measure => simp [intOf]; omega
    · obtain rfl : k = n := by omega
      go_wp2_with fail
      go_ret
      exact ⟨ret_str HT.out.symm, HB.out⟩
end Go.Proofs.YtjcinncphffgaaaGreat
namespace Go.Proofs.YtjcinncphffgaaaGreat
open Go.RowKit
def dgK (msg : ByteArray) (m : Nat) : Array Value := ((List.range 18).map fun i => Value.int .i64 (if i < m then (digN msg i : Int) else 0)).toArray
theorem dgK_size (msg : ByteArray) (m : Nat) : (dgK msg m).size = 18 := by simp [dgK]
theorem dgK_get (msg : ByteArray) (m i : Nat) (h : i < 18) : (dgK msg m)[i]? = some (.int .i64 (if i < m then (digN msg i : Int) else 0)) := by
  simp [dgK, h]
theorem dgK_set (msg : ByteArray) (m : Nat) (h : m < 18) : (dgK msg m).setIfInBounds m (.int .i64 (digN msg m)) = dgK msg (m + 1) := by
  apply Array.ext_getElem?
  intro i
  by_cases hi : i < 18
  · rw [dgK_get _ _ _ hi, Array.getElem?_setIfInBounds, dgK_size, dgK_get _ _ _ hi]
    by_cases e : m = i
    · subst e
      rw [if_pos rfl, if_pos h, if_pos (by omega)]
    · rw [if_neg e]
      by_cases hl : i < m
      · rw [if_pos hl, if_pos (by omega)]
      · rw [if_neg hl, if_neg (by omega)]
  · rw [Array.getElem?_eq_none (by simp [dgK_size]; omega), Array.getElem?_eq_none (by simp [dgK_size]; omega)]
theorem dgK_one (msg : ByteArray) (m : Nat) : (dgK msg m).all (·.oneCell') = true := by
  rw [Array.all_eq_true]
  intro i h
  have h18 : i < 18 := by rw [dgK_size] at h; exact h
  have := dgK_get msg m i h18
  rw [Array.getElem?_eq_getElem h] at this
  injection this with this
  rw [this]; rfl
theorem digit_lo (msg : ByteArray) (k : Nat) (h : k < 8) : (digN msg (k + k) : Int) = (digC msg k : Int) / 16 := by
  unfold digN
  rw [if_pos (by omega), if_pos (by omega), show (k + k) / 2 = k by omega]; omega
theorem digit_hi (msg : ByteArray) (k : Nat) (h : k < 8) : (digN msg (k + k + 1) : Int) = (digC msg k : Int) % 16 := by
  unfold digN
  rw [if_pos (by omega), if_neg (by omega), show (k + k + 1) / 2 = k by omega]; omega
set_option maxRecDepth 100000 in
set_option maxHeartbeats 1000000 in
theorem digits_any (msg : ByteArray) (w : World) (hm : msg.size ≤ 1000000) :
    Calls Tryz.prog 153 #[.string msg] w fun e w' => e = .returned (.agg (dgK msg 18)) ∧ Below w.heap.size w w' := by
  go_enter Tryz.func153, Tryz.ntmps153
  go_wp2_with fail
  refine (tag1 _ _ _ _ (by simp) (by decide) hm).mono ?_
  rintro e w1 ⟨rfl, hb⟩
  have HT : Hid (tagB ⟨#[109, 101, 115, 115, 97, 103, 101]⟩ [msg] = tagB wMessage [msg]) := rfl
  have hsz : (tagB ⟨#[109, 101, 115, 115, 97, 103, 101]⟩ [msg]).size = 16 := tagB_size _ _
  obtain ⟨cap, W2, kc, hcells, hb2, hsz2⟩ := conv_bytes w1 ((tagB ⟨#[109, 101, 115, 115, 97, 103, 101]⟩ [msg]).extract 0 8) 8 (by rw [ByteArray.size_extract, hsz]; rfl)
  have h8 : (8 : Int) ≤ (tagB ⟨#[109, 101, 115, 115, 97, 103, 101]⟩ [msg]).size := by rw [hsz]; decide
  have HR : Hid (Blk w1 w.heap.size 255 (dgK msg 0)) := by
    have h := Blk.bel ((Blk.new w 255 (dgK msg 0)).alloc _) hb
    exact h
  have HD : Hid (Blk w1 (w.heap.size + 1) 255 (dgK msg 0)) := by
    have h := Blk.bel (Blk.new _ _ _) hb
    rw [World.size_alloc] at h
    exact h
  have HB : Hid (Below w.heap.size w W2) := (((Below.refl _ _).alloc (Nat.le_refl _) _).alloc (by simp) _).trans ((hb.mono (by simp; omega)).trans (hb2.mono (by have := hb.size; simp at this; omega)))
  have hz1 : w.heap.size + 1 < w1.heap.size := by have := hb.size; simp at this; omega
  have HB2 := Lib.hid hb2
  have HC : Hid (∀ q, q < 8 → W2.cell? ⟨w1.heap.size, q, none⟩ = some (.int .u8 (digC msg q))) := fun q hq => by
    rw [hcells q hq, byI_ext _ _ _ _ (by omega), Nat.zero_add]; rfl
  have HR2 : Hid (Blk W2 w.heap.size 255 (dgK msg 0)) := HR.out.below hb2 (by omega)
  have HD2 : Hid (Blk W2 (w.heap.size + 1) 255 (dgK msg 0)) := HD.out.below hb2 (by omega)
  clear hb hb2 hcells hsz HT HR HD HB2
  go_wp2_with fail
  clear kc h8
  go_loopw [4, 13] (fun s i wr => ∃ k : Nat, k ≤ 8 ∧ i = .int .i64 k ∧ s = .int .i64 (lackN msg k) ∧ Hid (Blk wr (w.heap.size + 1) 255 (dgK msg (k + k))) ∧ Hid (Blk wr w.heap.size 255 (dgK msg 0)) ∧ Hid (∀ q, q < 8 → wr.cell? ⟨w1.heap.size, q, none⟩ = some (.int .u8 (digC msg q))) ∧ Hid (Below w.heap.size w wr)) (fun _ i _ => 8 - (intOf i).toNat)
  case atStart => exact ⟨0, by omega, rfl, rfl, HD2, HR2, HC, HB⟩
  case round =>
    obtain ⟨k, hk, rfl, rfl, HD, HR, HC, HB⟩ := hrel
    have hlk := lackN_le msg k
    by_cases hk8 : k < 8
    · have hc := HC.out k hk8
      have hlt := digC_lt msg k
      have lo := digit_lo msg k hk8
      have hi := digit_hi msg k hk8
      have hl2 : ((lackN msg (k + 1) : Nat) : Int) = lackN msg k + (30 - (digC msg k : Int) / 16 - (digC msg k : Int) % 16) := by rw [lackN]; omega
      have c1 : wr.cell? ⟨w.heap.size + 1, k + k, none⟩ = some (.int .i64 0) := by rw [Blk.cell HD.out, dgK_get _ _ _ (by omega), if_neg (by omega)]
      have c2 : wr.cell? ⟨w.heap.size + 1, k + k + 1, none⟩ = some (.int .i64 0) := by rw [Blk.cell HD.out, dgK_get _ _ _ (by omega), if_neg (by omega)]
      have f1 := Blk.frozen HD.out (k + k)
      have f2 := Blk.frozen HD.out (k + k + 1)
      have HS : Hid (((dgK msg (k + k)).setIfInBounds (k + k) (.int .i64 ((digC msg k : Int) / 16))).setIfInBounds (k + k + 1) (.int .i64 ((digC msg k : Int) % 16)) = dgK msg (k + 1 + (k + 1))) := by
        show _ = _
        rw [← lo, ← hi, dgK_set _ _ (by omega), dgK_set _ _ (by omega), show k + k + 1 + 1 = k + 1 + (k + 1) by omega]
      have HL := Lib.hid hl2
      clear lo hi hl2
      generalize digC msg k = c at hc hlt HS HL
      go_wp2_with fail
      go_quiet (fail)
      go_wp2_with fail
      go_roundw
      case rel =>
        refine ⟨k + 1, by omega, by go_num, by rw [HL.out], ?_, ?_, fun q hq => ?_, ((below_drewN HB.out _).setCell (by simp) _).setCell (by simp) _⟩
        · rw [← HS.out]
          exact ((HD.out.set_ _ _).set_ _ _).drewN _
        · exact ((HR.out.far (by simp) _).far (by simp) _).drewN _
        · have h1 : ¬ w1.heap.size = w.heap.size + 1 := by omega
          have := HC.out q hq
          show World.cell? ((wr.setCell _ _).setCell _ _) _ = _
          rw [World.cell?_setCell_other _ _ _ _ (by simp <;> omega), World.cell?_setCell_other _ _ _ _ (by simp <;> omega)]
          exact this
      case measure => simp [intOf]; omega
    · obtain rfl : k = 8 := by omega
      have d16 : ((lackN msg 8 : Nat) : Int) / 16 = digN msg 16 := by simp [digN]
      have d17 : ((lackN msg 8 : Nat) : Int) % 16 = digN msg 17 := by simp [digN]
      have c1 : wr.cell? ⟨w.heap.size + 1, 16, none⟩ = some (.int .i64 0) := by rw [Blk.cell HD.out, dgK_get _ _ _ (by omega), if_neg (by omega)]
      have c2 : wr.cell? ⟨w.heap.size + 1, 17, none⟩ = some (.int .i64 0) := by rw [Blk.cell HD.out, dgK_get _ _ _ (by omega), if_neg (by omega)]
      have f1 := Blk.frozen HD.out 16
      have f2 := Blk.frozen HD.out 17
      have hX : Blk ((wr.setCell ⟨w.heap.size + 1, 16, none⟩ (.int .i64 ((lackN msg 8 : Nat) / 16))).setCell ⟨w.heap.size + 1, 17, none⟩ (.int .i64 ((lackN msg 8 : Nat) % 16))) (w.heap.size + 1) 255 (dgK msg 18) := by
        have := (HD.out.set_ 16 (.int .i64 ((lackN msg 8 : Nat) / 16))).set_ 17 (.int .i64 ((lackN msg 8 : Nat) % 16))
        rw [d16, d17, dgK_set _ _ (by omega), dgK_set _ _ (by omega)] at this
        exact this
      have hY : Blk ((wr.setCell ⟨w.heap.size + 1, 16, none⟩ (.int .i64 ((lackN msg 8 : Nat) / 16))).setCell ⟨w.heap.size + 1, 17, none⟩ (.int .i64 ((lackN msg 8 : Nat) % 16))) w.heap.size 255 (dgK msg 0) := (HR.out.far (by simp) _).far (by simp) _
      have hYA := hY.setAll (dgK msg 18).toList (by simp [dgK_size])
      rw [Array.toArray_toList] at hYA
      have HY := Lib.hid hYA
      have HBX := Lib.hid ((HB.out.setCell (p := ⟨w.heap.size + 1, 16, none⟩) (by simp) (.int .i64 ((lackN msg 8 : Nat) / 16))).setCell (p := ⟨w.heap.size + 1, 17, none⟩) (by simp) (.int .i64 ((lackN msg 8 : Nat) % 16)))
      have hth : Hid (World.there ((wr.setCell ⟨w.heap.size + 1, 16, none⟩ (.int .i64 ((lackN msg 8 : Nat) / 16))).setCell ⟨w.heap.size + 1, 17, none⟩ (.int .i64 ((lackN msg 8 : Nat) % 16))) w.heap.size 0 18) := fun j hj => ⟨by rw [hY.cell, dgK_get _ _ _ (by omega)]; rfl, hY.frozen _⟩
      have HX := Lib.hid hX
      have h1c := dgK_one msg 18
      have hs18 := dgK_size msg 18
      have hi18 : (Tryz.prog.info? 255).map (·.size) = some (dgK msg 18).size := by rw [hs18]; kernel_rfl
      clear hX hY hYA d16 d17
      generalize hcs : dgK msg 18 = cs at HX HY h1c hs18 hi18
      have HCS := Lib.hid hcs
      have H1C := Lib.hid h1c
      have HI18 := Lib.hid hi18
      rw [← hs18] at hth
      clear hcs h1c hi18 hs18
      go_wp2_with (first
        | (refine wpList_load_row rfl 255 (.tmp 3) rfl (w.heap.size + 1) rfl 255 cs (0, 0) _ HX.out Tryz.underlying255 rfl HI18.out ?_)
        | (refine wpList_store_mid rfl 255 (.tmp 2) (.tmp 55) rfl w.heap.size 0 cs rfl rfl hth.out HI18.out H1C.out ?_))
      have hbz := HBX.out.size
      exact bodyPost_ret (v := .agg cs) (results_cell_row (P := Tryz.prog) (fn := Tryz.f153) rfl _ _ w.heap.size 255 cs (0, 0) _ rfl HY.out Tryz.underlying255 rfl HI18.out) rfl ⟨by rw [HCS.out], HBX.out.trans ((Ch.setCells (S := [w.heap.size]) (by simp) _ _ _).below hbz (by simp))⟩
end Go.Proofs.YtjcinncphffgaaaGreat
namespace Go.Proofs.YtjcinncphffgaaaGreat
open Go.RowKit Go.Shelf
attribute [local go_sem] Oper.semAt_some
abbrev PT := Fin 18 × {x : ByteArray // x.size = 16}
def encP (p : PT) : Array Value := #[.int .i64 (p.1.val : Int), .string p.2.val]
def ptsL (f : Nat → ByteArray) (hf : ∀ i, i < 18 → (f i).size = 16) : Nat → List PT
  | 0 => []
  | n + 1 => ptsL f hf n ++ [(⟨n % 18, Nat.mod_lt _ (by decide)⟩, ⟨f (n % 18), hf _ (Nat.mod_lt _ (by decide))⟩)]
theorem ptsL_length (f : Nat → ByteArray) (hf : ∀ i, i < 18 → (f i).size = 16) : ∀ n, (ptsL f hf n).length = n
  | 0 => rfl
  | n + 1 => by rw [ptsL, List.length_append, ptsL_length f hf n]; rfl
/-- what a round keeps: every block from before, but one -/
def KpB (n₀ b : Nat) (W W' : World) : Prop := ∀ k, k < n₀ → k ≠ b → W'.heap[k]? = W.heap[k]?
theorem grown_of_below {w w' : World} (h : Below w.heap.size w w') : w.grownBy w' none := ⟨h.os, h.tape, h.output, h.size, fun k hk _ => h.block k hk⟩
theorem abides_below {β : Type} {B : Nat} {J : β → World → Prop} (hJ : AbidesFrom B J) {s : β} {W W' : World} (h : J s W) (hb : Below W.heap.size W W') : J s W' := hJ s W W' none h (grown_of_below hb) (fun _ e => by cases e)
set_option maxRecDepth 100000 in
set_option maxHeartbeats 2000000 in
theorem secrets_stops (n Bn ball : Nat) (seed : ByteArray) (w : World) (hs : seed.size ≤ 1000000) (hlt : Bn < w.heap.size) (hne : Bn ≠ ball) (hb : Blk w Bn 9 #[.string seed]) :
    SeqStopsK Fence.wide n Tryz.prog 184 #[.pointer (some ⟨Bn, 0, none⟩)] encP (KpB w.heap.size ball) (fun xs => xs = ptsL (secB seed) (fun i _ => secB_size seed i) 18) (fun _ => True) 18 w := fun l J Jx W hW hJ hJx hY h0 => by
  have HJ := Lib.hid hJ
  have HY := Lib.hid hY
  have H0 := Lib.hid h0
  have HBN := Lib.hid (hb.bel hW)
  have hwz := hW.size
  clear hJ hJx hY h0 hb hW
  refine callsIn_of_wp Tryz.func184 rfl trivial ?_ rfl
  simp only [Tryz.ntmps184, List.size_toArray, List.length_cons, List.length_nil, Nat.reduceAdd, Nat.reduceSub, Array.replicate_succ, Array.replicate_zero, List.push_toArray, List.append_toArray, List.nil_append, List.cons_append]
  gi_wp2
  gi_loopw [4] (fun i wr => ∃ k : Nat, k ≤ 18 ∧ i = .int .i64 k ∧ Hid (J (ptsL (secB seed) (fun i _ => secB_size seed i) k) wr) ∧ Hid (Blk wr Bn 9 #[.string seed])) (fun i _ => 18 - (intOf i).toNat)
  case atStart => exact ⟨0, by omega, rfl, H0, HBN⟩
  case round =>
    obtain ⟨k, hk, rfl, HJk, HB⟩ := hrel
    by_cases hk18 : k < 18
    · have c0 : wr.cell? ⟨Bn, 0, none⟩ = some (.string seed) := HB.out.cell 0
      have kc := conv1
      gi_wp2_with fail
      clear kc
      refine ⟨trivial, (fun h => absurd h (by decide)), ?_⟩
      refine (callsIn_wide.2 (tag2 _ seed _ _ _ (by simp) (by decide) hs (by rw [num1_size]; omega))).mono ?_
      rintro e w1 ⟨rfl, hb1⟩
      have hbw : Below wr.heap.size wr w1 := ((Below.refl _ _).alloc (Nat.le_refl _) _).trans (hb1.mono (by simp))
      have HB1 := Lib.hid (HB.out.bel hbw)
      obtain ⟨fn, tmps, assign, body, hy, hR⟩ := HY.out _ (⟨k % 18, Nat.mod_lt _ (by decide)⟩, ⟨secB seed (k % 18), secB_size seed _⟩) w1 (abides_below HJ.out HJk.out hbw) (by rw [ptsL_length]; exact hk18)
      have hyy : (Instr.yield l #[.int .i64 (k : Int), .string (tagB ⟨#[115, 101, 99, 114, 101, 116]⟩ [seed, strOfNums [(k : Int)]])]).run Tryz.prog w1 = .ok (.round l fn tmps assign body) w1 := by
        have := hy
        simp only [encP, Nat.mod_eq_of_lt hk18] at this
        exact this
      clear hy hb1 hbw
      gi_wp2_with fail
      refine ⟨(fun h => absurd h (by decide)), hR.mono ?_⟩
      rintro e W' (⟨rfl, hJ', hk'⟩ | ⟨rfl, hJx'⟩)
      · have HB' : Hid (Blk W' Bn 9 #[.string seed]) := (hk' Bn hlt hne).trans HB1.out
        have HJ' := Lib.hid hJ'
        clear hJ' hk' hyy
        gi_wp2_with fail
        go_roundw
        case rel => exact ⟨k + 1, by omega, by go_num, HJ', HB'⟩
        case measure => simp [intOf]; omega
      · clear hyy
        gi_wp2_with fail
        refine bodyPost_ret (results_none rfl _ _ _) rfl ?_
        exact ⟨⟨_, rfl⟩, .inr ⟨_, trivial, hJx'⟩⟩
    · obtain rfl : k = 18 := by omega
      gi_wp2_with fail
      go_end0
      exact ⟨⟨_, rfl⟩, .inl ⟨_, rfl, HJk.out⟩⟩
def partB (sig : ByteArray) (i : Nat) : ByteArray := sig.extract (16 * i) (16 * (i + 1))
theorem partB_size {sig : ByteArray} (h : sig.size = 288) (i : Nat) (hi : i < 18) : (partB sig i).size = 16 := by
  rw [partB, ByteArray.size_extract, h]; omega
set_option maxRecDepth 100000 in
set_option maxHeartbeats 2000000 in
theorem parts_stops (n Bn ball : Nat) (sig : ByteArray) (w : World) (hP : ∀ i, i < 18 → (partB sig i).size = 16) (hs : sig.size = 288) (hlt : Bn < w.heap.size) (hne : Bn ≠ ball) (hb : Blk w Bn 9 #[.string sig]) :
    SeqStopsK Fence.wide n Tryz.prog 187 #[.pointer (some ⟨Bn, 0, none⟩)] encP (KpB w.heap.size ball) (fun xs => xs = ptsL (partB sig) hP 18) (fun _ => True) 18 w := fun l J Jx W hW hJ hJx hY h0 => by
  have HJ := Lib.hid hJ
  have HY := Lib.hid hY
  have H0 := Lib.hid h0
  have HBN := Lib.hid (hb.bel hW)
  have hwz := hW.size
  clear hJ hJx hY h0 hb hW
  refine callsIn_of_wp Tryz.func187 rfl trivial ?_ rfl
  simp only [Tryz.ntmps187, List.size_toArray, List.length_cons, List.length_nil, Nat.reduceAdd, Nat.reduceSub, Array.replicate_succ, Array.replicate_zero, List.push_toArray, List.append_toArray, List.nil_append, List.cons_append]
  gi_wp2
  gi_loopw [4] (fun i wr => ∃ k : Nat, k ≤ 18 ∧ i = .int .i64 k ∧ Hid (J (ptsL (partB sig) hP k) wr) ∧ Hid (Blk wr Bn 9 #[.string sig])) (fun i _ => 18 - (intOf i).toNat)
  case atStart => exact ⟨0, by omega, rfl, H0, HBN⟩
  case round =>
    obtain ⟨k, hk, rfl, HJk, HB⟩ := hrel
    by_cases hk18 : k < 18
    · have c0 : wr.cell? ⟨Bn, 0, none⟩ = some (.string sig) := HB.out.cell 0
      have hs1 : 16 * ((k : Int) + 1) ≤ sig.size := by rw [hs]; omega
      have HS := Lib.hid hs
      have HJ1 := Lib.hid HJk.out
      obtain ⟨fn, tmps, assign, body, hy, hR⟩ := HY.out _ (⟨k % 18, Nat.mod_lt _ (by decide)⟩, ⟨partB sig (k % 18), hP _ (Nat.mod_lt _ (by decide))⟩) wr HJ1.out (by rw [ptsL_length]; exact hk18)
      have hyy : (Instr.yield l #[.int .i64 (k : Int), .string (sig.extract (16 * k) (16 * (k + 1)))]).run Tryz.prog wr = .ok (.round l fn tmps assign body) wr := by
        have := hy
        simp only [encP, Nat.mod_eq_of_lt hk18, partB] at this
        exact this
      clear hy hs
      gi_wp2_with fail
      refine ⟨(fun h => absurd h (by decide)), hR.mono ?_⟩
      rintro e W' (⟨rfl, hJ', hk'⟩ | ⟨rfl, hJx'⟩)
      · have HB' : Hid (Blk W' Bn 9 #[.string sig]) := (hk' Bn hlt hne).trans HB.out
        have HJ' := Lib.hid hJ'
        clear hJ' hk' hyy
        gi_wp2_with fail
        go_roundw
        case rel => exact ⟨k + 1, by omega, by go_num, HJ', HB'⟩
        case measure => simp [intOf]; omega
      · clear hyy
        gi_wp2_with fail
        refine bodyPost_ret (results_none rfl _ _ _) rfl ?_
        exact ⟨⟨_, rfl⟩, .inr ⟨_, trivial, hJx'⟩⟩
    · obtain rfl : k = 18 := by omega
      gi_wp2_with fail
      go_end0
      exact ⟨⟨_, rfl⟩, .inl ⟨_, rfl, HJk.out⟩⟩
end Go.Proofs.YtjcinncphffgaaaGreat
namespace Go.Proofs.YtjcinncphffgaaaGreat
open Go.RowKit Go.Shelf
attribute [local go_sem] Oper.semAt_some
/-- what has come, each turned by f, one behind the other -/
def catP (f : Nat → ByteArray → ByteArray) (l : List PT) : ByteArray := l.foldl (fun s p => s ++ f p.1.val p.2.val) ByteArray.empty
theorem catP_snoc (f : Nat → ByteArray → ByteArray) (l : List PT) (p : PT) : catP f (l ++ [p]) = catP f l ++ f p.1.val p.2.val := by simp [catP]
theorem catP_pts (f : Nat → ByteArray → ByteArray) (g : Nat → ByteArray) (hg : ∀ i, i < 18 → (g i).size = 16) : ∀ n, n ≤ 18 → catP f (ptsL g hg n) = catN (fun i => f i (g i)) n
  | 0, _ => rfl
  | n + 1, h => by rw [ptsL, catP_snoc, catP_pts f g hg n (by omega), catN]; simp only [Nat.mod_eq_of_lt (show n < 18 by omega)]
theorem catP_size_ (f : Nat → ByteArray → ByteArray) (hf : ∀ i x, x.size = 16 → (f i x).size = 16) : ∀ (l : List PT) (s : ByteArray), (l.foldl (fun s p => s ++ f p.1.val p.2.val) s).size = s.size + 16 * l.length
  | [], s => by simp
  | p :: r, s => by rw [List.foldl_cons, catP_size_ f hf r, ByteArray.size_append, hf _ _ p.2.2, List.length_cons]; omega
theorem catP_size (f : Nat → ByteArray → ByteArray) (hf : ∀ i x, x.size = 16 → (f i x).size = 16) (l : List PT) : (catP f l).size = 16 * l.length := by
  rw [catP, catP_size_ f hf]
  have : ByteArray.empty.size = 0 := rfl
  omega
theorem ownFrom_blk {β : Type} (B g : Nat) (t : TypeId) (cs : β → Array Value) : OwnFrom B (fun s W => Blk W g t (cs s)) := fun s W W' row hs hg hr => by
  refine Blk.grown hs hg (fun e => ?_)
  obtain ⟨_, o, ho, hc⟩ := hr g e.symm
  unfold Blk at hs
  rw [hs] at ho
  injection ho with ho
  subst ho
  cases hc
theorem keeps_below {B : Nat} {w w' : World} (h : Below w.heap.size w w') : KeepsFrom B w w' := ⟨h.size, fun k _ _ hk _ => (h.block k (Array.getElem?_eq_some_iff.1 hk).1).trans hk⟩
theorem partsF_any (sig : ByteArray) (w : World) : Calls Tryz.prog 154 #[.string sig] w fun e w' => e = .returned (.func (.func 187) #[] #[.pointer (some ⟨w.heap.size, 0, none⟩)]) ∧ w.alloc (.cells #[.string sig] 9) = w' := by
  have hmf : ∀ (fn : Fn) (first cap : Array Value) (w : World), (Instr.makeFunc fn first cap).run Tryz.prog w = .ok (.func fn first cap) w := fun _ _ _ _ => rfl
  go_enter Tryz.func154, Tryz.ntmps154
  go_wp2_with fail
  go_ret
  exact ⟨rfl, rfl⟩
theorem kpB_put {n₀ b : Nat} {W : World} {l : Nat} (o' : Obj) (h : n₀ ≤ l) : KpB n₀ b W (W.putObj l o') := fun k hk _ => World.putObj_heap_other (by omega)
theorem kpB_trans {n₀ b : Nat} {A B C : World} (h : KpB n₀ b A B) (h' : KpB n₀ b B C) : KpB n₀ b A C := fun k hk hn => (h' k hk hn).trans (h k hk hn)
theorem kpB_below {n₀ b : Nat} {A B : World} (h : Below A.heap.size A B) (hz : n₀ ≤ A.heap.size) : KpB n₀ b A B := fun k hk _ => h.block k (by omega)
theorem kpB_set {n₀ b : Nat} (A : World) (i : Nat) (u : Value) : KpB n₀ b A (A.setCell ⟨b, i, none⟩ u) := fun k _ hn => Below.heap_setCell A ⟨b, i, none⟩ u k hn
end Go.Proofs.YtjcinncphffgaaaGreat
namespace Go.Proofs.YtjcinncphffgaaaGreat
open Go.RowKit
def noDefer (o : Oper) : Bool := match o.op with
  | .defer _ => false
  | _ => true
section
variable {F : Fence} {n : Nat} {P : Program} {ops : Array Oper} {Q : Exit → Act → World → Prop} {l : Nat}
theorem opIn_round (hro : F.round = none) (h : ops.all noDefer = true) {i : Nat} {K : Act → World → Prop} {a : Act} {w : World} (hw : wpOpIn F n P ops Q i K a w) : wpOpIn (F.inRound l) n P ops Q i K a w := by
  unfold wpOpIn at hw ⊢
  cases ho : ops[i]? with
  | none => rw [ho] at hw; exact hw
  | some o =>
    rw [ho] at hw
    have hd : noDefer o = true := by
      rw [Array.all_eq_true] at h
      obtain ⟨hi, rfl⟩ := Array.getElem?_eq_some_iff.1 ho
      exact h i hi
    have hs : Oper.semAt (F.inRound l).round a.eval o = Oper.semAt F.round a.eval o := by
      rw [hro]
      exact Oper.semAt_some l _ o (fun c hc => by unfold noDefer at hd; rw [hc] at hd; cases hd)
    dsimp only at hw ⊢
    split
    · rename_i hwt
      rw [if_pos hwt] at hw
      unfold Oper.wpIn at hw ⊢
      rw [hs]
      exact hw
    · rename_i hwt
      rw [if_neg hwt] at hw
      exact hw
theorem anyIn_round (hro : F.round = none) (h : ops.all noDefer = true) : ∀ (fuel : Nat) (listed : Array Bool) (a : Act) (w : World), wpAnyIn F n P .any ops Q fuel listed a w → wpAnyIn (F.inRound l) n P .any ops Q fuel listed a w
  | 0, _, _, _, hw => hw
  | fuel + 1, _, _, _, hw => ⟨hw.1, fun i hi => opIn_round hro h (wpOpIn_mono (fun a w => anyIn_round hro h fuel _ a w) (hw.2 i hi))⟩
theorem region_round {id : Nat} {a : Act} {w : World} (hro : F.round = none) (h : ops.all noDefer = true) (hm : P.follows .mixedOrders = true)
    (hw : wpAnyIn F n P .any ops Q ops.size (Array.replicate ops.size false) a w.drew) : (Code.region id ops true).wpIn (F.inRound l) n P Q a w :=
  wpIn_region_any hm (anyIn_round hro h _ _ _ _ hw)
end
end Go.Proofs.YtjcinncphffgaaaGreat
namespace Go.Proofs.YtjcinncphffgaaaGreat
open Go.RowKit Go.Shelf
attribute [local go_sem] Oper.semAt_some
theorem own_size {β : Type} {B n : Nat} : OwnFrom (β := β) B (fun _ W => n ≤ W.heap.size) := fun _ _ _ _ hs hg _ => Nat.le_trans hs hg.size
end Go.Proofs.YtjcinncphffgaaaGreat
namespace Go.Proofs.YtjcinncphffgaaaGreat
open Go.RowKit Go.Shelf
attribute [local go_sem] Oper.semAt_some
set_option maxRecDepth 100000 in
set_option maxHeartbeats 2000000 in
theorem wfrom_any (msg sig : ByteArray) (w : World) (hs : sig.size = 288) (hm : msg.size ≤ 1000000) :
    Calls Tryz.prog 93 #[.string msg, .string sig] w fun e w' => e = .returned (.tuple #[.string (fromB msg sig), .int .i64 0]) ∧ Below w.heap.size w w' := by
  have HP := Lib.hid (partB_size hs)
  have HS288 := Lib.hid hs
  have HF : Hid (fromB msg sig = tagB ⟨#[112, 117, 98, 108, 105, 99]⟩ [catP (fun i x => stepN i (15 - digN msg i) x) (ptsL (partB sig) HP.out 18)]) := by
    show _ = _
    rw [catP_pts _ _ _ _ (Nat.le_refl _)]; rfl
  have h288 : ((sig.size : Int) != 288) = false := by rw [hs]; rfl
  clear hs
  have HCZ := Lib.hid (catP_size (fun i x => stepN i (15 - digN msg i) x) (fun i x hx => stepN_size i hx _))
  refine (callsIn_wide (n := 5)).1 ?_
  refine callsIn_of_wp_marks Tryz.func93 rfl trivial ?_ rfl
  simp only [Tryz.ntmps93, List.size_toArray, List.length_cons, List.length_nil, Nat.reduceAdd, Nat.reduceSub, Array.replicate_succ, Array.replicate_zero, List.push_toArray, List.append_toArray, List.nil_append, List.cons_append]
  refine wpIn_wide.2 ?_
  go_wp2_with fail
  refine (digits_any msg _ hm).mono ?_
  rintro e w1 ⟨rfl, hb1⟩
  have hs18 := dgK_size msg 18
  have H1C := Lib.hid (dgK_one msg 18)
  have HI18 : Hid ((Tryz.prog.info? 255).map (·.size) = some (dgK msg 18).size) := by show _ = _; rw [hs18]; kernel_rfl
  have HB1 := Lib.hid hb1
  have HD0 : Hid (∀ i, i < 18 → (dgK msg 18)[i]? = some (.int .i64 (digN msg i))) := fun i hi => by rw [dgK_get _ _ _ hi, if_pos hi]
  generalize dgK msg 18 = cs at hs18 H1C HI18 HD0 ⊢
  have HS18 := Lib.hid hs18
  clear hs18 hb1
  go_wp2_with (first | (refine wpList_store_blk rfl 255 (.tmp 6) (.tmp 14) rfl w1.heap.size ((Blk.new _ _ _).alloc _) cs rfl rfl HS18.out HI18.out H1C.out ?_; intro W3 hb3 hc3; have hbs := Blk.ch (Blk.new _ _ _) hc3 (by simp); rw [World.size_alloc] at hbs; have c6 := hbs.cell 0; have f6 := hbs.frozen 0; have HS3 := Lib.hid hbs; have HD3 := Lib.hid hb3; have HC3 := Lib.hid hc3; clear hbs hb3 hc3))
  refine (partsF_any sig _).mono ?_
  rintro e w2 ⟨rfl, rfl⟩
  have hz3 := HC3.out.size
  have hz1 := HB1.out.size
  simp at hz3
  have hl3 := HS3.out.lt
  have HW3 : Hid (Below w.heap.size w W3) := ((HB1.out.alloc hz1 _).alloc (by simp; omega) _).trans (HC3.out.below (by simp; omega) (by simp; omega))
  have HZ3 : Hid (w1.heap.size + 1 < W3.heap.size) := hl3
  go_wp2_with fail
  have hN0 : Blk ((W3.setCell ⟨w1.heap.size + 1, 0, none⟩ (.string ⟨#[]⟩)).alloc (.cells #[.string sig] 9)) W3.heap.size 9 #[.string sig] := by
    have := Blk.new (W3.setCell ⟨w1.heap.size + 1, 0, none⟩ (.string ⟨#[]⟩)) 9 #[.string sig]
    rwa [World.size_setCell] at this
  have hA0 : Blk ((W3.setCell ⟨w1.heap.size + 1, 0, none⟩ (.string ⟨#[]⟩)).alloc (.cells #[.string sig] 9)) (w1.heap.size + 1) 9 #[.string (catP (fun i x => stepN i (15 - digN msg i) x) [])] := (HS3.out.set_ 0 _).alloc _
  have hD0 : Blk ((W3.setCell ⟨w1.heap.size + 1, 0, none⟩ (.string ⟨#[]⟩)).alloc (.cells #[.string sig] 9)) w1.heap.size 255 cs := (HD3.out.far (by simp) _).alloc _
  have hB0 : Below w.heap.size w ((W3.setCell ⟨w1.heap.size + 1, 0, none⟩ (.string ⟨#[]⟩)).alloc (.cells #[.string sig] 9)) := (HW3.out.setCell (by simp; omega) _).alloc (by simp; exact HW3.out.size) _
  have hz0 : ((W3.setCell ⟨w1.heap.size + 1, 0, none⟩ (.string ⟨#[]⟩)).alloc (.cells #[.string sig] 9)).heap.size = W3.heap.size + 1 := by simp
  generalize hW0 : (W3.setCell ⟨w1.heap.size + 1, 0, none⟩ (.string ⟨#[]⟩)).alloc (.cells #[.string sig] 9) = W0 at hN0 hA0 hD0 hB0 hz0 ⊢
  have HZ0 := Lib.hid hz0
  clear hW0 c6 f6
  refine (wpIn_wide (n := 5)).1 ?_
  refine wpIn_rangeFunc_ownG rfl (by decide) (gf := 187) (lb := #[.pointer (some ⟨W3.heap.size, 0, none⟩)]) rfl trivial (enters_of Tryz.func187 (by kernel_rfl) rfl)
    (parts_stops 4 W3.heap.size (w1.heap.size + 1) sig W0 HP.out HS288.out (by omega) (by omega) hN0) kpB_trans (fun W l o o' hl _ _ _ => kpB_put o' hl) (Below.refl _ _) (fun _ => rfl)
    (fun pre W => Blk W (w1.heap.size + 1) 9 #[.string (catP (fun i x => stepN i (15 - digN msg i) x) pre)] ∧ Blk W w1.heap.size 255 cs ∧ Below w.heap.size w W ∧ W0.heap.size ≤ W.heap.size) (fun _ _ _ => False)
    (OwnFrom.and (ownFrom_blk _ _ _ (fun pre => #[.string (catP (fun i x => stepN i (15 - digN msg i) x) pre)])) (OwnFrom.and (ownFrom_blk _ _ _ (fun _ => cs)) (OwnFrom.and (ownFrom_below (Nat.le_refl _) (by omega)) own_size))) (fun _ s W W' row hs _ _ => hs) ⟨hA0, hD0, hB0, Nat.le_refl _⟩
    (fun x => { tmps := #[.string msg, .string sig, undef, undef, .string ⟨#[]⟩, .int .i64 0, .pointer (some ⟨w1.heap.size, 0, none⟩), .pointer (some ⟨w1.heap.size + 1, 0, none⟩), .int .i64 (x.1.val : Int), .string x.2.val, .string sig, .int .i64 (sig.size : Int), .bool false, .string msg, .agg cs, .string sig, .func (.func 187) #[] #[.pointer (some ⟨W3.heap.size, 0, none⟩)], .int .i64 (x.1.val : Int), .string x.2.val, undef, undef, undef, undef, undef, undef, undef, undef, undef, undef, undef, undef], defers := [] }) ?assign ?body ?done ?stop
  case assign =>
    intro l x W K hK
    simp only [encP]
    gi_wp2
    exact hK
  case body =>
    rintro l pre ⟨⟨i, hi⟩, ⟨x, hx⟩⟩ W ⟨hA, hD, hB, hzW⟩ hlen
    have HS := Lib.hid (catP_snoc (fun i x => stepN i (15 - digN msg i) x) pre (⟨i, hi⟩, ⟨x, hx⟩))
    have z1 : (catP (fun i x => stepN i (15 - digN msg i) x) pre).size ≤ 1000 := by rw [HCZ.out]; omega
    have z2 : (stepN i (15 - digN msg i) x).size ≤ 1000 := by rw [stepN_size i hx]; omega
    have hst := step_any i (15 - digN msg i) x
    have hdl := digN_le msg i
    have cd : W.cell? ⟨w1.heap.size, i, none⟩ = some (.int .i64 (digN msg i)) := by rw [hD.cell]; exact HD0.out i hi
    generalize catP (fun i x => stepN i (15 - digN msg i) x) pre = s at hA HS z1
    dsimp only at HS
    generalize stepN i (15 - digN msg i) x = y at z2 HS hst
    generalize digN msg i = dg at hst hdl cd
    have q15 : IntKind.i64.wrap (15 - (dg : Int)) = 15 - (dg : Int) := IntWalk.i64_in _ (by omega)
    have e15 : ((15 - dg : Nat) : Int) = 15 - (dg : Int) := by omega
    rw [e15] at hst
    have hd15 : 15 - dg ≤ 15 := by omega
    clear e15
    have HST := Lib.hid hst
    clear hst
    have c0 : W.cell? ⟨w1.heap.size + 1, 0, none⟩ = some (.string s) := hA.cell 0
    have f0 : W.frozen? ⟨w1.heap.size + 1, 0, none⟩ = false := hA.frozen 0
    have HA := Lib.hid hA
    have HD := Lib.hid hD
    have HB := Lib.hid hB
    have hlt := hA.lt
    have hltd := hD.lt
    have zz : ¬ 9223372036854775807 < s.size + y.size := by omega
    clear hA hB hD
    have hiI : (i : Int) < 18 := by omega
    have hi0 : (0 : Int) ≤ i := by omega
    gi_wp2_with fail
    have hmx : Tryz.prog.follows .mixedOrders = true := by kernel_rfl
    refine region_round rfl (by kernel_rfl) hmx ?_
    refine wpAnyIn_take (i := 1) (v := ?_) rfl rfl (by kernel_rfl) (by kernel_rfl) (by kernel_rfl) (fun _ _ _ h => h) ⟨Or.inl ⟨by rfl, ?_⟩, fun _ => rfl⟩ ?_
    rotate_left
    · (intro w; go_simp; try with_reducible rfl)
    refine wpAnyIn_take (i := 2) (v := ?_) rfl rfl (by kernel_rfl) (by kernel_rfl) (by kernel_rfl) (fun _ _ _ h => h) ⟨Or.inl ⟨by rfl, ?_⟩, fun _ => rfl⟩ ?_
    rotate_left
    · (intro w; go_simp; try with_reducible rfl)
    refine wpAnyIn_take (i := 3) (v := ?_) rfl rfl (by kernel_rfl) (by kernel_rfl) (by kernel_rfl) (fun _ _ _ h => h) ⟨Or.inl ⟨by rfl, ?_⟩, fun _ => rfl⟩ ?_
    rotate_left
    · (intro w; go_simp; try with_reducible rfl)
    refine wpAnyIn_take (i := 4) (v := ?_) rfl rfl (by kernel_rfl) (by kernel_rfl) (by kernel_rfl) (fun _ _ _ h => h) ⟨Or.inl ⟨by rfl, ?_⟩, fun _ => rfl⟩ ?_
    rotate_left
    · (intro w; go_simp; try with_reducible rfl)
    refine wpAnyIn_ready (rs := [0, 5]) (by kernel_rfl) (by simp) (AllReadyIn.cons rfl (fun K hK => ?_) (AllReadyIn.cons rfl (fun K hK => ?_) AllReadyIn.nil))
    · go_simp
      refine hK _ _ ?_
      clear hK K
      refine wpAnyIn_ready (rs := [5]) (by kernel_rfl) (by simp) (AllReadyIn.cons rfl (fun K hK => ?_) AllReadyIn.nil)
      go_simp
      refine hK _ _ ?_
      clear hK K
      refine wpAnyIn_take (i := 6) (v := ?_) rfl rfl (by kernel_rfl) (by kernel_rfl) (by kernel_rfl) (fun _ _ _ h => h) ⟨Or.inl ⟨by rfl, ?_⟩, fun _ => rfl⟩ ?_
      rotate_left
      · (intro w; go_simp; try with_reducible rfl)
      refine wpAnyIn_ready (rs := [7]) (by kernel_rfl) (by simp) (AllReadyIn.cons rfl (fun K hK => ?_) AllReadyIn.nil)
      go_simp
      (refine ⟨trivial, ?_⟩
       refine (callsIn_wide.2 (HST.out _ hi hd15 hx)).mono ?_
       rintro e w' ⟨rfl, hb'⟩
       have c0' : w'.cell? ⟨w1.heap.size + 1, 0, none⟩ = some (.string s) := (hb'.cell (p := ⟨w1.heap.size + 1, 0, none⟩) hlt).trans c0
       have f0' : w'.frozen? ⟨w1.heap.size + 1, 0, none⟩ = false := (hb'.frozen (p := ⟨w1.heap.size + 1, 0, none⟩) hlt).trans f0
       have HB' := Lib.hid hb'
       clear hb'
       refine hK _ _ ?_
       clear hK K)
      refine wpAnyIn_take (i := 8) (v := ?_) rfl rfl (by kernel_rfl) (by kernel_rfl) (by kernel_rfl) (fun _ _ _ h => h) ⟨Or.inl ⟨by rfl, ?_⟩, fun _ => rfl⟩ ?_
      rotate_left
      · (intro w; go_simp; try with_reducible rfl)
      refine wpAnyIn_ready (rs := [9]) (by kernel_rfl) (by simp) (AllReadyIn.cons rfl (fun K hK => ?_) AllReadyIn.nil)
      go_simp
      refine hK _ _ ?_
      clear hK K
      (refine wpAnyIn_done (by kernel_rfl) ?_ _
       have b1 : Below W.heap.size W _ := ((Below.refl W.heap.size W).drew).trans HB'.out
       have b2 := b1.size
       exact ⟨(keeps_below b1).trans ((KeepsOthers.setCell _ _ _).from _), kpB_trans (kpB_below b1 hzW) (kpB_set _ _ _), by rw [HS.out]; exact (HA.out.bel b1).set_ 0 _, (HD.out.bel b1).far (by simp) _, (HB.out.trans (b1.mono HB.out.size)).setCell (by simp; omega) _, by simp; omega⟩)
    · go_simp
      refine hK _ _ ?_
      clear hK K
      refine wpAnyIn_take (i := 6) (v := ?_) rfl rfl (by kernel_rfl) (by kernel_rfl) (by kernel_rfl) (fun _ _ _ h => h) ⟨Or.inl ⟨by rfl, ?_⟩, fun _ => rfl⟩ ?_
      rotate_left
      · (intro w; go_simp; try with_reducible rfl)
      refine wpAnyIn_ready (rs := [0, 7]) (by kernel_rfl) (by simp) (AllReadyIn.cons rfl (fun K hK => ?_) (AllReadyIn.cons rfl (fun K hK => ?_) AllReadyIn.nil))
      · go_simp
        refine hK _ _ ?_
        clear hK K
        refine wpAnyIn_ready (rs := [7]) (by kernel_rfl) (by simp) (AllReadyIn.cons rfl (fun K hK => ?_) AllReadyIn.nil)
        go_simp
        (refine ⟨trivial, ?_⟩
         refine (callsIn_wide.2 (HST.out _ hi hd15 hx)).mono ?_
         rintro e w' ⟨rfl, hb'⟩
         have c0' : w'.cell? ⟨w1.heap.size + 1, 0, none⟩ = some (.string s) := (hb'.cell (p := ⟨w1.heap.size + 1, 0, none⟩) hlt).trans c0
         have f0' : w'.frozen? ⟨w1.heap.size + 1, 0, none⟩ = false := (hb'.frozen (p := ⟨w1.heap.size + 1, 0, none⟩) hlt).trans f0
         have HB' := Lib.hid hb'
         clear hb'
         refine hK _ _ ?_
         clear hK K)
        refine wpAnyIn_take (i := 8) (v := ?_) rfl rfl (by kernel_rfl) (by kernel_rfl) (by kernel_rfl) (fun _ _ _ h => h) ⟨Or.inl ⟨by rfl, ?_⟩, fun _ => rfl⟩ ?_
        rotate_left
        · (intro w; go_simp; try with_reducible rfl)
        refine wpAnyIn_ready (rs := [9]) (by kernel_rfl) (by simp) (AllReadyIn.cons rfl (fun K hK => ?_) AllReadyIn.nil)
        go_simp
        refine hK _ _ ?_
        clear hK K
        (refine wpAnyIn_done (by kernel_rfl) ?_ _
         have b1 : Below W.heap.size W _ := ((Below.refl W.heap.size W).drew).trans HB'.out
         have b2 := b1.size
         exact ⟨(keeps_below b1).trans ((KeepsOthers.setCell _ _ _).from _), kpB_trans (kpB_below b1 hzW) (kpB_set _ _ _), by rw [HS.out]; exact (HA.out.bel b1).set_ 0 _, (HD.out.bel b1).far (by simp) _, (HB.out.trans (b1.mono HB.out.size)).setCell (by simp; omega) _, by simp; omega⟩)
      · go_simp
        (refine ⟨trivial, ?_⟩
         refine (callsIn_wide.2 (HST.out _ hi hd15 hx)).mono ?_
         rintro e w' ⟨rfl, hb'⟩
         have c0' : w'.cell? ⟨w1.heap.size + 1, 0, none⟩ = some (.string s) := (hb'.cell (p := ⟨w1.heap.size + 1, 0, none⟩) hlt).trans c0
         have f0' : w'.frozen? ⟨w1.heap.size + 1, 0, none⟩ = false := (hb'.frozen (p := ⟨w1.heap.size + 1, 0, none⟩) hlt).trans f0
         have HB' := Lib.hid hb'
         clear hb'
         refine hK _ _ ?_
         clear hK K)
        refine wpAnyIn_ready (rs := [0]) (by kernel_rfl) (by simp) (AllReadyIn.cons rfl (fun K hK => ?_) AllReadyIn.nil)
        go_simp
        refine hK _ _ ?_
        clear hK K
        refine wpAnyIn_take (i := 8) (v := ?_) rfl rfl (by kernel_rfl) (by kernel_rfl) (by kernel_rfl) (fun _ _ _ h => h) ⟨Or.inl ⟨by rfl, ?_⟩, fun _ => rfl⟩ ?_
        rotate_left
        · (intro w; go_simp; try with_reducible rfl)
        refine wpAnyIn_ready (rs := [9]) (by kernel_rfl) (by simp) (AllReadyIn.cons rfl (fun K hK => ?_) AllReadyIn.nil)
        go_simp
        refine hK _ _ ?_
        clear hK K
        (refine wpAnyIn_done (by kernel_rfl) ?_ _
         have b1 : Below W.heap.size W _ := ((Below.refl W.heap.size W).drew).trans HB'.out
         have b2 := b1.size
         exact ⟨(keeps_below b1).trans ((KeepsOthers.setCell _ _ _).from _), kpB_trans (kpB_below b1 hzW) (kpB_set _ _ _), by rw [HS.out]; exact (HA.out.bel b1).set_ 0 _, (HD.out.bel b1).far (by simp) _, (HB.out.trans (b1.mono HB.out.size)).setCell (by simp; omega) _, by simp; omega⟩)
  case done =>
    rintro D ys W hD rfl ⟨hA, hDD, hB, hzW⟩ hK
    have HB := Lib.hid hB
    have HK := Lib.hid hK
    have HSZ0 : (catP (fun i x => stepN i (15 - digN msg i) x) (ptsL (partB sig) HP.out 18)).size ≤ 1000000 := by rw [HCZ.out, ptsL_length]; omega
    generalize catP (fun i x => stepN i (15 - digN msg i) x) (ptsL (partB sig) HP.out 18) = s at HF hA HSZ0
    have c0 : W.cell? ⟨w1.heap.size + 1, 0, none⟩ = some (.string s) := hA.cell 0
    have HSZ : Hid (s.size ≤ 1000000) := HSZ0
    clear hA hB hK hDD
    go_wp2_with fail
    refine (tag1 _ s _ _ rfl (by decide) HSZ.out).mono ?_
    rintro e w4 ⟨rfl, hb4⟩
    have HK4 : Hid (w4.heap[D]? = some (.deferred (some []))) := (hb4.block D (Array.getElem?_eq_some_iff.1 HK.out).1).trans HK.out
    have HB4 := Lib.hid (HB.out.trans (hb4.mono HB.out.size))
    clear hb4
    go_wp2_with fail
    refine ⟨by simp, .inl ⟨_, _, rfl, run_takeDeferred HK4.out, ?_⟩⟩
    refine ⟨.tuple #[.string (fromB msg sig), .int .i64 0], ?_, rfl, HB4.out.trans ((Ch.of_grown (grownBy_putObj' _ D _)).below HB4.out.size (by simp; omega))⟩
    rw [HF.out]
    simp [results, Tryz.f93, go_sem]
  case stop =>
    rintro D c pre W _ _ h _
    exact h.elim
end Go.Proofs.YtjcinncphffgaaaGreat
