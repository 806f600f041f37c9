/- payword.Count; draw.Wins, Commit, Opens. -/
import Derived.Outline
import Derived.RegionTactic
import Derived.ChangeAlike
import Derived.Test.YtjcinncphffgaaaGreatMjNote
import Derived.Test.YtjcinncphffgaaaGreatMjNum
set_option linter.unusedVariables false
set_option linter.unusedSimpArgs false
namespace Go.Proofs.YtjcinncphffgaaaGreat
open Go.RowKit
theorem then_gen {K : Act → World → Prop} {Q : Exit → Act → World → Prop} {e : Exit} {a : Act} {w : World} (h : ∀ W, W = w → Exit.then K Q e a W) : Exit.then K Q e a w := h w rfl
set_option maxRecDepth 100000 in
set_option maxHeartbeats 400000 in
theorem clam_any (a t : ByteArray) (i n0 : Nat) (b0 : Bool) (p q r : Nat) (w : World) (h1 : Blk w p 9 #[.string a]) (h2 : Blk w q 3 #[.int .i64 n0]) (h3 : Blk w r 4 #[.bool b0]) :
    Calls Tryz.prog 169 #[.int .i64 i, .string t, .pointer (some ⟨p, 0, none⟩), .pointer (some ⟨q, 0, none⟩), .pointer (some ⟨r, 0, none⟩)] w fun e w' => e = .returned (.bool (!decide (t = a))) ∧ Blk w' q 3 #[.int .i64 i] ∧ Blk w' r 4 #[.bool (decide (t = a))] ∧ Ch [q, r] w w' := by
  have c1 : w.cell? ⟨p, 0, none⟩ = some (.string a) := h1.cell 0
  have c2 : w.cell? ⟨q, 0, none⟩ = some (.int .i64 n0) := h2.cell 0
  have f2 := h2.frozen 0
  have c3 : w.cell? ⟨r, 0, none⟩ = some (.bool b0) := h3.cell 0
  have f3 := h3.frozen 0
  have hqr : q ≠ r := h2.ne_ h3 (by decide)
  have hrq : r ≠ q := Ne.symm hqr
  have hpq : p ≠ q := h1.ne_ h2 (by decide)
  have hqp : q ≠ p := Ne.symm hpq
  have hpr : p ≠ r := h1.ne_ h3 (by decide)
  have hrp : r ≠ p := Ne.symm hpr
  have H2 := Lib.hid h2
  have H3 := Lib.hid h3
  have hb := toList_beq t a
  clear h1 h2 h3
  generalize hd : decide (t = a) = d at *
  have HD := Lib.hid hd
  clear hd
  go_enter Tryz.func169, Tryz.ntmps169
  go_wp2_with fail
  go_region
  all_goals
    refine then_gen fun W hW => ?_
    have K2 : Hid (Blk W q 3 #[.int .i64 i]) := by
      rw [hW]
      first
        | exact ((H2.out.set_ 0 (.int .i64 i)).far (p := ⟨r, 0, none⟩) hqr (.bool d)).drewN 1
        | exact ((H2.out.far (p := ⟨r, 0, none⟩) hqr (.bool d)).set_ 0 (.int .i64 i)).drewN 1
    have K3 : Hid (Blk W r 4 #[.bool d]) := by
      rw [hW]
      first
        | exact ((H3.out.far (p := ⟨q, 0, none⟩) hrq (.int .i64 i)).set_ 0 (.bool d)).drewN 1
        | exact ((H3.out.set_ 0 (.bool d)).far (p := ⟨q, 0, none⟩) hrq (.int .i64 i)).drewN 1
    have KC : Hid (Ch [q, r] w W) := by
      rw [hW]
      first
        | exact ((Ch.set_ (b := q) (by simp) w 0 (.int .i64 i)).trans (Ch.set_ (b := r) (by simp) _ 0 (.bool d))).trans (Ch.drewN _ _ 1)
        | exact ((Ch.set_ (b := r) (by simp) w 0 (.bool d)).trans (Ch.set_ (b := q) (by simp) _ 0 (.int .i64 i))).trans (Ch.drewN _ _ 1)
    have u3 : W.cell? ⟨r, 0, none⟩ = some (.bool d) := K3.out.cell 0
    clear hW c1 c2 c3 f2 f3
    go_wp2_with fail
    go_ret
    exact ⟨rfl, K2.out, K3.out, KC.out⟩
/-- where the first step stands that leads to an anchor, or the last one -/
def CntP (a t : ByteArray) (most n : Nat) (b : Bool) : Prop := n ≤ most ∧ (∀ j, j < n → itB t j ≠ a) ∧ b = decide (itB t n = a) ∧ (b = true ∨ n = most)
def CntQ (a t : ByteArray) (most p q r : Nat) (w : World) (e : Ending) (w' : World) : Prop := e = .returned (.tuple #[]) ∧ ∃ n b, CntP a t most n b ∧ Blk w' q 3 #[.int .i64 n] ∧ Blk w' r 4 #[.bool b] ∧ Ch [q, r] w w'
def CntW (q r : Nat) (w : World) : Prop := ∃ (n0 : Nat) (b0 : Bool), Blk w q 3 #[.int .i64 n0] ∧ Blk w r 4 #[.bool b0]
set_option maxRecDepth 100000 in
set_option maxHeartbeats 1000000 in
theorem pwalk_cnt (a t : ByteArray) (most p q r : Nat) (w : World) (hm : most ≤ 4096) (ht : t.size = 16) (h1 : Blk w p 9 #[.string a]) (h2 : CntW q r w) :
    Calls Tryz.prog 112 #[.string t, .int .i64 most, .func (Fn.func 169) #[] #[.pointer (some ⟨p, 0, none⟩), .pointer (some ⟨q, 0, none⟩), .pointer (some ⟨r, 0, none⟩)]] w (CntQ a t most p q r w) := by
  have hpq : p ∉ [q, r] := by
    obtain ⟨_, _, k1, k2⟩ := h2
    have e1 := h1.ne_ k1 (by decide)
    have e2 := h1.ne_ k2 (by decide)
    simp [e1, e2]
  have HP := Lib.hid hpq
  have H1 := Lib.hid h1
  have H2 := Lib.hid h2
  clear h1 h2 hpq
  go_enter Tryz.func112, Tryz.ntmps112
  go_wp2
  go_loopw [0, 6] (fun u i wr => ∃ k : Nat, k ≤ most ∧ i = .int .i64 k ∧ u = .string (itB t k) ∧ Hid (∀ j, j < k → itB t j ≠ a) ∧ Hid (CntW q r wr) ∧ Hid (Ch [q, r] w wr)) (fun _ i _ => most + 1 - (intOf i).toNat)
  case atStart => exact ⟨0, Nat.zero_le _, rfl, rfl, Lib.hid (fun j hj => by omega), H2, Ch.refl _ _⟩
  case round =>
    obtain ⟨k, hk, rfl, rfl, HJ, HW, HC⟩ := hrel
    obtain ⟨n0, b0, k1, k2⟩ := HW.out
    have hz : (itB t k).size ≤ 1000000 := by rw [itB_size t ht]; omega
    have HI : Hid (nxtB (itB t k) = itB t (k + 1)) := rfl
    have HL := Lib.hid (clam_any a (itB t k) k n0 b0 p q r wr (Blk.ch H1.out HC.out HP.out) k1 k2)
    have HX := fun W => Lib.hid (pnext_any (itB t k) W hz)
    clear k1 k2
    by_cases hd : itB t k = a
    · rw [show decide (itB t k = a) = true from decide_eq_true hd] at HL
      have HD := Lib.hid hd
      clear hd
      generalize itB t k = u at HL HX ⊢
      go_wp2_with fail
      refine HL.out.mono ?_
      rintro e w1 ⟨rfl, hq, hr, hc⟩
      have HE := Lib.hid (And.intro hq (And.intro hr hc))
      clear hq hr hc
      go_wp2_with fail
      go_end0
      exact ⟨rfl, k, true, ⟨hk, HJ.out, (decide_eq_true HD.out).symm, .inl rfl⟩, HE.out.1, HE.out.2.1, HC.out.trans HE.out.2.2⟩
    · rw [show decide (itB t k = a) = false from decide_eq_false hd] at HL
      have HD := Lib.hid hd
      clear hd
      generalize hu : itB t k = u at HL HX HI ⊢
      have HU := Lib.hid hu
      clear hu
      go_wp2_with fail
      refine HL.out.mono ?_
      rintro e w1 ⟨rfl, hq, hr, hc⟩
      have HE := Lib.hid (And.intro hq (And.intro hr hc))
      clear hq hr hc
      by_cases hlt : k < most
      · have d1 : decide ((k : Int) < most) = true := decide_eq_true (by omega)
        go_wp2_with fail
        refine (HX _).out.mono ?_
        rintro e w2 ⟨rfl, hb2⟩
        have HC2 : Hid (Ch [q, r] w w2) := (HC.out.trans HE.out.2.2).trans (Ch.of_below hb2 _)
        have HW2 : Hid (CntW q r w2) := ⟨k, false, HE.out.1.bel hb2, HE.out.2.1.bel hb2⟩
        clear hb2
        go_wp2_with fail
        go_roundw
        case rel => exact ⟨k + 1, by omega, by go_num, by rw [HI.out], Lib.hid (fun j hj => by
          by_cases e : j = k
          · subst e; exact HD.out
          · exact HJ.out j (by omega)), HW2, HC2⟩
        case measure => simp [intOf]; omega
      · have d1 : decide ((k : Int) < most) = false := decide_eq_false (by omega)
        obtain rfl : k = most := by omega
        go_wp2
        go_end0
        exact ⟨rfl, k, false, ⟨hk, HJ.out, (decide_eq_false HD.out).symm, .inr rfl⟩, HE.out.1, HE.out.2.1, HC.out.trans HE.out.2.2⟩
def CntR (a t : ByteArray) (most : Nat) (w : World) (e : Ending) (w' : World) : Prop := ∃ n b, CntP a t most n b ∧ e = .returned (.tuple #[.int .i64 (if b then (n : Int) else 0), .int .i64 (if b then 0 else 4)]) ∧ Below w.heap.size w w'
set_option maxRecDepth 100000 in
set_option maxHeartbeats 1000000 in
theorem count_any (a t : ByteArray) (most : Nat) (w : World) (hm : most ≤ 4096) (ha : a.size = 16) (ht : t.size = 16) : Calls Tryz.prog 122 #[.string a, .string t, .int .i64 most] w (CntR a t most w) := by
  have d1 : ((a.size : Int) != 16) = false := by rw [ha]; rfl
  have d2 : ((t.size : Int) != 16) = false := by rw [ht]; rfl
  have d3 : decide ((4096 : Int) < (most : Int)) = false := decide_eq_false (by omega)
  have HW := fun (W : World) (p q r : Nat) h1 h2 => Lib.hid (pwalk_cnt a t most p q r W hm ht h1 h2)
  clear ha ht
  go_enter Tryz.func122, Tryz.ntmps122
  go_wp2_with fail
  refine (HW _ w.heap.size (w.heap.size + 1) (w.heap.size + 1 + 1) ?_ ?_).out.mono ?_
  · exact ((Blk.new w 9 #[.string a]).alloc _).alloc _
  · exact ⟨0, false, Blk.alloc (Blk.newAt (by simp)) _, Blk.newAt (by simp)⟩
  rintro e w1 ⟨rfl, n, b, hp, hq, hr, hc⟩
  have HP := Lib.hid hp
  have u8 : w1.cell? ⟨w.heap.size + 1, 0, none⟩ = some (.int .i64 n) := hq.cell 0
  have u9 : w1.cell? ⟨w.heap.size + 1 + 1, 0, none⟩ = some (.bool b) := hr.cell 0
  have HB : Hid (Below w.heap.size w w1) := ((((Below.refl _ _).alloc (Nat.le_refl _) _).alloc (by simp) _).alloc (by simp <;> omega) _).trans (hc.below (by simp <;> omega) (by simp <;> omega))
  clear hp hq hr hc HW
  cases b with
  | true =>
    go_wp2_with fail
    go_ret2
    exact ⟨n, true, HP.out, rfl, HB.out⟩
  | false =>
    go_wp2_with fail
    go_ret2
    exact ⟨n, false, HP.out, rfl, HB.out⟩
set_option maxRecDepth 100000 in
theorem count_bad (a t : ByteArray) (most : Int) (w : World) (h : a.size ≠ 16 ∨ t.size ≠ 16) : Calls Tryz.prog 122 #[.string a, .string t, .int .i64 most] w fun e w' => e = .returned (.tuple #[.int .i64 0, .int .i64 1]) ∧ Below w.heap.size w w' := by
  by_cases h1 : a.size = 16
  · have h2 : t.size ≠ 16 := h.resolve_left (fun x => x h1)
    have d1 : ((a.size : Int) != 16) = false := by rw [h1]; rfl
    have d2 : ((t.size : Int) != 16) = true := by rw [bne_iff_ne]; omega
    clear h h1 h2
    go_enter Tryz.func122, Tryz.ntmps122
    go_wp2_with fail
    go_ret2
    exact ⟨rfl, (Below.refl _ _).alloc (Nat.le_refl _) _⟩
  · have d1 : ((a.size : Int) != 16) = true := by rw [bne_iff_ne]; omega
    clear h h1
    go_enter Tryz.func122, Tryz.ntmps122
    go_wp2_with fail
    go_ret2
    exact ⟨rfl, (Below.refl _ _).alloc (Nat.le_refl _) _⟩
def mayN (m : Nat) : Bool := decide (1 ≤ m ∧ m ≤ 4294967296)
set_option maxRecDepth 100000 in
theorem dmayB_any (m : Nat) (w : World) (hm : m < 18446744073709551616) : Calls Tryz.prog 198 #[.int .u64 m] w fun e w' => e = .returned (.bool (mayN m)) ∧ w = w' := by
  by_cases h1 : 1 ≤ m
  · by_cases h2 : m ≤ 4294967296
    · rw [show mayN m = true from decide_eq_true ⟨h1, h2⟩]
      have d1 : decide ((1 : Int) ≤ (m : Int)) = true := decide_eq_true (by omega)
      have d2 : decide ((m : Int) ≤ 4294967296) = true := decide_eq_true (by omega)
      go_enter Tryz.func198, Tryz.ntmps198
      go_wp2_with fail
      go_ret
      exact ⟨rfl, rfl⟩
    · rw [show mayN m = false from decide_eq_false (by omega)]
      have d1 : decide ((1 : Int) ≤ (m : Int)) = true := decide_eq_true (by omega)
      have d2 : decide ((m : Int) ≤ 4294967296) = false := decide_eq_false (by omega)
      go_enter Tryz.func198, Tryz.ntmps198
      go_wp2_with fail
      go_ret
      exact ⟨rfl, rfl⟩
  · rw [show mayN m = false from decide_eq_false (by omega)]
    have d1 : decide ((1 : Int) ≤ (m : Int)) = false := decide_eq_false (by omega)
    go_enter Tryz.func198, Tryz.ntmps198
    go_wp2_with fail
    go_ret
    exact ⟨rfl, rfl⟩
/-- a drawn number, and a client's, win -/
def winsB (d c k m : Nat) : Bool := decide ((d + c) % m < k)
def winsOk (d k m : Nat) : Bool := mayN m && decide (k ≤ m) && decide (d < m)
set_option maxRecDepth 100000 in
theorem wins_ok (d c k m : Nat) (w : World) (hc : c < 18446744073709551616) (h : winsOk d k m = true) :
    Calls Tryz.prog 172 #[.int .u64 d, .int .u64 c, .int .u64 k, .int .u64 m] w fun e w' => e = .returned (.tuple #[.bool (winsB d c k m), .int .i64 0]) ∧ w = w' := by
  unfold winsOk mayN at h
  simp at h
  obtain ⟨⟨⟨h1, h2⟩, h3⟩, h4⟩ := h
  have HM := Lib.hid (dmayB_any m w (by omega))
  rw [show mayN m = true from decide_eq_true ⟨h1, h2⟩] at HM
  have d1 : decide ((m : Int) < (k : Int)) = false := decide_eq_false (by omega)
  have d2 : decide ((m : Int) ≤ (d : Int)) = false := decide_eq_false (by omega)
  have hr : c % m < m := Nat.mod_lt _ (by omega)
  have hw : IntKind.u64.wrap ((d : Int) + (c : Int) % (m : Int)) = ((d + c % m : Nat) : Int) := by
    rw [show (d : Int) + (c : Int) % (m : Int) = ((d + c % m : Nat) : Int) by simp]
    exact IntWalk.u64_in _ (by omega)
  have hm0 : ((m : Int) == 0) = false := beq_eq_false_iff_ne.2 (by omega)
  have hB : decide (((d : Int) + (c : Int)) % (m : Int) < (k : Int)) = winsB d c k m := by
    unfold winsB
    rw [decide_eq_decide, ← Int.natCast_add, ← Int.natCast_emod]
    exact Int.ofNat_lt
  generalize winsB d c k m = bb at hB ⊢
  go_enter Tryz.func172, Tryz.ntmps172
  go_wp2_with fail
  refine HM.out.mono ?_
  rintro e w' ⟨rfl, rfl⟩
  go_wp2_with fail
  go_ret2
  exact ⟨rfl, rfl⟩
set_option maxRecDepth 100000 in
theorem wins_no (d c k m : Nat) (w : World) (hm : m < 18446744073709551616) (h : winsOk d k m = false) :
    Calls Tryz.prog 172 #[.int .u64 d, .int .u64 c, .int .u64 k, .int .u64 m] w fun e w' => e = .returned (.tuple #[.bool false, .int .i64 1]) ∧ w = w' := by
  have HM := Lib.hid (dmayB_any m w hm)
  by_cases h1 : mayN m = true
  · rw [h1] at HM
    by_cases h2 : k ≤ m
    · have h3 : m ≤ d := by
        unfold winsOk at h
        rw [h1, decide_eq_true h2] at h
        simpa using h
      have d1 : decide ((m : Int) < (k : Int)) = false := decide_eq_false (by omega)
      have d2 : decide ((m : Int) ≤ (d : Int)) = true := decide_eq_true (by omega)
      clear h h1
      go_enter Tryz.func172, Tryz.ntmps172
      go_wp2_with fail
      refine HM.out.mono ?_
      rintro e w' ⟨rfl, rfl⟩
      go_wp2_with fail
      go_ret2
      exact ⟨rfl, rfl⟩
    · have d1 : decide ((m : Int) < (k : Int)) = true := decide_eq_true (by omega)
      clear h h1
      go_enter Tryz.func172, Tryz.ntmps172
      go_wp2_with fail
      refine HM.out.mono ?_
      rintro e w' ⟨rfl, rfl⟩
      go_wp2_with fail
      go_ret2
      exact ⟨rfl, rfl⟩
  · rw [show mayN m = false by simpa using h1] at HM
    clear h h1
    go_enter Tryz.func172, Tryz.ntmps172
    go_wp2_with fail
    refine HM.out.mono ?_
    rintro e w' ⟨rfl, rfl⟩
    go_wp2_with fail
    go_ret2
    exact ⟨rfl, rfl⟩
def wDraw : ByteArray := ⟨#[100, 114, 97, 119]⟩
def comB (salt : ByteArray) (n : Nat) : ByteArray := tagB wDraw [salt, putB n]
set_option maxRecDepth 100000 in
set_option maxHeartbeats 1000000 in
theorem commit_any (salt : ByteArray) (n : Nat) (w : World) (hn : n < 18446744073709551616) (hz : salt.size ≤ 1000000) :
    Calls Tryz.prog 233 #[.string salt, .int .u64 n] w fun e w' => e = .returned (.string (comB salt n)) ∧ Below w.heap.size w w' := by
  have hp := putB_size n
  have HP := Lib.hid (put_any n w hn)
  unfold comB
  generalize putB n = pn at hp HP ⊢
  go_enter Tryz.func233, Tryz.ntmps233
  go_wp2_with fail
  refine HP.out.mono ?_
  rintro e w1 ⟨rfl, hb1⟩
  have HB1 := Lib.hid hb1
  clear hb1
  go_wp2_with fail
  refine (tag2 ⟨#[100, 114, 97, 119]⟩ salt pn _ _ rfl (by decide) hz (by omega)).mono ?_
  rintro e w2 ⟨rfl, hb⟩
  have HB : Hid (Below w.heap.size w w2) := HB1.out.trans (hb.mono HB1.out.size)
  clear hb
  go_wp2
  go_ret
  exact ⟨rfl, HB.out⟩
set_option maxRecDepth 100000 in
theorem opens_any (com salt : ByteArray) (n : Nat) (w : World) (hn : n < 18446744073709551616) (hz : salt.size ≤ 1000000) :
    Calls Tryz.prog 222 #[.string com, .string salt, .int .u64 n] w fun e w' => e = .returned (.bool (decide (com = comB salt n))) ∧ Below w.heap.size w w' := by
  have HC := Lib.hid (commit_any salt n w hn hz)
  have hb := toList_beq com (comB salt n)
  generalize comB salt n = c2 at HC hb ⊢
  generalize decide (com = c2) = d at hb ⊢
  go_enter Tryz.func222, Tryz.ntmps222
  go_wp2_with fail
  refine HC.out.mono ?_
  rintro e w1 ⟨rfl, hb1⟩
  have HB1 := Lib.hid hb1
  clear hb1
  go_wp2_with fail
  go_ret
  exact ⟨rfl, HB1.out⟩
end Go.Proofs.YtjcinncphffgaaaGreat
