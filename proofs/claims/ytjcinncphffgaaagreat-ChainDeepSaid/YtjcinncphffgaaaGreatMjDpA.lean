/- chain: what Deep and Spent ask of a transaction. -/
import Derived.Outline
import Derived.Test.YtjcinncphffgaaaGreatMjG30
import Derived.Test.YtjcinncphffgaaaGreatMjG33
import Derived.Test.YtjcinncphffgaaaGreatMjK11
import Derived.Test.YtjcinncphffgaaaGreatMjK4
import Derived.Test.YtjcinncphffgaaaGreatMjN1
set_option linter.unusedVariables false
set_option linter.unusedSimpArgs false
namespace Go.Proofs.YtjcinncphffgaaaGreat
open Go.RowKit Go.Maps
set_option maxRecDepth 100000 in
set_option maxHeartbeats 1000000 in
theorem deep1_any (pb : Nat) (id : ByteArray) (t : Txn) (w : World) (hp : Blk w pb 9 #[.string id]) (hm : t.mem w) (hk : TxOk t) :
    Calls Tryz.prog 69 (#[.agg t.cs] ++ #[.pointer (some ⟨pb, 0, none⟩)]) w fun e w' => e = .returned (.bool (decide (idT t = id))) ∧ Below w.heap.size w w' := by
  have HX : Hid (Blk (w.alloc (.cells t.cs 53)) w.heap.size 53 t.cs) := Lib.hid (Blk.new _ _ _)
  have p0 := cell_rg (show (w.alloc (.cells t.cs 53)).cell? ⟨pb, 0, none⟩ = some (.string id) from (hp.alloc _).cell 0)
  have HB : Hid (Below w.heap.size w (w.alloc (.cells t.cs 53))) := Lib.hid ((Below.refl _ _).alloc (Nat.le_refl _) _)
  have KID := fun W (hb : Below w.heap.size w W) => Lib.hid (id_gen t W (hm.bel hb) hk.ins hk.outs hk.pf.len hk.out (Nat.le_trans (corex_size t) (by decide)))
  show Calls _ _ #[.agg t.cs, .pointer (some ⟨pb, 0, none⟩)] _ _
  generalize idT t = z at KID ⊢
  have hq := toList_beq z id
  generalize decide (z = id) = b at hq ⊢
  clear hp hm hk
  go_enter Tryz.func69, Tryz.ntmps69
  go_upto_region 1 with fail
  refine wp_region_quiet_below (by kernel_rfl) (by kernel_rfl) ?_
  repeat (first | go_big_quiet_skip | (go_big_quiet_want; first | ((refine quiet_load_blk 53 (.tmp 2) rfl w.heap.size 0 6 HX.out t.cs (by rfl) (txn_ext t) Tryz.underlying53 infoTx (Nat.le_refl 6) ?_; go_simp); go_big_quiet_on) | (go_big_quiet_op; first | go_big_quiet_on | go_big_quiet_call ((go_at_call 17; with_reducible exact Calls.rg fun W hb => (KID W (HB.out.trans (hb.mono HB.out.size))).out)))))
  refine wpQuiet_nil ?_
  intro W2 hp
  have hb := bel_regrown hp
  clear hp
  have HB2 := Lib.hid (HB.out.trans (hb.mono HB.out.size))
  go_wp2_with fail
  go_ret
  exact ⟨rfl, HB2.out⟩
/-- an input that spends a place -/
def spendsB (tx : ByteArray) (out : Int) (i : Inp) : Bool := decide (i.tx = tx) && decide (i.out = out)
set_option maxRecDepth 100000 in
set_option maxHeartbeats 1000000 in
theorem spent11_any (px : Nat) (tx : ByteArray) (out : Int) (y : Inp) (w : World) (hx : Blk w px 57 #[.string tx, .int .i64 out]) :
    Calls Tryz.prog 73 (#[.agg y.cs] ++ #[.pointer (some ⟨px, 0, none⟩)]) w fun e w' => e = .returned (.bool (spendsB tx out y)) ∧ Below w.heap.size w w' := by
  have HX := Lib.hid (Blk.alloc hx (.cells y.cs 59))
  have HY : Hid (Blk (w.alloc (.cells y.cs 59)) w.heap.size 59 y.cs) := Blk.new _ _ _
  have hq : spendsB tx out y = (decide (y.tx = tx) && decide (y.out = out)) := rfl
  rw [hq]
  have hb := toList_beq y.tx tx
  show Calls _ _ #[.agg y.cs, .pointer (some ⟨px, 0, none⟩)] _ _
  clear hx hq
  by_cases t1 : y.tx.toList = tx.toList
  · have e1 : y.tx = tx := by rw [show (y.tx.toList == tx.toList) = true by rw [t1]; exact beq_self_eq_true _] at hb; exact of_decide_eq_true hb.symm
    by_cases t2 : y.out = out
    · rw [decide_eq_true e1, decide_eq_true t2]
      clear hb e1
      go_enter Tryz.func73, Tryz.ntmps73
      go_wp2_with (first
        | (refine wpList_load_blk rfl 57 (.tmp 4) rfl w.heap.size 0 2 HY.out #[.string y.tx, .int .i64 y.out] (by rfl) (by rfl) Tryz.underlying57 infoPnt (by show 2 ≤ 4; omega) ?_)
        | (refine wpList_load_blk rfl 57 (.tmp 1) rfl px 0 2 HX.out #[.string tx, .int .i64 out] (by rfl) (by rfl) Tryz.underlying57 infoPnt (Nat.le_refl 2) ?_))
      all_goals
        first
          | contradiction
          | (go_ret; exact ⟨rfl, (Below.refl _ _).alloc (Nat.le_refl _) _⟩)
    · rw [decide_eq_true e1, decide_eq_false t2]
      clear hb e1
      go_enter Tryz.func73, Tryz.ntmps73
      go_wp2_with (first
        | (refine wpList_load_blk rfl 57 (.tmp 4) rfl w.heap.size 0 2 HY.out #[.string y.tx, .int .i64 y.out] (by rfl) (by rfl) Tryz.underlying57 infoPnt (by show 2 ≤ 4; omega) ?_)
        | (refine wpList_load_blk rfl 57 (.tmp 1) rfl px 0 2 HX.out #[.string tx, .int .i64 out] (by rfl) (by rfl) Tryz.underlying57 infoPnt (Nat.le_refl 2) ?_))
      all_goals
        first
          | contradiction
          | (go_ret; exact ⟨rfl, (Below.refl _ _).alloc (Nat.le_refl _) _⟩)
  · have e1 : ¬ y.tx = tx := fun e => t1 (by rw [e])
    rw [decide_eq_false e1]
    clear hb e1
    go_enter Tryz.func73, Tryz.ntmps73
    go_wp2_with (first
      | (refine wpList_load_blk rfl 57 (.tmp 4) rfl w.heap.size 0 2 HY.out #[.string y.tx, .int .i64 y.out] (by rfl) (by rfl) Tryz.underlying57 infoPnt (by show 2 ≤ 4; omega) ?_)
      | (refine wpList_load_blk rfl 57 (.tmp 1) rfl px 0 2 HX.out #[.string tx, .int .i64 out] (by rfl) (by rfl) Tryz.underlying57 infoPnt (Nat.le_refl 2) ?_))
    all_goals
      first
        | contradiction
        | (go_ret; exact ⟨rfl, (Below.refl _ _).alloc (Nat.le_refl _) _⟩)
set_option maxRecDepth 100000 in
set_option maxHeartbeats 1000000 in
theorem indexd_in (px : Nat) (A : Option Addr) (l : List Inp) (c : Nat) (q : Inp → Bool) (w : World) (hS : Sl w w.heap.size 4 Inp.cl A l) (hl : l.length ≤ 1000000)
    (HF : ∀ W, Below w.heap.size w W → ∀ x ∈ l, Calls Tryz.prog 73 (#[.agg x.cs] ++ #[.pointer (some ⟨px, 0, none⟩)]) W fun e w' => e = .returned (.bool (q x)) ∧ Below W.heap.size W w') :
    Calls Tryz.prog 142 #[.slice A l.length c, .func (Fn.func 73) #[] #[.pointer (some ⟨px, 0, none⟩)]] w fun e w' => e = .returned (.int .i64 (fIdx q l)) ∧ Below w.heap.size w w' := by
  have HS := Lib.hid hS
  have HFF := Lib.hid HF
  clear hS HF
  go_enter Tryz.func142, Tryz.ntmps142
  go_wp2_with fail
  go_loopw [8] (fun i wr => ∃ k : Nat, k ≤ l.length ∧ i = .int .i64 k ∧ Hid ((l.take k).any q = false) ∧ Hid (Below w.heap.size w wr)) (fun i _ => l.length - (intOf i).toNat)
  case atStart => exact ⟨0, Nat.zero_le _, rfl, Lib.hid rfl, Lib.hid (Below.refl _ _)⟩
  case round =>
    obtain ⟨k, hk, rfl, HT, HB⟩ := hrel
    have hz := HB.out.size
    by_cases hlt : k < l.length
    · obtain ⟨ab, off, rfl, hbB, hc⟩ := (HS.out.below HB.out).at_ hlt
      have HC1 := HFF.out wr HB.out _ (List.getElem_mem hlt)
      have HTS : Hid ((l.take (k + 1)).any q = ((l.take k).any q || q l[k])) := by
        show _ = _
        rw [List.take_succ_eq_append_getElem hlt, List.any_append]
        simp
      have HIX := Lib.hid (fIdx_at q l k hlt HT.out)
      generalize l[k] = x at hc HC1 HTS HIX
      have HCC := Lib.hid hc
      have HCL := Lib.hid HC1
      clear hc HC1
      go_wp2_with (refine wpList_load_in rfl (.tmp 14) rfl ab (off + k * 4) (by rfl) x HCC.out ?_)
      refine HCL.out.mono ?_
      rintro e W1 ⟨rfl, hb⟩
      have HB1 := Lib.hid (HB.out.trans (hb.mono hz))
      clear hb HCL
      generalize q x = b at HTS HIX ⊢
      cases b with
      | true =>
        have HI1 := Lib.hid (HIX.out rfl)
        clear HIX HTS
        go_wp2_with fail
        go_ret
        exact ⟨by rw [HI1.out]; rfl, HB1.out⟩
      | false =>
        have HT1 : Hid ((l.take (k + 1)).any q = false) := Lib.hid (by rw [HTS.out, HT.out]; rfl)
        clear HIX HTS
        go_wp2_with fail
        go_roundw
        case rel => exact ⟨k + 1, by omega, by go_num, HT1, HB1⟩
        case measure => simp [intOf]; omega
    · have hkl : k = l.length := by omega
      subst hkl
      have HE := Lib.hid (fIdx_none q l (by rw [List.take_length] at HT; exact HT.out))
      go_wp2_with fail
      go_ret
      exact ⟨by rw [HE.out]; rfl, HB.out⟩
set_option maxRecDepth 100000 in
theorem containsd_in (px : Nat) (A : Option Addr) (l : List Inp) (c : Nat) (q : Inp → Bool) (w : World) (hS : Sl w w.heap.size 4 Inp.cl A l) (hl : l.length ≤ 1000000)
    (HF : ∀ W, Below w.heap.size w W → ∀ x ∈ l, Calls Tryz.prog 73 (#[.agg x.cs] ++ #[.pointer (some ⟨px, 0, none⟩)]) W fun e w' => e = .returned (.bool (q x)) ∧ Below W.heap.size W w') :
    Calls Tryz.prog 72 #[.slice A l.length c, .func (Fn.func 73) #[] #[.pointer (some ⟨px, 0, none⟩)]] w fun e w' => e = .returned (.bool (l.any q)) ∧ Below w.heap.size w w' := by
  have HI := Lib.hid (indexd_in px A l c q w hS hl HF)
  have HD := Lib.hid (fIdx_any q l)
  generalize fIdx q l = z at HI HD
  generalize l.any q = b at HD ⊢
  clear hS HF
  have hd : decide ((0 : Int) ≤ z) = b := HD.out
  clear HD
  go_enter Tryz.func72, Tryz.ntmps72
  go_wp2_with fail
  refine HI.out.mono ?_
  rintro e W1 ⟨rfl, hb⟩
  have HB := Lib.hid hb
  clear hb HI
  go_wp2
  go_ret
  exact ⟨rfl, HB.out⟩
set_option maxRecDepth 100000 in
set_option maxHeartbeats 1000000 in
theorem spent1_any (px : Nat) (tx : ByteArray) (out : Int) (t : Txn) (w : World) (hx : Blk w px 57 #[.string tx, .int .i64 out]) (hm : t.mem w) (hk : TxOk t) :
    Calls Tryz.prog 71 (#[.agg t.cs] ++ #[.pointer (some ⟨px, 0, none⟩)]) w fun e w' => e = .returned (.bool (t.ins.any (spendsB tx out))) ∧ Below w.heap.size w w' := by
  have hmf : ∀ (fn : Fn) (first cap : Array Value) (w : World), (Instr.makeFunc fn first cap).run Tryz.prog w = .ok (.func fn first cap) w := fun _ _ _ _ => rfl
  have HB : Hid (Below w.heap.size w (w.alloc (.cells t.cs 53))) := Lib.hid ((Below.refl _ _).alloc (Nat.le_refl _) _)
  have c0 : (w.alloc (.cells t.cs 53)).cell? ⟨w.heap.size, 0, none⟩ = some (.slice t.A t.ins.length t.c) := Blk.cell (Blk.new w 53 t.cs) 0
  have KC := Lib.hid (containsd_in px t.A t.ins t.c (spendsB tx out) (w.alloc (.cells t.cs 53)) (hm.bel HB.out).ins (Nat.le_trans hk.ins (by decide)) (fun W hW y _ => spent11_any px tx out y W ((hx.bel HB.out).bel hW)))
  show Calls _ _ #[.agg t.cs, .pointer (some ⟨px, 0, none⟩)] _ _
  generalize t.ins.any (spendsB tx out) = b at KC ⊢
  clear hx hm hk
  go_enter Tryz.func71, Tryz.ntmps71
  go_wp2_with fail
  refine KC.out.mono ?_
  rintro e W1 ⟨rfl, hb⟩
  have HB1 := Lib.hid (HB.out.trans (Below.mono hb HB.out.size))
  go_wp2_with fail
  go_ret
  exact ⟨rfl, HB1.out⟩
end Go.Proofs.YtjcinncphffgaaaGreat
