/- coin.Name; coin.Fits of a channel; channel.New, Whole without tops. A region that draws its order and whose calls leave all that was there as it was: walked once, in the order of the text (Derived.Lib.QuietBelow); a part of a block is read in it. payword.Count; draw.Wins, Commit, Opens. channel.New, Whole without tops. -/
import Derived.Outline
import Derived.Lib.QuietBelow
import Derived.BigQuiet
import Derived.RegionTactic
import Derived.ChangeAlike
import Derived.Laws.ResultCell
import Derived.Test.YtdoebmikjgmnaaaGreatMgG01
import Derived.Test.YtdoebmikjgmnaaaGreatMgG03
import Derived.Test.YtdoebmikjgmnaaaGreatMgG11
set_option linter.unusedVariables false
set_option linter.unusedSimpArgs false
namespace Go.Proofs.YtdoebmikjgmnaaaGreat
open Go.RowKit
def wLock : ByteArray := ⟨#[108, 111, 99, 107]⟩
def nameB (tx : ByteArray) (out : Nat) : ByteArray := tagB wLock [tx, strOfNums [(out : Int)]]
theorem nameB_size (tx : ByteArray) (out : Nat) : (nameB tx out).size = 16 := tagB_size _ _
set_option maxRecDepth 100000 in
set_option maxHeartbeats 1000000 in
theorem cname_any (tx : ByteArray) (out : Nat) (w : World) (ho : out < 256) (hz : tx.size ≤ 1000000) :
    Calls Tryz.prog 13 #[.agg #[.string tx, .int .i64 out]] w fun e w' => e = .returned (.string (nameB tx out)) ∧ Below w.heap.size w w' := by
  have kc := conv1 (w.alloc (.cells #[.string tx, .int .i64 out] 39)) out
  rw [World.size_alloc] at kc
  have k1 := num1_size
  go_enter Tryz.func13, Tryz.ntmps13
  go_wp2_with fail
  refine (tag2 ⟨#[108, 111, 99, 107]⟩ tx (strOfNums [(out : Int)]) _ _ ?_ (by decide) hz (by rw [k1]; omega)).mono ?_
  · simp
  rintro e w1 ⟨rfl, hb⟩
  have HB : Hid (Below w.heap.size w w1) := (((Below.refl _ _).alloc (Nat.le_refl _) _).alloc (by simp) _).trans (hb.mono (by simp; omega))
  clear hb
  go_wp2
  go_ret
  exact ⟨rfl, HB.out⟩
/-- an output that locks a channel -/
structure Lk where
  am : Nat
  key : ByteArray
  gate : ByteArray
  ex : Nat
  anchor : ByteArray
  unit : Nat
  tok : Nat
structure Lk.ok (l : Lk) : Prop where
  am : 0 < l.am ∧ l.am < 18446744073709551616
  key : l.key.size = 16
  gate : l.gate.size = 16
  ex : 1 ≤ l.ex ∧ l.ex ≤ 4294967295
  anchor : l.anchor.size = 16
  unit : l.unit < 18446744073709551616
  tok : l.tok ≤ 4096
set_option maxRecDepth 100000 in
set_option maxHeartbeats 2000000 in
theorem fits_lock (l : Lk) (w : World) (hl : l.ok) :
    Calls Tryz.prog 58 #[.agg #[.int .i64 2, .int .u64 (l.am : Nat), .string l.key, .string l.gate, .int .i64 (l.ex : Nat), .string l.anchor, .int .u64 (l.unit : Nat), .int .i64 (l.tok : Nat), .string ByteArray.empty]] w fun e w' => e = .returned (.bool true) ∧ Below w.heap.size w w' := by
  obtain ⟨h1, h2, h3, h4, h5, h6, h7⟩ := hl
  obtain ⟨am, key, gate, ex, anchor, unit, tok⟩ := l
  simp only at *
  have d1 : decide ((0 : Int) < am) = true := decide_eq_true (by omega)
  have d2 : ((key.size : Int) == 16) = true := by simp; omega
  have d3 : ((gate.size : Int) == 16) = true := by simp; omega
  have d4 : ((anchor.size : Int) == 16) = true := by simp; omega
  have d5 : decide ((1 : Int) ≤ ex) = true := decide_eq_true (by omega)
  have d6 : decide ((ex : Int) ≤ 4294967295) = true := decide_eq_true (by omega)
  have d7 : decide ((0 : Int) ≤ tok) = true := decide_eq_true (by omega)
  have d8 : decide ((tok : Int) ≤ 4096) = true := decide_eq_true (by omega)
  go_enter Tryz.func58, Tryz.ntmps58
  go_wp2
  go_region
  go_wp2
  go_region
  go_wp2
  go_ret
  refine ⟨rfl, ?_⟩
  repeat (first | exact Below.refl _ _ | refine Below.setCell ?_ (by simp) _ | refine Below.alloc ?_ (by simp <;> omega) _ | refine Below.drew ?_)
end Go.Proofs.YtdoebmikjgmnaaaGreat
namespace Go.Proofs.YtdoebmikjgmnaaaGreat
open Go.RowKit Go.Maps
theorem bel_regrown {w W : World} (h : ∃ p : Regrown, W = Go.Sort.grow (redrawn w p.d) p.os) : Below w.heap.size w W := by
  obtain ⟨p, rfl⟩ := h
  exact below_regrown w p.d p.os
/-- the same, of a long list of operations -/
theorem wp_region_bq {P : Program} {id : Nat} {Q : Exit → Act → World → Prop} {a : Act} {w : World} {ops : Array Oper} (l : List Oper) (e : ops = l.toArray) (hm : P.follows .mixedOrders = true) (hB : Region.lexB .any l.toArray = true)
    (h : wpQuiet P l.toArray (fun w' => ∃ p : Regrown, w' = Go.Sort.grow (redrawn w p.d) p.os) (fun a' => ∀ w', (∃ p : Regrown, w' = Go.Sort.grow (redrawn w p.d) p.os) → Q .normal a' w') l a) : (Code.region id ops true).wp P Q a w := by
  subst e
  exact wp_region_quiet_below hm hB h
/-- the order of the text, some operations at a time -/
def lexN (md : Region.Mode) (ops : Array Oper) : Nat → Nat → Array Bool → Bool
  | 0, _, _ => true
  | n + 1, k, listed => (Region.ready md ops listed).contains k && Region.free md ops listed k && lexN md ops n (k + 1) (listed.setIfInBounds k true)
def setN : Nat → Nat → Array Bool → Array Bool
  | 0, _, listed => listed
  | n + 1, k, listed => setN n (k + 1) (listed.setIfInBounds k true)
theorem lexFrom_add {md : Region.Mode} {ops : Array Oper} {m : Nat} : ∀ (n k : Nat) (listed : Array Bool), lexN md ops n k listed = true → Region.lexFrom md ops m (k + n) (setN n k listed) = true → Region.lexFrom md ops (n + m) k listed = true
  | 0, k, listed, _, h => by rwa [Nat.zero_add]
  | n + 1, k, listed, h1, h2 => by
    rw [show n + 1 + m = (n + m) + 1 by omega]
    simp only [lexN, Bool.and_eq_true] at h1
    simp only [Region.lexFrom, Bool.and_eq_true]
    refine ⟨h1.1, lexFrom_add n (k + 1) _ h1.2 ?_⟩
    rw [show k + 1 + n = k + (n + 1) by omega]
    exact h2
theorem lex_chunk {md : Region.Mode} {ops : Array Oper} (n m k : Nat) (listed listed' : Array Bool) (h1 : lexN md ops n k listed = true) (h2 : setN n k listed = listed') (h3 : Region.lexFrom md ops m (k + n) listed' = true) : Region.lexFrom md ops (n + m) k listed = true :=
  lexFrom_add n k listed h1 (h2 ▸ h3)
theorem lex_start {md : Region.Mode} {ops : Array Oper} (N : Nat) (listed : Array Bool) (h0 : Region.noSelect ops = true) (h1 : ops.size = N) (h2 : Array.replicate N false = listed) (h3 : Region.lexFrom md ops N 0 listed = true) : Region.lexB md ops = true := by
  subst h1
  unfold Region.lexB
  rw [h0, h2, h3]
  rfl
theorem Calls.rg {P : Program} {f : FuncId} {args : Array Value} {w : World} {p : Regrown} {v : Value}
    (h : ∀ W, Below w.heap.size w W → Calls P f args W fun e w' => e = .returned v ∧ Below W.heap.size W w') : Calls P f args (Go.Sort.grow (redrawn w p.d) p.os) fun e w'' => e = .returned v ∧ ∃ p : Regrown, w'' = Go.Sort.grow (redrawn w p.d) p.os :=
  Calls.regrown_of (h _ (below_regrown w p.d p.os))
theorem Calls.rg_drew {P : Program} {f : FuncId} {args : Array Value} {w : World} {p : Regrown} {v : Value}
    (h : ∀ W, Below w.heap.size w W → Calls P f args W fun e w' => e = .returned v ∧ ∃ n, w' = W.drewN n) : Calls P f args (Go.Sort.grow (redrawn w p.d) p.os) fun e w'' => e = .returned v ∧ ∃ p : Regrown, w'' = Go.Sort.grow (redrawn w p.d) p.os :=
  Calls.rg fun W hW => (h W hW).mono fun _ _ ⟨he, n, hn⟩ => ⟨he, hn ▸ (Ch.drewN [] W n).below (Nat.le_refl _) (by simp)⟩
theorem Calls.rg_same {P : Program} {f : FuncId} {args : Array Value} {w : World} {p : Regrown} {v : Value}
    (h : ∀ W, Below w.heap.size w W → Calls P f args W fun e w' => e = .returned v ∧ w' = W) : Calls P f args (Go.Sort.grow (redrawn w p.d) p.os) fun e w'' => e = .returned v ∧ ∃ p : Regrown, w'' = Go.Sort.grow (redrawn w p.d) p.os :=
  Calls.rg fun W hW => (h W hW).mono fun _ _ ⟨he, hn⟩ => ⟨he, hn ▸ Below.refl _ _⟩
theorem Calls.rg_same' {P : Program} {f : FuncId} {args : Array Value} {w : World} {p : Regrown} {v : Value}
    (h : ∀ W, Below w.heap.size w W → Calls P f args W fun e w' => e = .returned v ∧ W = w') : Calls P f args (Go.Sort.grow (redrawn w p.d) p.os) fun e w'' => e = .returned v ∧ ∃ p : Regrown, w'' = Go.Sort.grow (redrawn w p.d) p.os :=
  Calls.rg_same fun W hW => (h W hW).mono fun _ _ ⟨he, hn⟩ => ⟨he, hn.symm⟩
theorem cell_rg {w : World} {a : Addr} {v : Value} (h : w.cell? a = some v) : ∀ p : Regrown, (Go.Sort.grow (redrawn w p.d) p.os).cell? a = some v := fun p => cell_regrown h p.d p.os
/-- a part of a block that is known whole is read -/
theorem quiet_load_blk {w : World} {o : Oper} {a : Act} {K : Act → Prop} (ty : TypeId) (x : Operand) (ho : o.op = .load ty x)
    (g off n : Nat) {t : TypeId} {cs : Array Value} {fs : Array Field} (hb : Blk w g t cs) (part : Array Value) (hx : a.eval x = .pointer (some ⟨g, off, none⟩)) (hp : cs.extract off (off + n) = part)
    (hu : Tryz.prog.underlying ty = some (.struct fs)) (hi : (Tryz.prog.info? ty).map (·.size) = some n) (hn : off + n ≤ cs.size) (hK : K (a.put o.dst (.agg part))) :
    o.quiet Tryz.prog a (fun w' => ∃ p : Regrown, w' = Go.Sort.grow (redrawn w p.d) p.os) K := by
  refine ⟨.agg part, ?_, hK⟩
  rintro _ ⟨p, rfl⟩
  have hb' : Blk (Go.Sort.grow (redrawn w p.d) p.os) g t cs := hb.bel (below_regrown w p.d p.os)
  unfold Oper.quietAt execOp
  subst hp
  simp only [ho, hx, Instr.loadAt, Instr.sureAddr, Sem.run_bind, Sem.run_pure, Result.andThen_ok, run_loadVar_mid (P := Tryz.prog) (Go.Sort.grow (redrawn w p.d) p.os) g off ty (cs.extract off (off + n)).toList _ (World.rangeAt_of_block (w := Go.Sort.grow (redrawn w p.d) p.os) (b := g) (C := cs) (t := t) (fr := (0, 0)) hb' off n) hu rfl (by rw [hi]; simp; omega)]
  unfold Oper.quietUpon
  rw [Array.toArray_toList]
  exact ⟨rfl, rfl⟩
/-- an element of a list is read, in a region that draws its order -/
theorem quiet_load_row {w : World} {o : Oper} {a : Act} {K : Act → Prop} (ty : TypeId) (x : Operand) (ho : o.op = .load ty x) (b off : Nat) (cl : List Value) {fs : Array Field} (hc : ∀ j u, cl[j]? = some u → w.cell? ⟨b, off + j, none⟩ = some u) (part : Array Value)
    (hx : a.eval x = .pointer (some ⟨b, off, none⟩)) (hp : cl.toArray = part) (hu : Tryz.prog.underlying ty = some (.struct fs)) (hi : (Tryz.prog.info? ty).map (·.size) = some cl.length) (hK : K (a.put o.dst (.agg part))) :
    o.quiet Tryz.prog a (fun w' => ∃ p : Regrown, w' = Go.Sort.grow (redrawn w p.d) p.os) K := by
  refine ⟨.agg part, ?_, hK⟩
  rintro _ ⟨p, rfl⟩
  unfold Oper.quietAt execOp
  subst hp
  simp only [ho, hx, Instr.loadAt, Instr.sureAddr, Sem.run_bind, Sem.run_pure, Result.andThen_ok, run_loadVar_mid (P := Tryz.prog) (Go.Sort.grow (redrawn w p.d) p.os) b off ty cl _ (fun j v hv => cell_regrown (hc j v hv) p.d p.os) hu rfl hi]
  unfold Oper.quietUpon
  exact ⟨rfl, rfl⟩
end Go.Proofs.YtdoebmikjgmnaaaGreat
namespace Go.Proofs.YtdoebmikjgmnaaaGreat
open Go.RowKit
theorem then_gen {K : Act → World → Prop} {Q : Exit → Act → World → Prop} {e : Exit} {a : Act} {w : World} (h : ∀ W, W = w → Exit.then K Q e a W) : Exit.then K Q e a w := h w rfl
set_option maxRecDepth 100000 in
set_option maxHeartbeats 400000 in
theorem clam_any (a t : ByteArray) (i n0 : Nat) (b0 : Bool) (p q r : Nat) (w : World) (h1 : Blk w p 9 #[.string a]) (h2 : Blk w q 3 #[.int .i64 n0]) (h3 : Blk w r 4 #[.bool b0]) :
    Calls Tryz.prog 121 #[.int .i64 i, .string t, .pointer (some ⟨p, 0, none⟩), .pointer (some ⟨q, 0, none⟩), .pointer (some ⟨r, 0, none⟩)] w fun e w' => e = .returned (.bool (!decide (t = a))) ∧ Blk w' q 3 #[.int .i64 i] ∧ Blk w' r 4 #[.bool (decide (t = a))] ∧ Ch [q, r] w w' := by
  have c1 : w.cell? ⟨p, 0, none⟩ = some (.string a) := h1.cell 0
  have c2 : w.cell? ⟨q, 0, none⟩ = some (.int .i64 n0) := h2.cell 0
  have f2 := h2.frozen 0
  have c3 : w.cell? ⟨r, 0, none⟩ = some (.bool b0) := h3.cell 0
  have f3 := h3.frozen 0
  have hqr : q ≠ r := h2.ne_ h3 (by decide)
  have hrq : r ≠ q := Ne.symm hqr
  have hpq : p ≠ q := h1.ne_ h2 (by decide)
  have hqp : q ≠ p := Ne.symm hpq
  have hpr : p ≠ r := h1.ne_ h3 (by decide)
  have hrp : r ≠ p := Ne.symm hpr
  have H2 := Lib.hid h2
  have H3 := Lib.hid h3
  have hb := toList_beq t a
  clear h1 h2 h3
  generalize hd : decide (t = a) = d at *
  have HD := Lib.hid hd
  clear hd
  go_enter Tryz.func121, Tryz.ntmps121
  go_wp2_with fail
  go_region
  all_goals
    refine then_gen fun W hW => ?_
    have K2 : Hid (Blk W q 3 #[.int .i64 i]) := by
      rw [hW]
      first
        | exact ((H2.out.set_ 0 (.int .i64 i)).far (p := ⟨r, 0, none⟩) hqr (.bool d)).drewN 1
        | exact ((H2.out.far (p := ⟨r, 0, none⟩) hqr (.bool d)).set_ 0 (.int .i64 i)).drewN 1
    have K3 : Hid (Blk W r 4 #[.bool d]) := by
      rw [hW]
      first
        | exact ((H3.out.far (p := ⟨q, 0, none⟩) hrq (.int .i64 i)).set_ 0 (.bool d)).drewN 1
        | exact ((H3.out.set_ 0 (.bool d)).far (p := ⟨q, 0, none⟩) hrq (.int .i64 i)).drewN 1
    have KC : Hid (Ch [q, r] w W) := by
      rw [hW]
      first
        | exact ((Ch.set_ (b := q) (by simp) w 0 (.int .i64 i)).trans (Ch.set_ (b := r) (by simp) _ 0 (.bool d))).trans (Ch.drewN _ _ 1)
        | exact ((Ch.set_ (b := r) (by simp) w 0 (.bool d)).trans (Ch.set_ (b := q) (by simp) _ 0 (.int .i64 i))).trans (Ch.drewN _ _ 1)
    have u3 : W.cell? ⟨r, 0, none⟩ = some (.bool d) := K3.out.cell 0
    clear hW c1 c2 c3 f2 f3
    go_wp2_with fail
    go_ret
    exact ⟨rfl, K2.out, K3.out, KC.out⟩
/-- where the first step stands that leads to an anchor, or the last one -/
def CntP (a t : ByteArray) (most n : Nat) (b : Bool) : Prop := n ≤ most ∧ (∀ j, j < n → itB t j ≠ a) ∧ b = decide (itB t n = a) ∧ (b = true ∨ n = most)
def CntQ (a t : ByteArray) (most p q r : Nat) (w : World) (e : Ending) (w' : World) : Prop := e = .returned (.tuple #[]) ∧ ∃ n b, CntP a t most n b ∧ Blk w' q 3 #[.int .i64 n] ∧ Blk w' r 4 #[.bool b] ∧ Ch [q, r] w w'
def CntW (q r : Nat) (w : World) : Prop := ∃ (n0 : Nat) (b0 : Bool), Blk w q 3 #[.int .i64 n0] ∧ Blk w r 4 #[.bool b0]
set_option maxRecDepth 100000 in
set_option maxHeartbeats 1000000 in
theorem pwalk_cnt (a t : ByteArray) (most p q r : Nat) (w : World) (hm : most ≤ 4096) (ht : t.size = 16) (h1 : Blk w p 9 #[.string a]) (h2 : CntW q r w) :
    Calls Tryz.prog 71 #[.string t, .int .i64 most, .func (Fn.func 121) #[] #[.pointer (some ⟨p, 0, none⟩), .pointer (some ⟨q, 0, none⟩), .pointer (some ⟨r, 0, none⟩)]] w (CntQ a t most p q r w) := by
  have hpq : p ∉ [q, r] := by
    obtain ⟨_, _, k1, k2⟩ := h2
    have e1 := h1.ne_ k1 (by decide)
    have e2 := h1.ne_ k2 (by decide)
    simp [e1, e2]
  have HP := Lib.hid hpq
  have H1 := Lib.hid h1
  have H2 := Lib.hid h2
  clear h1 h2 hpq
  go_enter Tryz.func71, Tryz.ntmps71
  go_wp2
  go_loopw [0, 6] (fun u i wr => ∃ k : Nat, k ≤ most ∧ i = .int .i64 k ∧ u = .string (itB t k) ∧ Hid (∀ j, j < k → itB t j ≠ a) ∧ Hid (CntW q r wr) ∧ Hid (Ch [q, r] w wr)) (fun _ i _ => most + 1 - (intOf i).toNat)
  case atStart => exact ⟨0, Nat.zero_le _, rfl, rfl, Lib.hid (fun j hj => by omega), H2, Ch.refl _ _⟩
  case round =>
    obtain ⟨k, hk, rfl, rfl, HJ, HW, HC⟩ := hrel
    obtain ⟨n0, b0, k1, k2⟩ := HW.out
    have hz : (itB t k).size ≤ 1000000 := by rw [itB_size t ht]; omega
    have HI : Hid (nxtB (itB t k) = itB t (k + 1)) := rfl
    have HL := Lib.hid (clam_any a (itB t k) k n0 b0 p q r wr (Blk.ch H1.out HC.out HP.out) k1 k2)
    have HX := fun W => Lib.hid (pnext_any (itB t k) W hz)
    clear k1 k2
    by_cases hd : itB t k = a
    · rw [show decide (itB t k = a) = true from decide_eq_true hd] at HL
      have HD := Lib.hid hd
      clear hd
      generalize itB t k = u at HL HX ⊢
      go_wp2_with fail
      refine HL.out.mono ?_
      rintro e w1 ⟨rfl, hq, hr, hc⟩
      have HE := Lib.hid (And.intro hq (And.intro hr hc))
      clear hq hr hc
      go_wp2_with fail
      go_end0
      exact ⟨rfl, k, true, ⟨hk, HJ.out, (decide_eq_true HD.out).symm, .inl rfl⟩, HE.out.1, HE.out.2.1, HC.out.trans HE.out.2.2⟩
    · rw [show decide (itB t k = a) = false from decide_eq_false hd] at HL
      have HD := Lib.hid hd
      clear hd
      generalize hu : itB t k = u at HL HX HI ⊢
      have HU := Lib.hid hu
      clear hu
      go_wp2_with fail
      refine HL.out.mono ?_
      rintro e w1 ⟨rfl, hq, hr, hc⟩
      have HE := Lib.hid (And.intro hq (And.intro hr hc))
      clear hq hr hc
      by_cases hlt : k < most
      · have d1 : decide ((k : Int) < most) = true := decide_eq_true (by omega)
        go_wp2_with fail
        refine (HX _).out.mono ?_
        rintro e w2 ⟨rfl, hb2⟩
        have HC2 : Hid (Ch [q, r] w w2) := (HC.out.trans HE.out.2.2).trans (Ch.of_below hb2 _)
        have HW2 : Hid (CntW q r w2) := ⟨k, false, HE.out.1.bel hb2, HE.out.2.1.bel hb2⟩
        clear hb2
        go_wp2_with fail
        go_roundw
        case rel => exact ⟨k + 1, by omega, by go_num, by rw [HI.out], Lib.hid (fun j hj => by
          by_cases e : j = k
          · subst e; exact HD.out
          · exact HJ.out j (by omega)), HW2, HC2⟩
        case measure => simp [intOf]; omega
      · have d1 : decide ((k : Int) < most) = false := decide_eq_false (by omega)
        obtain rfl : k = most := by omega
        go_wp2
        go_end0
        exact ⟨rfl, k, false, ⟨hk, HJ.out, (decide_eq_false HD.out).symm, .inr rfl⟩, HE.out.1, HE.out.2.1, HC.out.trans HE.out.2.2⟩
def CntR (a t : ByteArray) (most : Nat) (w : World) (e : Ending) (w' : World) : Prop := ∃ n b, CntP a t most n b ∧ e = .returned (.tuple #[.int .i64 (if b then (n : Int) else 0), .int .i64 (if b then 0 else 4)]) ∧ Below w.heap.size w w'
set_option maxRecDepth 100000 in
set_option maxHeartbeats 1000000 in
theorem count_any (a t : ByteArray) (most : Nat) (w : World) (hm : most ≤ 4096) (ha : a.size = 16) (ht : t.size = 16) : Calls Tryz.prog 99 #[.string a, .string t, .int .i64 most] w (CntR a t most w) := by
  have d1 : ((a.size : Int) != 16) = false := by rw [ha]; rfl
  have d2 : ((t.size : Int) != 16) = false := by rw [ht]; rfl
  have d3 : decide ((4096 : Int) < (most : Int)) = false := decide_eq_false (by omega)
  have HW := fun (W : World) (p q r : Nat) h1 h2 => Lib.hid (pwalk_cnt a t most p q r W hm ht h1 h2)
  clear ha ht
  go_enter Tryz.func99, Tryz.ntmps99
  go_wp2_with fail
  refine (HW _ w.heap.size (w.heap.size + 1) (w.heap.size + 1 + 1) ?_ ?_).out.mono ?_
  · exact ((Blk.new w 9 #[.string a]).alloc _).alloc _
  · exact ⟨0, false, Blk.alloc (Blk.newAt (by simp)) _, Blk.newAt (by simp)⟩
  rintro e w1 ⟨rfl, n, b, hp, hq, hr, hc⟩
  have HP := Lib.hid hp
  have u8 : w1.cell? ⟨w.heap.size + 1, 0, none⟩ = some (.int .i64 n) := hq.cell 0
  have u9 : w1.cell? ⟨w.heap.size + 1 + 1, 0, none⟩ = some (.bool b) := hr.cell 0
  have HB : Hid (Below w.heap.size w w1) := ((((Below.refl _ _).alloc (Nat.le_refl _) _).alloc (by simp) _).alloc (by simp <;> omega) _).trans (hc.below (by simp <;> omega) (by simp <;> omega))
  clear hp hq hr hc HW
  cases b with
  | true =>
    go_wp2_with fail
    go_ret2
    exact ⟨n, true, HP.out, rfl, HB.out⟩
  | false =>
    go_wp2_with fail
    go_ret2
    exact ⟨n, false, HP.out, rfl, HB.out⟩
set_option maxRecDepth 100000 in
theorem count_bad (a t : ByteArray) (most : Int) (w : World) (h : a.size ≠ 16 ∨ t.size ≠ 16) : Calls Tryz.prog 99 #[.string a, .string t, .int .i64 most] w fun e w' => e = .returned (.tuple #[.int .i64 0, .int .i64 1]) ∧ Below w.heap.size w w' := by
  by_cases h1 : a.size = 16
  · have h2 : t.size ≠ 16 := h.resolve_left (fun x => x h1)
    have d1 : ((a.size : Int) != 16) = false := by rw [h1]; rfl
    have d2 : ((t.size : Int) != 16) = true := by rw [bne_iff_ne]; omega
    clear h h1 h2
    go_enter Tryz.func99, Tryz.ntmps99
    go_wp2_with fail
    go_ret2
    exact ⟨rfl, (Below.refl _ _).alloc (Nat.le_refl _) _⟩
  · have d1 : ((a.size : Int) != 16) = true := by rw [bne_iff_ne]; omega
    clear h h1
    go_enter Tryz.func99, Tryz.ntmps99
    go_wp2_with fail
    go_ret2
    exact ⟨rfl, (Below.refl _ _).alloc (Nat.le_refl _) _⟩
def mayN (m : Nat) : Bool := decide (1 ≤ m ∧ m ≤ 4294967296)
set_option maxRecDepth 100000 in
theorem dmayB_any (m : Nat) (w : World) (hm : m < 18446744073709551616) : Calls Tryz.prog 144 #[.int .u64 m] w fun e w' => e = .returned (.bool (mayN m)) ∧ w = w' := by
  by_cases h1 : 1 ≤ m
  · by_cases h2 : m ≤ 4294967296
    · rw [show mayN m = true from decide_eq_true ⟨h1, h2⟩]
      have d1 : decide ((1 : Int) ≤ (m : Int)) = true := decide_eq_true (by omega)
      have d2 : decide ((m : Int) ≤ 4294967296) = true := decide_eq_true (by omega)
      go_enter Tryz.func144, Tryz.ntmps144
      go_wp2_with fail
      go_ret
      exact ⟨rfl, rfl⟩
    · rw [show mayN m = false from decide_eq_false (by omega)]
      have d1 : decide ((1 : Int) ≤ (m : Int)) = true := decide_eq_true (by omega)
      have d2 : decide ((m : Int) ≤ 4294967296) = false := decide_eq_false (by omega)
      go_enter Tryz.func144, Tryz.ntmps144
      go_wp2_with fail
      go_ret
      exact ⟨rfl, rfl⟩
  · rw [show mayN m = false from decide_eq_false (by omega)]
    have d1 : decide ((1 : Int) ≤ (m : Int)) = false := decide_eq_false (by omega)
    go_enter Tryz.func144, Tryz.ntmps144
    go_wp2_with fail
    go_ret
    exact ⟨rfl, rfl⟩
/-- a drawn number, and a client's, win -/
def winsB (d c k m : Nat) : Bool := decide ((d + c) % m < k)
def winsOk (d k m : Nat) : Bool := mayN m && decide (k ≤ m) && decide (d < m)
set_option maxRecDepth 100000 in
theorem wins_ok (d c k m : Nat) (w : World) (hc : c < 18446744073709551616) (h : winsOk d k m = true) :
    Calls Tryz.prog 124 #[.int .u64 d, .int .u64 c, .int .u64 k, .int .u64 m] w fun e w' => e = .returned (.tuple #[.bool (winsB d c k m), .int .i64 0]) ∧ w = w' := by
  unfold winsOk mayN at h
  simp at h
  obtain ⟨⟨⟨h1, h2⟩, h3⟩, h4⟩ := h
  have HM := Lib.hid (dmayB_any m w (by omega))
  rw [show mayN m = true from decide_eq_true ⟨h1, h2⟩] at HM
  have d1 : decide ((m : Int) < (k : Int)) = false := decide_eq_false (by omega)
  have d2 : decide ((m : Int) ≤ (d : Int)) = false := decide_eq_false (by omega)
  have hr : c % m < m := Nat.mod_lt _ (by omega)
  have hw : IntKind.u64.wrap ((d : Int) + (c : Int) % (m : Int)) = ((d + c % m : Nat) : Int) := by
    rw [show (d : Int) + (c : Int) % (m : Int) = ((d + c % m : Nat) : Int) by simp]
    exact IntWalk.u64_in _ (by omega)
  have hm0 : ((m : Int) == 0) = false := beq_eq_false_iff_ne.2 (by omega)
  have hB : decide (((d : Int) + (c : Int)) % (m : Int) < (k : Int)) = winsB d c k m := by
    unfold winsB
    rw [decide_eq_decide, ← Int.natCast_add, ← Int.natCast_emod]
    exact Int.ofNat_lt
  generalize winsB d c k m = bb at hB ⊢
  go_enter Tryz.func124, Tryz.ntmps124
  go_wp2_with fail
  refine HM.out.mono ?_
  rintro e w' ⟨rfl, rfl⟩
  go_wp2_with fail
  go_ret2
  exact ⟨rfl, rfl⟩
set_option maxRecDepth 100000 in
theorem wins_no (d c k m : Nat) (w : World) (hm : m < 18446744073709551616) (h : winsOk d k m = false) :
    Calls Tryz.prog 124 #[.int .u64 d, .int .u64 c, .int .u64 k, .int .u64 m] w fun e w' => e = .returned (.tuple #[.bool false, .int .i64 1]) ∧ w = w' := by
  have HM := Lib.hid (dmayB_any m w hm)
  by_cases h1 : mayN m = true
  · rw [h1] at HM
    by_cases h2 : k ≤ m
    · have h3 : m ≤ d := by
        unfold winsOk at h
        rw [h1, decide_eq_true h2] at h
        simpa using h
      have d1 : decide ((m : Int) < (k : Int)) = false := decide_eq_false (by omega)
      have d2 : decide ((m : Int) ≤ (d : Int)) = true := decide_eq_true (by omega)
      clear h h1
      go_enter Tryz.func124, Tryz.ntmps124
      go_wp2_with fail
      refine HM.out.mono ?_
      rintro e w' ⟨rfl, rfl⟩
      go_wp2_with fail
      go_ret2
      exact ⟨rfl, rfl⟩
    · have d1 : decide ((m : Int) < (k : Int)) = true := decide_eq_true (by omega)
      clear h h1
      go_enter Tryz.func124, Tryz.ntmps124
      go_wp2_with fail
      refine HM.out.mono ?_
      rintro e w' ⟨rfl, rfl⟩
      go_wp2_with fail
      go_ret2
      exact ⟨rfl, rfl⟩
  · rw [show mayN m = false by simpa using h1] at HM
    clear h h1
    go_enter Tryz.func124, Tryz.ntmps124
    go_wp2_with fail
    refine HM.out.mono ?_
    rintro e w' ⟨rfl, rfl⟩
    go_wp2_with fail
    go_ret2
    exact ⟨rfl, rfl⟩
def wDraw : ByteArray := ⟨#[100, 114, 97, 119]⟩
def comB (salt : ByteArray) (n : Nat) : ByteArray := tagB wDraw [salt, putB n]
theorem comB_size (salt : ByteArray) (n : Nat) : (comB salt n).size = 16 := tagB_size _ _
set_option maxRecDepth 100000 in
set_option maxHeartbeats 1000000 in
theorem commit_any (salt : ByteArray) (n : Nat) (w : World) (hn : n < 18446744073709551616) (hz : salt.size ≤ 1000000) :
    Calls Tryz.prog 146 #[.string salt, .int .u64 n] w fun e w' => e = .returned (.string (comB salt n)) ∧ Below w.heap.size w w' := by
  have hp := putB_size n
  have HP := Lib.hid (put_any n w hn)
  unfold comB
  generalize putB n = pn at hp HP ⊢
  go_enter Tryz.func146, Tryz.ntmps146
  go_wp2_with fail
  refine HP.out.mono ?_
  rintro e w1 ⟨rfl, hb1⟩
  have HB1 := Lib.hid hb1
  clear hb1
  go_wp2_with fail
  refine (tag2 ⟨#[100, 114, 97, 119]⟩ salt pn _ _ rfl (by decide) hz (by omega)).mono ?_
  rintro e w2 ⟨rfl, hb⟩
  have HB : Hid (Below w.heap.size w w2) := HB1.out.trans (hb.mono HB1.out.size)
  clear hb
  go_wp2
  go_ret
  exact ⟨rfl, HB.out⟩
set_option maxRecDepth 100000 in
theorem opens_any (com salt : ByteArray) (n : Nat) (w : World) (hn : n < 18446744073709551616) (hz : salt.size ≤ 1000000) :
    Calls Tryz.prog 126 #[.string com, .string salt, .int .u64 n] w fun e w' => e = .returned (.bool (decide (com = comB salt n))) ∧ Below w.heap.size w w' := by
  have HC := Lib.hid (commit_any salt n w hn hz)
  have hb := toList_beq com (comB salt n)
  generalize comB salt n = c2 at HC hb ⊢
  generalize decide (com = c2) = d at hb ⊢
  go_enter Tryz.func126, Tryz.ntmps126
  go_wp2_with fail
  refine HC.out.mono ?_
  rintro e w1 ⟨rfl, hb1⟩
  have HB1 := Lib.hid hb1
  clear hb1
  go_wp2_with fail
  go_ret
  exact ⟨rfl, HB1.out⟩
end Go.Proofs.YtdoebmikjgmnaaaGreat
namespace Go.Proofs.YtdoebmikjgmnaaaGreat
open Go.RowKit
/-- results: a struct in a cell, and a number -/
theorem results_cell_row2 {fn : Func} {p u : Tmp} {ty : TypeId} (h : fn.results = #[.cell p ty, .tmp u]) (tmps : Array Value) {w : World} {g : Nat} {t : TypeId} {cs : Array Value} {fs : Array Field} (hb : Blk w g t cs)
    (hp : tmps.getD p undef = .pointer (some ⟨g, 0, none⟩)) (hu : Tryz.prog.underlying ty = some (.struct fs)) (hi : (Tryz.prog.info? ty).map (·.size) = some cs.size) :
    (results fn tmps).run Tryz.prog w = .ok (.tuple #[.agg cs, tmps.getD u undef]) w := by
  rw [results_cell_tmp h, hp]
  simp [asAddr, run_loadVar_row w g t ty cs (0, 0) _ hb hu rfl hi, Result.andThen]
theorem infoEnt : (Tryz.prog.info? 43).map (·.size) = some 11 := by kernel_rfl
def zSt : Array Value := #[.string ByteArray.empty, .int .i64 0, .int .i64 0, .int .u64 0, .string ByteArray.empty, .string ByteArray.empty, .int .i64 0, .string ByteArray.empty, .int .u64 0, .int .i64 0, .string ByteArray.empty, .slice none 0 0, .int .u64 0, .string ByteArray.empty, .string ByteArray.empty, .slice none 0 0, .int .i64 0, .int .u64 0, .int .u64 0, .bool false]
def entC (tx : ByteArray) (out : Nat) (l : Lk) : Array Value := #[.string tx, .int .i64 (out : Nat), .int .i64 2, .int .u64 (l.am : Nat), .string l.key, .string l.gate, .int .i64 (l.ex : Nat), .string l.anchor, .int .u64 (l.unit : Nat), .int .i64 (l.tok : Nat), .string ByteArray.empty]
def stC (tx : ByteArray) (out : Nat) (l : Lk) : Array Value := #[.string tx, .int .i64 (out : Nat), .int .i64 2, .int .u64 (l.am : Nat), .string l.key, .string l.gate, .int .i64 (l.ex : Nat), .string l.anchor, .int .u64 (l.unit : Nat), .int .i64 (l.tok : Nat), .string ByteArray.empty, .slice none 0 0, .int .u64 0, .string ByteArray.empty, .string ByteArray.empty, .slice none 0 0, .int .i64 0, .int .u64 0, .int .u64 0, .bool false]
theorem stC_one (tx : ByteArray) (out : Nat) (l : Lk) : (stC tx out l).all (·.oneCell') = true := by
  rw [Array.all_eq_true']
  intro x hx
  simp only [stC, List.mem_toArray, List.mem_cons, List.not_mem_nil, or_false] at hx
  rcases hx with rfl | rfl | rfl | rfl | rfl | rfl | rfl | rfl | rfl | rfl | rfl | rfl | rfl | rfl | rfl | rfl | rfl | rfl | rfl | rfl <;> rfl
end Go.Proofs.YtdoebmikjgmnaaaGreat
