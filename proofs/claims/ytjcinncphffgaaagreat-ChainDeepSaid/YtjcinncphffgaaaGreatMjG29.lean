/- utxo: Get: what is at a place. A set of places in memory. Transactions: their parts; what an input may be. coin.Right of any transaction. -/
import Derived.Outline
import Derived.Deep.RegionHeld3
import Derived.MapKept
import Derived.Laws.Entries
import Derived.Test.YtjcinncphffgaaaGreatMjClmA
import Derived.Test.YtjcinncphffgaaaGreatMjG15
import Derived.Test.YtjcinncphffgaaaGreatMjG21
import Derived.Test.YtjcinncphffgaaaGreatMjG25
import Derived.Test.YtjcinncphffgaaaGreatMjG26
import Derived.Test.YtjcinncphffgaaaGreatMjG28
import Derived.Test.YtjcinncphffgaaaGreatMjSdkB
set_option linter.unusedVariables false
set_option linter.unusedSimpArgs false
namespace Go.Proofs.YtjcinncphffgaaaGreat
open Go.RowKit Go.Maps
end Go.Proofs.YtjcinncphffgaaaGreat
namespace Go.Proofs.YtjcinncphffgaaaGreat
open Go.RowKit Go.Maps
noncomputable def setP (l : List Pt) : DU := setOf (.lit (.bool true)) (l.map kp)
theorem setP_key (l : List Pt) : ∀ x ∈ l.map kp, WideAt.IsKeyLit x := by
  intro x hx
  obtain ⟨n, _, rfl⟩ := List.mem_map.1 hx
  exact kp_is n
def hasP (l : List Pt) (n : Pt) : Bool := l.any fun q => decide (q = n)
theorem hasP_iff (l : List Pt) (n : Pt) : hasP l n = true ↔ n ∈ l := by
  unfold hasP
  rw [List.any_eq_true]
  constructor
  · rintro ⟨q, hq, he⟩
    rw [← of_decide_eq_true he]; exact hq
  · intro h; exact ⟨n, h, decide_eq_true rfl⟩
theorem hasP_no {l : List Pt} {n : Pt} (h : ¬ n ∈ l) : hasP l n = false := by
  cases q : hasP l n with
  | true => exact absurd ((hasP_iff l n).1 q) h
  | false => rfl
theorem setP_has (l : List Pt) (hl : ∀ p ∈ l, p.ok) (n : Pt) (hn : n.ok) : Maps.has (setP l) (kp n) = hasP l n := by
  unfold setP
  rw [has_setOf _ _ _ (setP_key l), Bool.eq_iff_iff, List.any_eq_true, hasP_iff]
  constructor
  · rintro ⟨x, hx, hs⟩
    obtain ⟨m, hm, rfl⟩ := List.mem_map.1 hx
    rw [← kp_inj (hl m hm) hn (WideAt.sameKey_eq hs)]; exact hm
  · intro h
    exact ⟨kp n, List.mem_map.2 ⟨n, h, rfl⟩, WideAt.sameKey_self (kp_is n)⟩
theorem setP_snoc (l : List Pt) (n : Pt) : setP (l ++ [n]) = (setP l).put (kp n) (.lit (.bool true)) := by
  unfold setP
  rw [List.map_append, List.map_cons, List.map_nil, setOf_snoc]
theorem foldP_at (n : Pt) (hn : n.ok) (z : DU) : ∀ (l : List Pt) (D : DU), (∀ p ∈ l, p.ok) → IsMap D → (n ∈ l ∨ D.atKey (kp n) z = .lit (.bool true)) → (l.foldl (fun m x => m.put (kp x) (.lit (.bool true))) D).atKey (kp n) z = .lit (.bool true)
  | [], D, _, _, h => by
    rcases h with h | h
    · cases h
    · exact h
  | x :: r, D, hl, hD, h => by
    show (r.foldl _ (D.put (kp x) (.lit (.bool true)))).atKey (kp n) z = _
    refine foldP_at n hn z r _ (fun p hp => hl p (by simp [hp])) (isMap_put hD _ _) ?_
    by_cases e : x = n
    · subst e
      exact .inr (atKey_put_same hD (kp_is _) _ _)
    · rcases h with h | h
      · rcases List.mem_cons.1 h with h | h
        · exact absurd h.symm e
        · exact .inl h
      · exact .inr (by rw [atKey_put_other (fun e' => e (kp_inj hn (hl x (by simp)) e').symm)]; exact h)
theorem setP_at (n : Pt) (hn : n.ok) (l : List Pt) (hl : ∀ p ∈ l, p.ok) (h : n ∈ l) (z : DU) : (setP l).atKey (kp n) z = .lit (.bool true) := by
  unfold setP setOf
  rw [List.foldl_map]
  exact foldP_at n hn z l _ hl isMap_empty (.inl h)
/-- block b is a set of places -/
structure StP (w : World) (b : Nat) (l : List Pt) : Prop where
  ok : ∀ p ∈ l, p.ok
  at_ : w.ownsMap Tryz.prog 57 elB b l.length (setP l)
theorem StP.new (w : World) : StP (w.alloc (.map #[] 0)) w.heap.size [] := ⟨(by intro p hp; cases hp), World.ownsMap_made _ _ _ _⟩
theorem StP.ch {S : List Nat} {w w' : World} {b : Nat} {l : List Pt} (h : StP w b l) (hc : Ch S w w') (hn : b ∉ S) : StP w' b l := ⟨h.ok, hc.map h.at_ hn⟩
theorem StP.lt {w : World} {b : Nat} {l : List Pt} (h : StP w b l) : b < w.heap.size := World.ownsMap.lt h.at_
theorem StP.bel {w w' : World} {b : Nat} {l : List Pt} (h : StP w b l) (hb : Below w.heap.size w w') : StP w' b l := h.ch (Ch.of_below hb []) (by simp)
theorem StP.look {w : World} {b : Nat} {l : List Pt} (h : StP w b l) (n : Pt) (hn : n.ok) : (Instr.lookup 167 (.map (some b)) (.agg n.cs) false).run Tryz.prog w = .ok (.bool (hasP l n)) w := by
  obtain ⟨v, ps, hrun, hv⟩ := World.ownsMap.lookup h.at_ lawPt Tryz.underlying167 (zeroBo w) (elB_mk false) (kp_key n hn)
  by_cases hm : n ∈ l
  · rw [setP_at n hn l h.ok hm] at hv
    rw [hrun, elB_inv hv, (hasP_iff l n).2 hm]
  · rw [atKey_of_not_has (by rw [setP_has l h.ok n hn, hasP_no hm])] at hv
    rw [hrun, elB_inv hv, hasP_no hm]
theorem StP.put {w : World} {b : Nat} {l : List Pt} (h : StP w b l) (n : Pt) (hn : n.ok) (hl : l.length < maxLen) : ∃ w', (Instr.mapUpdate 167 (.map (some b)) (.agg n.cs) (.bool true)).run Tryz.prog w = .ok () w' ∧ StP w' b (l ++ [n]) ∧ Ch [b] w w' := by
  obtain ⟨w', hrun, h1, h2⟩ := World.ownsMap.update h.at_ lawPt Tryz.underlying167 hl (kp_key n hn) (elB_mk true)
  refine ⟨w', hrun, ⟨?_, ?_⟩, Ch.of_grown h2⟩
  · intro p hp
    rcases List.mem_append.1 hp with hp | hp
    · exact h.ok p hp
    · rw [List.mem_singleton.1 hp]; exact hn
  · rw [setP_snoc, List.length_append]
    exact h1
end Go.Proofs.YtjcinncphffgaaaGreat
namespace Go.Proofs.YtjcinncphffgaaaGreat
open Go.RowKit Go.Maps
/-- an input -/
structure Inp where
  tx : ByteArray
  out : Int
  path : Int
  sig : ByteArray
def Inp.cs (i : Inp) : Array Value := #[.string i.tx, .int .i64 i.out, .int .i64 i.path, .string i.sig]
def Inp.cl (i : Inp) : List Value := i.cs.toList
def Inp.pt (i : Inp) : Pt := (i.tx, i.out)
def zInp : Inp := ⟨ByteArray.empty, 0, 0, ByteArray.empty⟩
theorem incs_one (i : Inp) : i.cs.all (·.oneCell') = true := by
  rw [Array.all_eq_true']
  intro x hx
  simp only [Inp.cs, List.mem_toArray, List.mem_cons, List.not_mem_nil, or_false] at hx
  rcases hx with rfl | rfl | rfl | rfl <;> rfl
theorem inv_over (i : Inp) {cs : Array Value} (h : cs.size = 4) : over cs 0 i.cs.toList = i.cs := (over_full i.cs.toList cs (by rw [h]; rfl)).trans (Array.toArray_toList ..)
theorem inv_ext (i : Inp) : i.cs.extract 0 (0 + 4) = i.cs := by rfl
theorem inv_pt (i : Inp) : i.cs.extract 0 (0 + 2) = i.pt.cs := by rfl
theorem wpList_load_in {ops : Array Oper} {rest : List Oper} {o : Oper} {a : Act} {w : World} {Q : Exit → Act → World → Prop} (hgd : o.guard = none) (x : Operand) (ho : o.op = .load 59 x) (b off : Nat) (hx : a.eval x = .pointer (some ⟨b, off, none⟩)) (y : Inp)
    (hc : ∀ j u, y.cl[j]? = some u → w.cell? ⟨b, off + j, none⟩ = some u) (h : wpList Tryz.prog ops Q rest (a.put o.dst (.agg y.cs)) w) : wpList Tryz.prog ops Q (o :: rest) a w := by
  refine wpList_load_mid (P := Tryz.prog) hgd 59 x ho b off hx y.cl _ hc Tryz.underlying59 rfl (by rw [infoIn]; rfl) ?_
  show wpList Tryz.prog ops Q rest (a.put o.dst (.agg y.cs.toList.toArray)) w
  rw [Array.toArray_toList]
  exact h
/-- a transaction, its lists' places in it -/
structure Txn where
  A : Option Addr
  ins : List Inp
  c : Nat
  B : Option Addr
  outs : List Ou
  d : Nat
  p : Pf
def Txn.cs (t : Txn) : Array Value := #[.slice t.A t.ins.length t.c, .slice t.B t.outs.length t.d, .int .u64 (t.p.am : Nat), .string t.p.sig, .string t.p.tok, .slice t.p.A t.p.l.length t.p.c]
structure Txn.mem (t : Txn) (w : World) : Prop where
  ins : Sl w w.heap.size 4 Inp.cl t.A t.ins
  outs : Sl w w.heap.size 9 Ou.cl t.B t.outs
  wins : Sl w w.heap.size 10 Wn.cl t.p.A t.p.l
theorem Txn.mem.bel {t : Txn} {w w' : World} (h : t.mem w) (hb : Below w.heap.size w w') : t.mem w' :=
  ⟨(h.ins.below hb).more hb.size, (h.outs.below hb).more hb.size, (h.wins.below hb).more hb.size⟩
theorem txncs_one (t : Txn) : t.cs.all (·.oneCell') = true := by
  rw [Array.all_eq_true']
  intro x hx
  simp only [Txn.cs, List.mem_toArray, List.mem_cons, List.not_mem_nil, or_false] at hx
  rcases hx with rfl | rfl | rfl | rfl | rfl | rfl <;> rfl
theorem txn_ext (t : Txn) : t.cs.extract 0 (0 + 6) = t.cs := by rfl
theorem txn_pf (t : Txn) : t.cs.extract 2 (2 + 4) = t.p.cs := by rfl
def inB (i : Inp) : Bool := decide (i.tx.size = 16) && (decide (0 ≤ i.out) && decide (i.out ≤ 255)) && (decide (1 ≤ i.path) && decide (i.path ≤ 3)) && decide (i.sig.size ≤ 400)
theorem inB_ok {i : Inp} (h : inB i = true) : i.pt.ok := by
  simp only [inB, Bool.and_eq_true, decide_eq_true_eq] at h
  obtain ⟨⟨⟨h1, h2, h3⟩, _⟩, _⟩ := h
  refine ⟨by show i.tx.size ≤ maxLen; rw [h1]; simp [maxLen], ?_⟩
  show (Lit.int .i64 i.out).wf = true
  simp [Lit.wf, IntKind.min, IntKind.max, IntKind.signed, IntKind.bits]; omega
set_option maxRecDepth 100000 in
set_option maxHeartbeats 4000000 in
theorem infits_any (i : Inp) (w : World) : Calls Tryz.prog 81 #[.agg i.cs] w fun e w' => e = .returned (.bool (inB i)) ∧ Below w.heap.size w w' := by
  obtain ⟨tx, out, path, sig⟩ := i
  have hI : Hid (inB ⟨tx, out, path, sig⟩ = (decide (tx.size = 16) && (decide (0 ≤ out) && decide (out ≤ 255)) && (decide (1 ≤ path) && decide (path ≤ 3)) && decide (sig.size ≤ 400))) := rfl
  generalize inB ⟨tx, out, path, sig⟩ = bi at hI ⊢
  simp only [Inp.cs]
  by_cases h1 : tx.size = 16
  · have d1 : ((tx.size : Int) == 16) = true := by simp; omega
    by_cases h2 : 0 ≤ out
    · have d2 : decide ((0 : Int) ≤ out) = true := decide_eq_true h2
      by_cases h3 : out ≤ 255
      · have d3 : decide (out ≤ 255) = true := decide_eq_true h3
        by_cases h4 : 1 ≤ path
        · have d4 : decide ((1 : Int) ≤ path) = true := decide_eq_true h4
          by_cases h5 : path ≤ 3
          · have d5 : decide (path ≤ 3) = true := decide_eq_true h5
            by_cases h6 : sig.size ≤ 400
            · have d6 : decide ((sig.size : Int) ≤ 400) = true := decide_eq_true (by omega)
              obtain rfl : bi = true := by rw [hI.out, decide_eq_true h1, decide_eq_true h2, decide_eq_true h3, decide_eq_true h4, decide_eq_true h5, decide_eq_true h6]; rfl
              clear h1 h2 h3 h4 h5 h6
              go_enter Tryz.func81, Tryz.ntmps81
              go_wp2
              go_ret
              refine ⟨rfl, ?_⟩
              repeat (first | exact Below.refl _ _ | refine Below.setCell ?_ (by simp) _ | refine Below.alloc ?_ (by simp <;> omega) _ | refine Below.drew ?_)
            · have d6 : decide ((sig.size : Int) ≤ 400) = false := decide_eq_false (by omega)
              obtain rfl : bi = false := by rw [hI.out, decide_eq_false h6, Bool.and_false]
              clear h1 h2 h3 h4 h5 h6
              go_enter Tryz.func81, Tryz.ntmps81
              go_wp2
              go_ret
              refine ⟨rfl, ?_⟩
              repeat (first | exact Below.refl _ _ | refine Below.setCell ?_ (by simp) _ | refine Below.alloc ?_ (by simp <;> omega) _ | refine Below.drew ?_)
          · have d5 : decide (path ≤ 3) = false := decide_eq_false h5
            obtain rfl : bi = false := by rw [hI.out, decide_eq_false h5, Bool.and_false, Bool.and_false, Bool.false_and]
            clear h1 h2 h3 h4 h5
            go_enter Tryz.func81, Tryz.ntmps81
            go_wp2
            go_ret
            refine ⟨rfl, ?_⟩
            repeat (first | exact Below.refl _ _ | refine Below.setCell ?_ (by simp) _ | refine Below.alloc ?_ (by simp <;> omega) _ | refine Below.drew ?_)
        · have d4 : decide ((1 : Int) ≤ path) = false := decide_eq_false h4
          obtain rfl : bi = false := by rw [hI.out, decide_eq_false h4, Bool.false_and, Bool.and_false, Bool.false_and]
          clear h1 h2 h3 h4
          go_enter Tryz.func81, Tryz.ntmps81
          go_wp2
          go_ret
          refine ⟨rfl, ?_⟩
          repeat (first | exact Below.refl _ _ | refine Below.setCell ?_ (by simp) _ | refine Below.alloc ?_ (by simp <;> omega) _ | refine Below.drew ?_)
      · have d3 : decide (out ≤ 255) = false := decide_eq_false h3
        obtain rfl : bi = false := by rw [hI.out, decide_eq_false h3, Bool.and_false, Bool.and_false, Bool.false_and, Bool.false_and]
        clear h1 h2 h3
        go_enter Tryz.func81, Tryz.ntmps81
        go_wp2
        go_ret
        refine ⟨rfl, ?_⟩
        repeat (first | exact Below.refl _ _ | refine Below.setCell ?_ (by simp) _ | refine Below.alloc ?_ (by simp <;> omega) _ | refine Below.drew ?_)
    · have d2 : decide ((0 : Int) ≤ out) = false := decide_eq_false h2
      obtain rfl : bi = false := by rw [hI.out, decide_eq_false h2, Bool.false_and, Bool.and_false, Bool.false_and, Bool.false_and]
      clear h1 h2
      go_enter Tryz.func81, Tryz.ntmps81
      go_wp2
      go_ret
      refine ⟨rfl, ?_⟩
      repeat (first | exact Below.refl _ _ | refine Below.setCell ?_ (by simp) _ | refine Below.alloc ?_ (by simp <;> omega) _ | refine Below.drew ?_)
  · have d1 : ((tx.size : Int) == 16) = false := by simp; omega
    obtain rfl : bi = false := by rw [hI.out, decide_eq_false h1, Bool.false_and, Bool.false_and, Bool.false_and]
    clear h1
    go_enter Tryz.func81, Tryz.ntmps81
    go_wp2
    go_ret
    refine ⟨rfl, ?_⟩
    repeat (first | exact Below.refl _ _ | refine Below.setCell ?_ (by simp) _ | refine Below.alloc ?_ (by simp <;> omega) _ | refine Below.drew ?_)
end Go.Proofs.YtjcinncphffgaaaGreat
namespace Go.Proofs.YtjcinncphffgaaaGreat
open Go.RowKit Go.Maps
def winB4 (n : Nat) : Bool := decide ((1 : Int) ≤ n) && decide ((n : Int) ≤ 4)
def insB (l : List Inp) : Bool := l.all inB && decide ((l.map Inp.pt).Nodup)
/-- whether a transaction may be -/
def rightT (t : Txn) : Bool := insB t.ins && (winB4 t.ins.length && (winB4 t.outs.length && (!(t.outs.any fun o => !fitsB o) && rightB t.p)))
theorem within_gen (n : Nat) (w : World) : Calls Tryz.prog 84 #[.int .i64 (n : Int), .int .i64 1, .int .i64 4] w fun e w' => e = .returned (.bool (winB4 n)) ∧ w' = w := by
  unfold winB4
  by_cases h1 : (1 : Int) ≤ n
  · have d1 : decide ((1 : Int) ≤ n) = true := decide_eq_true h1
    rw [d1, Bool.true_and]
    go_enter Tryz.func84, Tryz.ntmps84
    go_wp2
    go_ret
    exact ⟨rfl, rfl⟩
  · have d1 : decide ((1 : Int) ≤ n) = false := decide_eq_false h1
    rw [d1, Bool.false_and]
    go_enter Tryz.func84, Tryz.ntmps84
    go_wp2
    go_ret
    exact ⟨rfl, rfl⟩
set_option maxRecDepth 100000 in
set_option maxHeartbeats 2000000 in
theorem right1_gen (o : Ou) (w : World) : Calls Tryz.prog 82 #[.agg o.cs] w fun e w' => e = .returned (.bool (!fitsB o)) ∧ Below w.heap.size w w' := by
  have HF := fun W => Lib.hid (fits_gen o W)
  have HX := Lib.hid (Blk.new w 81 o.cs)
  generalize fitsB o = b at HF ⊢
  go_enter Tryz.func82, Tryz.ntmps82
  go_wp2_with (first | (refine wpList_load_blk rfl 81 (.tmp 1) rfl w.heap.size 0 9 HX.out o.cs (by rfl) (ouv_ext o) Tryz.underlying81 infoOu9 (Nat.le_refl 9) ?_))
  refine (HF _).out.mono ?_
  rintro e w1 ⟨rfl, hb⟩
  have HB : Hid (Below w.heap.size w w1) := ((Below.refl _ _).alloc (Nat.le_refl _) _).trans (hb.mono (by simp))
  clear hb
  go_wp2
  go_ret
  exact ⟨rfl, HB.out⟩
set_option maxRecDepth 100000 in
set_option maxHeartbeats 1000000 in
theorem indexr_ou  (A : Option Addr) (l : List Ou) (c : Nat) (q : Ou → Bool) (w : World) (hS : Sl w w.heap.size 9 Ou.cl A l) (hl : l.length ≤ 1000000)
    (HF : ∀ W, Below w.heap.size w W → ∀ x ∈ l, Calls Tryz.prog 82 (#[.agg x.cs] ++ #[]) W fun e w' => e = .returned (.bool (q x)) ∧ Below W.heap.size W w') :
    Calls Tryz.prog 149 #[.slice A l.length c, .func (Fn.func 82) #[] #[]] w fun e w' => e = .returned (.int .i64 (fIdx q l)) ∧ Below w.heap.size w w' := by
  have HS := Lib.hid hS
  have HFF := Lib.hid HF
  clear hS HF
  go_enter Tryz.func149, Tryz.ntmps149
  go_wp2_with fail
  go_loopw [8] (fun i wr => ∃ k : Nat, k ≤ l.length ∧ i = .int .i64 k ∧ Hid ((l.take k).any q = false) ∧ Hid (Below w.heap.size w wr)) (fun i _ => l.length - (intOf i).toNat)
  case atStart => exact ⟨0, Nat.zero_le _, rfl, Lib.hid rfl, Lib.hid (Below.refl _ _)⟩
  case round =>
    obtain ⟨k, hk, rfl, HT, HB⟩ := hrel
    have hz := HB.out.size
    by_cases hlt : k < l.length
    · obtain ⟨ab, off, rfl, hbB, hc⟩ := (HS.out.below HB.out).at_ hlt
      have HC1 := HFF.out wr HB.out _ (List.getElem_mem hlt)
      have HTS : Hid ((l.take (k + 1)).any q = ((l.take k).any q || q l[k])) := by
        show _ = _
        rw [List.take_succ_eq_append_getElem hlt, List.any_append]
        simp
      have HIX := Lib.hid (fIdx_at q l k hlt HT.out)
      generalize l[k] = x at hc HC1 HTS HIX
      have HCC := Lib.hid hc
      have HCL := Lib.hid HC1
      clear hc HC1
      go_wp2_with (refine wpList_load_ou rfl (.tmp 14) rfl ab (off + k * 9) (by rfl) x HCC.out ?_)
      refine HCL.out.mono ?_
      rintro e W1 ⟨rfl, hb⟩
      have HB1 := Lib.hid (HB.out.trans (hb.mono hz))
      clear hb HCL
      generalize q x = b at HTS HIX ⊢
      cases b with
      | true =>
        have HI1 := Lib.hid (HIX.out rfl)
        clear HIX HTS
        go_wp2_with fail
        go_ret
        exact ⟨by rw [HI1.out]; rfl, HB1.out⟩
      | false =>
        have HT1 : Hid ((l.take (k + 1)).any q = false) := Lib.hid (by rw [HTS.out, HT.out]; rfl)
        clear HIX HTS
        go_wp2_with fail
        go_roundw
        case rel => exact ⟨k + 1, by omega, by go_num, HT1, HB1⟩
        case measure => simp [intOf]; omega
    · have hkl : k = l.length := by omega
      subst hkl
      have HE := Lib.hid (fIdx_none q l (by rw [List.take_length] at HT; exact HT.out))
      go_wp2_with fail
      go_ret
      exact ⟨by rw [HE.out]; rfl, HB.out⟩
set_option maxRecDepth 100000 in
theorem containsr_ou  (A : Option Addr) (l : List Ou) (c : Nat) (q : Ou → Bool) (w : World) (hS : Sl w w.heap.size 9 Ou.cl A l) (hl : l.length ≤ 1000000)
    (HF : ∀ W, Below w.heap.size w W → ∀ x ∈ l, Calls Tryz.prog 82 (#[.agg x.cs] ++ #[]) W fun e w' => e = .returned (.bool (q x)) ∧ Below W.heap.size W w') :
    Calls Tryz.prog 85 #[.slice A l.length c, .func (Fn.func 82) #[] #[]] w fun e w' => e = .returned (.bool (l.any q)) ∧ Below w.heap.size w w' := by
  have HI := Lib.hid (indexr_ou  A l c q w hS hl HF)
  have HD := Lib.hid (fIdx_any q l)
  generalize fIdx q l = z at HI HD
  generalize l.any q = b at HD ⊢
  clear hS HF
  have hd : decide ((0 : Int) ≤ z) = b := HD.out
  clear HD
  go_enter Tryz.func85, Tryz.ntmps85
  go_wp2_with fail
  refine HI.out.mono ?_
  rintro e W1 ⟨rfl, hb⟩
  have HB := Lib.hid hb
  clear hb HI
  go_wp2
  go_ret
  exact ⟨rfl, HB.out⟩
set_option maxRecDepth 100000 in
set_option maxHeartbeats 4000000 in
theorem right_gen (t : Txn) (w : World) (hm : t.mem w) (hl : t.ins.length ≤ 1000) (hlo : t.outs.length ≤ 1000) (hlw : t.p.l.length ≤ 1000) :
    Calls Tryz.prog 23 #[.agg t.cs] w fun e w' => e = .returned (.bool (rightT t)) ∧ Below w.heap.size w w' := by
  have hmm := @run_makeMap Tryz.prog
  have HC := fun W (h : Below w.heap.size w W) => Lib.hid (containsr_ou t.B t.outs t.d (fun o => !fitsB o) W ((hm.bel h).outs) (by omega) (fun W' _ o _ => right1_gen o W'))
  have HR := fun W (h : Below w.heap.size w W) => Lib.hid (right_any t.p W (by omega) ((hm.bel h).wins))
  have HS := Lib.hid hm.ins
  have HT : Hid (rightT t = (insB t.ins && (winB4 t.ins.length && (winB4 t.outs.length && (!(t.outs.any fun o => !fitsB o) && rightB t.p))))) := rfl
  generalize rightT t = rt at HT ⊢
  generalize rightB t.p = rp at HR HT
  generalize (t.outs.any fun o => !fitsB o) = ro at HC HT
  have HI : Hid (insB t.ins = (t.ins.all inB && decide ((t.ins.map Inp.pt).Nodup))) := rfl
  generalize insB t.ins = ri at HI HT
  have HX : Hid (Blk ((w.alloc (.cells t.cs 53)).alloc (.map #[] 0)) w.heap.size 53 t.cs) := Lib.hid ((Blk.new _ _ _).alloc _)
  have HM : Hid (StP ((w.alloc (.cells t.cs 53)).alloc (.map #[] 0)) (w.heap.size + 1) []) := Lib.hid (by have := StP.new (w.alloc (.cells t.cs 53)); simpa using this)
  have HB : Hid (Below w.heap.size w ((w.alloc (.cells t.cs 53)).alloc (.map #[] 0))) := Lib.hid (((Below.refl _ _).alloc (Nat.le_refl _) _).alloc (by simp) _)
  have c0 : ((w.alloc (.cells t.cs 53)).alloc (.map #[] 0)).cell? ⟨w.heap.size, 0, none⟩ = some (.slice t.A t.ins.length t.c) := HX.out.cell 0
  obtain ⟨TA, hTA⟩ : ∃ TA, t.A = TA := ⟨_, rfl⟩
  rw [hTA] at c0 HS
  have HTA := Lib.hid hTA
  clear hm hTA
  go_enter Tryz.func23, Tryz.ntmps23
  go_wp2_with fail
  go_loopw [11] (fun i wr => ∃ k : Nat, k ≤ t.ins.length ∧ i = .int .i64 k ∧ Hid ((t.ins.take k).all inB = true) ∧ Hid (((t.ins.take k).map Inp.pt).Nodup) ∧ Hid (Blk wr w.heap.size 53 t.cs) ∧ Hid (StP wr (w.heap.size + 1) ((t.ins.take k).map Inp.pt)) ∧ Hid (Below w.heap.size w wr)) (fun i _ => t.ins.length - (intOf i).toNat)
  case atStart => exact ⟨0, Nat.zero_le _, rfl, Lib.hid rfl, Lib.hid (by simp), HX, HM, HB⟩
  case round =>
    clear HX HM HB c0
    obtain ⟨k, hk, rfl, HA, HN, HX, HM, HB⟩ := hrel
    have hz := HB.out.size
    by_cases hlt : k < t.ins.length
    · have d0 : decide (k < t.ins.length) = true := decide_eq_true hlt
      obtain ⟨ab, off, hAe, hbB, hc⟩ := (HS.out.below HB.out).at_ hlt
      subst hAe
      have HCC := Lib.hid hc
      have HF := fun W => Lib.hid (infits_any t.ins[k] W)
      have hHK : Hid (t.ins[k] ∈ t.ins) := Lib.hid (List.getElem_mem hlt)
      have HAS : Hid ((t.ins.take (k + 1)).all inB = ((t.ins.take k).all inB && inB t.ins[k])) := Lib.hid (by rw [List.take_succ_eq_append_getElem hlt, List.all_append]; simp)
      have HPS : Hid ((t.ins.take (k + 1)).map Inp.pt = (t.ins.take k).map Inp.pt ++ [t.ins[k].pt]) := Lib.hid (by rw [List.take_succ_eq_append_getElem hlt, List.map_append]; rfl)
      have HOK : Hid (inB (t.ins[k]) = true → (t.ins[k]).pt.ok) := Lib.hid (fun h => inB_ok h)
      have HBAD : Hid (inB t.ins[k] = false → ri = false) := Lib.hid (fun h => by
        rw [HI.out]
        have : t.ins.all inB = false := by rw [List.all_eq_false]; exact ⟨_, List.getElem_mem hlt, by rw [h]; simp⟩
        rw [this, Bool.false_and])
      have HTWO : Hid (t.ins[k].pt ∈ (t.ins.take k).map Inp.pt → ri = false) := Lib.hid (fun h => by
        rw [HI.out]
        have : ¬ (t.ins.map Inp.pt).Nodup := fun hn => by
          have h2 : ((t.ins.take (k + 1)).map Inp.pt).Nodup := hn.sublist ((List.take_sublist _ _).map _)
          rw [HPS.out] at h2
          exact (List.nodup_append.1 h2).2.2 _ h _ (by simp) rfl
        rw [decide_eq_false this, Bool.and_false])
      have hlen : ((t.ins.take k).map Inp.pt).length < maxLen := by rw [List.length_map, List.length_take]; simp only [maxLen]; omega
      generalize t.ins[k] = x at HCC HF hHK HAS HPS HOK HBAD HTWO
      generalize (t.ins.take k).map Inp.pt = sn at HN HM HPS HTWO hlen
      clear hc
      go_wp2_with (first
        | (refine wpList_load_in rfl (.tmp 13) rfl ab (off + k * 4) (by rfl) x HCC.out ?_)
        | (refine wpList_store_part rfl 59 (.tmp 5) (.tmp 14) rfl wr.heap.size 0 (cs := zInp.cs) (Blk.new _ _ _) x.cs x.cs (by rfl) (by rfl) (Nat.le_refl 4) infoIn (incs_one x) (inv_over x rfl) ?_; intro W1 hb1 hc1; have hb := bel_st' hc1; have H5 := Lib.hid hb1; replace HX := Lib.hid (HX.out.bel hb); replace HM := Lib.hid (HM.out.bel hb); replace HB := Lib.hid (HB.out.trans (Below.mono hb HB.out.size)); clear hb1 hc1 hb)
        | (refine wpList_load_blk rfl 59 (.tmp 5) rfl wr.heap.size 0 4 H5.out x.cs (by rfl) (inv_ext x) Tryz.underlying59 infoIn (Nat.le_refl 4) ?_))
      generalize wr.heap.size = a5 at H5 ⊢
      refine (HF _).out.mono ?_
      rintro e w2 ⟨rfl, hb⟩
      replace H5 := Lib.hid (H5.out.bel hb)
      replace HX := Lib.hid (HX.out.bel hb)
      replace HM := Lib.hid (HM.out.bel hb)
      replace HB := Lib.hid (HB.out.trans (Below.mono hb HB.out.size))
      clear hb HF
      cases hin : inB x with
      | false =>
        obtain rfl := HBAD.out hin
        obtain rfl : rt = false := by rw [HT.out, Bool.false_and]
        clear hin
        go_wp2_with fail
        go_ret
        exact ⟨rfl, HB.out⟩
      | true =>
        have hok := HOK.out hin
        have hlook := HM.out.look x.pt hok
        by_cases hmem : x.pt ∈ sn
        · rw [(hasP_iff _ _).2 hmem] at hlook
          obtain rfl := HTWO.out hmem
          obtain rfl : rt = false := by rw [HT.out, Bool.false_and]
          clear hin hmem hok
          go_wp2_with (first
            | (refine wpList_load_blkG (by rfl) 57 (.tmp 20) rfl a5 0 2 H5.out x.pt.cs (by rfl) (inv_pt x) Tryz.underlying57 infoPnt (by show 2 ≤ 4; omega) ?_))
          go_ret
          exact ⟨rfl, HB.out⟩
        · rw [hasP_no hmem] at hlook
          obtain ⟨w3, hupd, hst, hch⟩ := HM.out.put x.pt hok hlen
          have HST := Lib.hid hst
          have hmb := HM.out.lt
          have HX3 : Hid (Blk w3 w.heap.size 53 t.cs) := Lib.hid (HX.out.ch hch (by simp))
          have HB3 : Hid (Below w.heap.size w w3) := Lib.hid (HB.out.trans (hch.below HB.out.size (by simp)))
          have HN3 : Hid ((sn ++ [x.pt]).Nodup) := Lib.hid (List.nodup_append.2 ⟨HN.out, by simp, fun a ha b hb he => by simp at hb; subst hb; subst he; exact hmem ha⟩)
          have HA3 : Hid ((t.ins.take (k + 1)).all inB = true) := Lib.hid (by rw [HAS.out, HA.out, hin]; rfl)
          clear hst hch hin hmem hok
          go_wp2_with (first
            | (refine wpList_load_blkG (by rfl) 57 (.tmp 20) rfl a5 0 2 H5.out x.pt.cs (by rfl) (inv_pt x) Tryz.underlying57 infoPnt (by show 2 ≤ 4; omega) ?_)
            | (refine wpList_load_blk rfl 57 (.tmp 25) rfl a5 0 2 H5.out x.pt.cs (by rfl) (inv_pt x) Tryz.underlying57 infoPnt (by show 2 ≤ 4; omega) ?_))
          go_roundw
          case rel => exact ⟨k + 1, by omega, by go_num, HA3, Lib.hid (by rw [HPS.out]; exact HN3.out), HX3, Lib.hid (by rw [HPS.out]; exact HST.out), HB3⟩
          case measure => simp [intOf]; omega
    · have d0 : decide (k < t.ins.length) = false := decide_eq_false hlt
      obtain rfl : k = t.ins.length := by omega
      rw [List.take_length] at HA HN HM
      obtain rfl : ri = true := by rw [HI.out, HA.out, decide_eq_true HN.out]; rfl
      have HT1 : Hid (rt = (winB4 t.ins.length && (winB4 t.outs.length && (!ro && rp)))) := Lib.hid (by rw [HT.out, Bool.true_and])
      have c0 : wr.cell? ⟨w.heap.size, 0, none⟩ = some (.slice TA t.ins.length t.c) := by rw [← HTA.out]; exact HX.out.cell 0
      have c1 : wr.cell? ⟨w.heap.size, 1, none⟩ = some (.slice t.B t.outs.length t.d) := HX.out.cell 1
      have HW1 := fun W => Lib.hid (within_gen t.ins.length W)
      have HW2 := fun W => Lib.hid (within_gen t.outs.length W)
      generalize winB4 t.ins.length = b1 at HW1 HT1
      generalize winB4 t.outs.length = b2 at HW2 HT1
      clear HA HN HM HT HI
      go_wp2_with fail
      refine (HW1 _).out.mono ?_
      rintro e w2 ⟨rfl, rfl⟩
      cases b1 with
      | false =>
        obtain rfl : rt = false := HT1.out
        go_wp2_with fail
        go_ret
        exact ⟨rfl, HB.out⟩
      | true =>
        go_wp2_with fail
        refine (HW2 _).out.mono ?_
        rintro e w3 ⟨rfl, rfl⟩
        cases b2 with
        | false =>
          obtain rfl : rt = false := HT1.out
          go_wp2_with fail
          go_ret
          exact ⟨rfl, HB.out⟩
        | true =>
          go_wp2_with fail
          refine (HC _ HB.out).out.mono ?_
          rintro e w4 ⟨rfl, hb⟩
          replace HX := Lib.hid (HX.out.bel hb)
          replace HB := Lib.hid (HB.out.trans (Below.mono hb HB.out.size))
          clear hb c0 c1
          cases ro with
          | true =>
            obtain rfl : rt = false := HT1.out
            go_wp2_with fail
            go_ret
            exact ⟨rfl, HB.out⟩
          | false =>
            obtain rfl : rt = rp := HT1.out
            go_wp2_with (first
              | (refine wpList_load_blkG (by rfl) 51 (.tmp 46) rfl w.heap.size 2 4 HX.out t.p.cs (by rfl) (txn_pf t) Tryz.underlying51 infoPf (by show 6 ≤ 6; omega) ?_))
            refine (HR _ HB.out).out.mono ?_
            rintro e w5 ⟨rfl, hb⟩
            replace HB := Lib.hid (HB.out.trans (Below.mono hb HB.out.size))
            clear hb
            go_wp2
            go_ret
            exact ⟨rfl, HB.out⟩
end Go.Proofs.YtjcinncphffgaaaGreat
