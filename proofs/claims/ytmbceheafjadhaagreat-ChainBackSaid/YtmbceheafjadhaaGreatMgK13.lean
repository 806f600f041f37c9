/- A block in lists of its own, whatever happens to the chain and to the list of blocks that were popped; what Back wants. ChainBack: what its walk carries. ChainBack: the walk. -/
import Derived.Outline
import Derived.RangeFuncRecord
import Derived.Deep.AppendLies
import Derived.Deep.RegionHeld3
import Derived.Test.YtmbceheafjadhaaGreatMgG34
import Derived.Test.YtmbceheafjadhaaGreatMgG44
import Derived.Test.YtmbceheafjadhaaGreatMgK1
import Derived.Test.YtmbceheafjadhaaGreatMgK12
import Derived.Test.YtmbceheafjadhaaGreatMgK6
import Derived.Test.YtmbceheafjadhaaGreatMgK7
import Derived.Test.YtmbceheafjadhaaGreatMgN5
import Derived.Test.YtmbceheafjadhaaGreatMgN7
set_option linter.unusedVariables false
set_option linter.unusedSimpArgs false
namespace Go.Proofs.YtmbceheafjadhaaGreat
open Go.RowKit Go.Maps
/-- a block whose lists stay, whatever is written to the chain's block and to a list's -/
def Kept (w : World) (b : Bm) (cb : Nat) (v : Value) : Prop :=
  ∃ n n2, n2 ≤ w.heap.size ∧ (cb < n ∨ n2 ≤ cb) ∧ (∀ g, v.ownBlock = some g → g < n ∨ n2 ≤ g) ∧ ∀ W : World, w.heap.size ≤ W.heap.size → (∀ k, n ≤ k → k < n2 → W.heap[k]? = w.heap[k]?) → b.mem W
section
variable {w w' : World} {b : Bm} {cb : Nat} {v v' : Value}
theorem Kept.mem (h : Kept w b cb v) : b.mem w := by
  obtain ⟨n, n2, h1, h2, h3, h4⟩ := h
  exact h4 w (Nat.le_refl _) (fun _ _ _ => rfl)
theorem Kept.step (h : Kept w b cb v) (hz : w.heap.size ≤ w'.heap.size) (hk : ∀ k, k < w.heap.size → k ≠ cb → v.ownBlock ≠ some k → w'.heap[k]? = w.heap[k]?) (hv : ∀ g, v'.ownBlock = some g → v.ownBlock = some g ∨ w.heap.size ≤ g) : Kept w' b cb v' := by
  obtain ⟨n, n2, h1, h2, h3, h4⟩ := h
  refine ⟨n, n2, Nat.le_trans h1 hz, h2, fun g hg => ?_, fun W hW h5 => h4 W (Nat.le_trans hz hW) (fun k a b => ?_)⟩
  · rcases hv g hg with e | e
    · exact h3 g e
    · exact .inr (Nat.le_trans h1 e)
  · rw [h5 k a b]
    exact hk k (Nat.lt_of_lt_of_le b h1) (by rcases h2 with e | e <;> omega) (fun e => by rcases h3 k e with q | q <;> omega)
theorem Kept.bel (h : Kept w b cb v) (hb : Below w.heap.size w w') : Kept w' b cb v :=
  h.step hb.size (fun k hk _ _ => hb.block k hk) (fun _ e => .inl e)
theorem Kept.cn (h : Kept w b cb v) (hc : Ch [cb] w w') : Kept w' b cb v :=
  h.step hc.size (fun k hk hn _ => hc.block k hk (by simpa using hn)) (fun _ e => .inl e)
theorem Kept.grown (h : Kept w b cb v) (hg : w.grownBy w' v.ownBlock) (hz : w.heap.size ≤ w'.heap.size) {g n c : Nat} (hv : v.ownBlock = some g ∨ g = w.heap.size) : Kept w' b cb (.slice (some ⟨g, 0, none⟩) n c) :=
  h.step hz (fun k hk _ hn => hg.block k hk (fun e => hn e.symm)) (fun g' e => by
    injection e with e
    subst e
    rcases hv with h | h
    · exact .inl h
    · exact .inr (Nat.le_of_eq h.symm))
/-- what was popped just now -/
theorem Kept.of {w0 : World} (h : ∀ W, SameB w0.heap.size w W → b.mem W) (hz : w0.heap.size ≤ w.heap.size) (hc : cb < w0.heap.size) (hv : ∀ g, v.ownBlock = some g → g < w0.heap.size) : Kept w b cb v :=
  ⟨w0.heap.size, w.heap.size, Nat.le_refl _, .inl hc, fun g hg => .inl (hv g hg), fun W hW hk => h W ⟨hW, hk⟩⟩
end
end Go.Proofs.YtmbceheafjadhaaGreat
namespace Go.Proofs.YtmbceheafjadhaaGreat
open Go.RowKit Go.Maps
theorem Tryz.infoBkC : (Tryz.prog.info? 36).map (fun i => (i.zero, i.size, i.bytes)) = some (some (.agg zBm.cs), 3, 48) := by kernel_rfl
theorem bmcl_len (b : Bm) : b.cl.length = 3 := rfl
theorem bmcl_one (b : Bm) : ∀ u ∈ b.cl, u.oneCell' = true := fun u hu => Array.all_eq_true'.1 (bmcs_one b) u (by simpa [Bm.cl] using hu)
theorem wpList_load_bm {ops : Array Oper} {rest : List Oper} {o : Oper} {a : Act} {w : World} {Q : Exit → Act → World → Prop} (hgd : o.guard = none) (x : Operand) (ho : o.op = .load 36 x) (b off : Nat) (hx : a.eval x = .pointer (some ⟨b, off, none⟩)) (y : Bm)
    (hc : ∀ j u, y.cl[j]? = some u → w.cell? ⟨b, off + j, none⟩ = some u) (h : wpList Tryz.prog ops Q rest (a.put o.dst (.agg y.cs)) w) : wpList Tryz.prog ops Q (o :: rest) a w :=
  wpList_load_mid (P := Tryz.prog) hgd 36 x ho b off hx y.cl _ hc Tryz.underlying36 rfl (by rw [infoBk]; rfl) (by rw [bmcl_arr]; exact h)
theorem build_bk (o : Bm) (W : World) : (Instr.buildSlice 48 1 #[(0, .agg o.cs)]).run Tryz.prog W = .ok (.slice (some ⟨W.heap.size, 0, none⟩) 1 1) (W.alloc (.cells o.cs 36)) := by
  kernel_rfl
theorem wpList_build_bk {ops : Array Oper} {rest : List Oper} {o : Oper} {a : Act} {w : World} {Q : Exit → Act → World → Prop} (hg : o.guard = none) (x : Operand) (ho : o.op = .buildSlice 48 1 #[(0, x)]) (y : Bm) (hx : a.eval x = .agg y.cs)
    (h : wpList Tryz.prog ops Q rest (a.put o.dst (.slice (some ⟨w.heap.size, 0, none⟩) 1 1)) (w.alloc (.cells y.cs 36))) : wpList Tryz.prog ops Q (o :: rest) a w :=
  wpList_plain hg fun _ hK => by
    have e : ((#[(0, x)] : Array (Nat × Operand)).map fun (i, x) => (i, a.eval x)) = #[(0, .agg y.cs)] := by simp [hx]
    unfold Oper.wp execOp
    simp only [ho, Sem.run_bind, e, build_bk, Result.andThen_ok]
    exact hK _ _ h
theorem Cn.al.trans {s u v : Cn} (h : s.al u) (k : u.al v) : s.al v := ⟨h.first.trans k.first, h.T.trans k.T, h.len.trans k.len, fun i a c ha hc => by
  have hi : i < s.ls.length := (List.getElem?_eq_some_iff.1 ha).1
  have hb : u.ls[i]? = some (u.ls[i]'(by rw [← h.len]; exact hi)) := List.getElem?_eq_getElem _
  have h1 := h.at_ i a _ ha hb
  have h2 := k.at_ i _ c hb hc
  exact ⟨h1.1.trans h2.1, h1.2.trans h2.2⟩⟩
/-- a chain that lies below block n, but for its head -/
structure KeepC (w : World) (cb : Nat) (m : CnM) (u : Cn) (n : Nat) : Prop where
  lt : cb < n
  le : n ≤ w.heap.size
  go : ∀ W, Below n w W → CnAt W cb m u
section
variable {w w' : World} {cb n : Nat} {m m' : CnM} {u u' : Cn}
theorem KeepC.at (h : KeepC w cb m u n) : CnAt w cb m u := h.go w (Below.refl n w)
theorem KeepC.new (h : CnAt w cb m u) : KeepC w cb m u w.heap.size := ⟨h.hd.lt, Nat.le_refl _, fun _ hb => h.bel hb⟩
theorem KeepC.bel (h : KeepC w cb m u n) (hb : Below n w w') : KeepC w' cb m u n := ⟨h.lt, Nat.le_trans h.le hb.size, fun W hW => h.go W (hb.trans hW)⟩
theorem KeepC.pop (h : KeepC w cb m u n) (hc : Ch [cb] w w') (hk : CnAt w' cb m' u') (hf : u'.first = u.first)
    (hp : ∀ V V', CnAt V cb m u → Ch [cb] V V' → Blk V' cb 158 (cnH u.first m'.A m'.L.length m'.c m'.sb) → CnAt V' cb m' u') : KeepC w' cb m' u' n :=
  ⟨h.lt, Nat.le_trans h.le hc.size, fun W hW => by
    obtain ⟨o, ho⟩ : ∃ o, w.heap[cb]? = some o := ⟨_, h.at.hd⟩
    have hcW : cb < W.heap.size := Nat.lt_of_lt_of_le h.lt (Nat.le_trans h.le (Nat.le_trans hc.size hW.size))
    have hV : Below n w (W.putObj cb o) := ⟨hW.os.trans hc.os, hW.tape.trans hc.tape, hW.output.trans hc.output, by rw [World.putObj_size]; exact Nat.le_trans hc.size hW.size, fun k hk => by
      by_cases e : k = cb
      · subst e
        rw [World.putObj_heap_same hcW, ho]
      · rw [World.putObj_heap_other e, hW.block k hk, hc.block k (Nat.lt_of_lt_of_le hk h.le) (by simpa using e)]⟩
    have hVW : Ch [cb] (W.putObj cb o) W := ⟨rfl, rfl, rfl, by rw [World.putObj_size]; exact Nat.le_refl _, fun k _ hn => (World.putObj_heap_other (by simpa using hn)).symm⟩
    refine hp _ _ (h.go _ hV) hVW ?_
    have h2 := hk.hd
    rw [hf] at h2
    exact (hW.block cb h.lt).trans h2⟩
end
/-- what was popped so far -/
structure BaS (w0 : World) (T0 : List En) (cb sb sm n : Nat) (s : Cn) (A : Option Addr) (c : Nat) (bs : List Bm) (m : CnM) (u : Cn) (w : World) : Prop where
  kc : KeepC w cb m u n
  good : Good T0 u
  low : w0.heap.size ≤ n
  bel : Below w0.heap.size w0 w
  set : SetAt w sb sm s.T
  row : w.ownsRow n 36 3 (.slice A bs.length c) bs.length (bs.flatMap Bm.cl)
  keep : ∀ b ∈ bs, Kept w b cb (.slice A bs.length c)
  tx : ∀ b ∈ bs, ∀ t ∈ b.txs, TxOk t
section
variable {w0 w w' : World} {T0 : List En} {cb sb sm n : Nat} {s u u' : Cn} {A : Option Addr} {c : Nat} {bs : List Bm} {m m' : CnM} {b : Bm}
theorem BaS.go (h : BaS w0 T0 cb sb sm n s A c bs m u w) (hb : Below w.heap.size w w') : BaS w0 T0 cb sb sm n s A c bs m u w' :=
  ⟨h.kc.bel (hb.mono h.kc.le), h.good, h.low, h.bel.trans (hb.mono h.bel.size), h.set.bel hb, own_belT h.row hb, fun b hm => (h.keep b hm).bel hb, h.tx⟩
theorem BaS.pop (h : BaS w0 T0 cb sb sm n s A c bs m u w) (hc : Ch [cb] w w') (hw : w0.heap.size ≤ cb) (hg : Good T0 u') (hk : CnAt w' cb m' u') (hf : u'.first = u.first)
    (hp : ∀ V V', CnAt V cb m u → Ch [cb] V V' → Blk V' cb 158 (cnH u.first m'.A m'.L.length m'.c m'.sb) → CnAt V' cb m' u') : BaS w0 T0 cb sb sm n s A c bs m' u' w' :=
  ⟨h.kc.pop hc hk hf hp, hg, h.low, h.bel.trans (hc.below h.bel.size (by simpa using hw)), h.set.cn h.kc.at.hd hc, own_chT h.row hc h.kc.at.hd.kdT (by decide), fun b hm => (h.keep b hm).cn hc, h.tx⟩
theorem BaS.add {c' gg : Nat} (h : BaS w0 T0 cb sb sm n s A c bs m u w) (hg : w.grownBy w' (Value.slice A bs.length c).ownBlock) (hr : w'.ownsRow n 36 3 (.slice (some ⟨gg, 0, none⟩) (bs.length + 1) c') (bs.length + 1) (bs.flatMap Bm.cl ++ b.cl))
    (hv : (Value.slice A bs.length c).ownBlock = some gg ∨ gg = w.heap.size) (hk : Kept w b cb (.slice A bs.length c)) (ht : ∀ t ∈ b.txs, TxOk t) : BaS w0 T0 cb sb sm n s (some ⟨gg, 0, none⟩) c' (bs ++ [b]) m u w' := by
  refine ⟨h.kc.bel ((Below.refl _ _).grown hg h.kc.le (fun j hj => own_base h.row j hj)), h.good, h.low, h.bel.grown hg h.bel.size (fun j hj => Nat.le_trans h.low (own_base h.row j hj)), h.set.grown h.row hg (by decide), by rw [List.length_append, List.length_singleton, List.flatMap_append, List.flatMap_singleton]; exact hr, fun x hx => ?_, fun x hx => ?_⟩
  · rcases List.mem_append.1 hx with hx | hx
    · exact (h.keep x hx).grown hg hg.size hv
    · rw [List.mem_singleton.1 hx]; exact hk.grown hg hg.size hv
  · rcases List.mem_append.1 hx with hx | hx
    · exact h.tx x hx
    · rw [List.mem_singleton.1 hx]; exact ht
end
/-- pushing again what was popped -/
structure BbS (w0 : World) (T0 : List En) (cb sb sm n : Nat) (s : Cn) (A : Option Addr) (c : Nat) (bs : List Bm) (m : CnM) (u : Cn) (w : World) : Prop where
  ch0 : MkC w0 T0 cb m u w
  set : SetAt w sb sm s.T
  row : w.ownsRow n 36 3 (.slice A bs.length c) bs.length (bs.flatMap Bm.cl)
  keep : ∀ b ∈ bs, Kept w b cb (.slice A bs.length c)
  tx : ∀ b ∈ bs, ∀ t ∈ b.txs, TxOk t
section
variable {w0 w w' : World} {T0 : List En} {cb sb sm n : Nat} {s u u' : Cn} {A : Option Addr} {c : Nat} {bs : List Bm} {m m' : CnM} {b : Bm}
theorem BaS.two (h : BaS w0 T0 cb sb sm n s A c bs m u w) : BbS w0 T0 cb sb sm n s A c bs m u w := ⟨⟨h.kc.at, h.good, h.bel⟩, h.set, h.row, h.keep, h.tx⟩
theorem BbS.to (h : BbS w0 T0 cb sb sm n s A c bs m u w) (hc : Ch [cb] w w') (hw : w0.heap.size ≤ cb) (hg : Good T0 u') (hk : CnAt w' cb m' u') : BbS w0 T0 cb sb sm n s A c bs m' u' w' :=
  ⟨h.ch0.to hc hw hg hk, h.set.cn h.ch0.cn.hd hc, own_chT h.row hc h.ch0.cn.hd.kdT (by decide), fun b hm => (h.keep b hm).cn hc, h.tx⟩
theorem BbS.at_ (h : BbS w0 T0 cb sb sm n s A c bs m u w) {i : Nat} (hi : i < bs.length) : ∃ ab off, A = some ⟨ab, off, none⟩ ∧ ab < w.heap.size ∧ ∀ j u, (bs[i]).cl[j]? = some u → w.cell? ⟨ab, off + i * 3 + j, none⟩ = some u := (Sl.of_own bmcl_len h.row).at_ hi
end
theorem sl_belB {α : Type} {w w' : World} {k : Nat} {enc : α → List Value} {A : Option Addr} {l : List α} (h : Sl w w.heap.size k enc A l) (hb : Below w.heap.size w w') : Sl w' w'.heap.size k enc A l := (h.below hb).more hb.size
/-- transactions of a block that is alike -/
theorem ok_al {b : Bk} {b' : Bm} (h : b.al b'.bk) (hx : ∀ t ∈ b.txs, TxOk t) : ∀ t ∈ b'.txs, TxOk t := fun t ht => by
  have hl := h.txs
  obtain ⟨i, hi⟩ := List.getElem?_of_mem ht
  have hlen := hl.len
  have hi' : i < b'.txs.length := (List.getElem?_eq_some_iff.1 hi).1
  have h2 : b.txs[i]? = some (b.txs[i]'(by have : b.txs.length = b'.txs.length := hlen; omega)) := List.getElem?_eq_getElem _
  exact al_ok (hl.get i _ _ h2 hi) (hx _ (List.mem_of_getElem? h2))
end Go.Proofs.YtmbceheafjadhaaGreat
namespace Go.Proofs.YtmbceheafjadhaaGreat
open Go.RowKit Go.Maps
theorem mod9 (n r : Nat) (hn : n < 256) (hr : r = n % 9) : Int.tmod (n : Int) 9 = (r : Int) ∧ (n : Int) % 9 = (r : Int) ∧ IntKind.i64.wrap (n : Int) = (n : Int) ∧ wrap64 (n : Int) = (n : Int) ∧ IntKind.i64.wrap (r : Int) = (r : Int) ∧ wrap64 (r : Int) = (r : Int) :=
  ⟨by rw [Int.tmod_eq_emod_of_nonneg (by omega)]; omega, by omega, IntWalk.i64_in _ (by omega), IntWalk.wrap64_in _ ⟨by omega, by omega⟩, IntWalk.i64_in _ (by omega), IntWalk.wrap64_in _ ⟨by omega, by omega⟩⟩
set_option maxRecDepth 100000 in
set_option maxHeartbeats 8000000 in
theorem cback_any (A0 : Option Addr) (l : List Ou) (c0 : Nat) (A1 : Option Addr) (os : List Om) (c1 : Nat) (n : Nat) (w0 : World) (hsl : Sl w0 w0.heap.size 9 Ou.cl A0 l) (hl : l.length ≤ maxLen) (ham : ∀ o ∈ l, o.am < 18446744073709551616 ∧ o.unit < 18446744073709551616)
    (hos : Sl w0 w0.heap.size 5 Om.cl A1 os) (hoc : ∀ o ∈ os, OmCame w0 o) (hn : n < 256) :
    Calls Tryz.prog 3 #[.slice A0 l.length c0, .slice A1 os.length c1, .int .u8 (n : Int)] w0 fun e w' => e = .returned (.bool true) ∧ Below w0.heap.size w0 w' := by
  have HOU := outs11_any A0 l c0 w0 hsl hl
  have hA8 := cut_am ham 8
  have hL8 := cut_len l 8
  have HOS := Lib.hid hos
  have HOC := Lib.hid hoc
  obtain ⟨o0, hoi, ho0, ho1, ho2⟩ := info_parts Tryz.infoBkC
  have HOZ := Lib.hid ho0
  have HO1 := Lib.hid ho1
  have HO2 := Lib.hid ho2
  have HOI := Lib.hid hoi
  obtain ⟨r, hr⟩ : ∃ r, r = n % 9 := ⟨_, rfl⟩
  have hr9 : r < 9 := by omega
  obtain ⟨r1, r2, r3, r4, r5, r6⟩ := mod9 n r hn hr
  have HR := Lib.hid (And.intro r1 (And.intro r2 (And.intro r3 (And.intro r4 (And.intro r5 r6)))))
  clear hsl hl ham hos hoc ho0 ho1 ho2 hoi hr hn r1 r2 r3 r4 r5 r6
  go_enter Tryz.func3, Tryz.ntmps3
  go_wp2_with fail
  refine HOU.mono ?_
  rintro e V1 ⟨A, c, B, d, mm, rfl, hm, hO, _, HB⟩
  generalize (l.take 8).map cutO = L at hm hO hA8 hL8
  have HSO : Hid (Sl V1 V1.heap.size 9 Ou.cl A L) := Lib.hid (Sl.of_own ouLen9 (by rw [← hm]; exact hO))
  have HL8 := Lib.hid hL8
  replace HB := Lib.hid HB
  obtain rfl : mm = L.length := hm
  clear hO hL8 HOU
  cases hnw : newU L with
  | false =>
    go_wp2_with fail
    refine (cnew_no A L c V1 HSO.out (by have := HL8.out; omega) hnw).mono ?_
    rintro e W4 ⟨rfl, hb⟩
    replace HB := Lib.hid (HB.out.trans (hb.mono HB.out.size))
    clear hb
    go_wp2_with fail
    refine (fixed12_any _).mono ?_
    rintro e W5 ⟨rfl, hb⟩
    go_wp2_with fail
    go_ret
    exact ⟨rfl, HB.out.trans (hb.mono HB.out.size)⟩
  | true =>
    obtain ⟨hts, hT8⟩ := good_ts hnw HL8.out hA8
    have HTS := Lib.hid hts
    have HG0 := Lib.hid (Good.new (T0 := utN (firstB L) L) (firstB L) (firstB_size L))
    go_wp2_with fail
    refine (cnew_ok A L c V1 HSO.out hnw (fun o ho => (hA8 o ho).1)).mono ?_
    rintro e V2 ⟨cb, m0, rfl, hcb, hat, hb⟩
    have HCW : Hid (w0.heap.size ≤ cb) := Lib.hid (Nat.le_trans HB.out.size hcb)
    have HF : Hid (MkC w0 (utN (firstB L) L) cb m0 ⟨firstB L, [], utN (firstB L) L⟩ V2) := Lib.hid ⟨hat, HG0.out, HB.out.trans (hb.mono HB.out.size)⟩
    generalize utN (firstB L) L = T0 at HTS HF hT8
    generalize firstB L = f0 at HF
    have HT8 := Lib.hid hT8
    clear hat hb hcb hts HB HG0 hnw hA8 HSO HL8 hT8
    go_wp2_with fail
    go_loopw [11] (fun i wr => ∃ (k : Nat) (s : Cn) (m : CnM), k ≤ os.length ∧ k ≤ 8 ∧ i = .int .i64 k ∧ s.ls.length ≤ k ∧ Hid (MkC w0 T0 cb m s wr)) (fun i _ => 8 - (intOf i).toNat)
    case atStart => exact ⟨0, _, _, Nat.zero_le _, Nat.zero_le _, rfl, Nat.le_refl _, HF⟩
    case round =>
      clear HF
      obtain ⟨k, s, m, hk, hk8, rfl, hsl, HF⟩ := hrel
      obtain ⟨hsts, hsT⟩ := HF.out.good.ts HTS.out HT8.out (by omega)
      have HST := Lib.hid hsts
      clear hsts
      go_upto_region 6 with fail
      go_cut [61] from 54 to 61 (fun v61 wx => ∃ z : Bool, v61 = .bool z ∧ (z = true → k < os.length ∧ k < 8) ∧ Hid (MkC w0 T0 cb m s wx))
      case first =>
        by_cases hkl : k < os.length
        · have d3 : decide (k < os.length) = true := decide_eq_true hkl
          by_cases h8 : k < 8
          · have d2 : decide ((k : Int) < 8) = true := decide_eq_true (by omega)
            go_wp2_with fail
            go_meet
            exact ⟨true, rfl, fun _ => ⟨hkl, h8⟩, HF⟩
          · have d2 : decide ((k : Int) < 8) = false := decide_eq_false (by omega)
            go_wp2_with fail
            go_meet
            exact ⟨false, rfl, (fun h => by cases h), HF⟩
        · have d3 : decide (k < os.length) = false := decide_eq_false hkl
          go_wp2_with fail
          go_meet
          exact ⟨false, rfl, (fun h => by cases h), HF⟩
      case rest =>
        clear HF
        obtain ⟨z, rfl, hz, HF⟩ := hcut
        cases z with
        | false =>
          clear hz
          go_wp2_with fail
          refine (ctip_any HF.out.cn HF.out.good.okk (by omega)).mono ?_
          rintro e W1 ⟨rfl, hb⟩
          replace HF := Lib.hid (HF.out.go hb)
          clear hb
          go_wp2_with fail
          refine (cset_any HF.out.cn).mono ?_
          rintro e W2 ⟨sb, sm, rfl, _, _, hset, hb⟩
          obtain ⟨r1, r2, r3, r4, r5, r6⟩ := HR.out
          have hb2 : Below W2.heap.size W2 (W2.alloc (.cells #[] 36)) := (Below.refl _ _).alloc (Nat.le_refl _) _
          have hf := HF.out.go hb
          have HBA : Hid (BaS w0 T0 cb sb sm W2.heap.size s (some ⟨W2.heap.size, 0, none⟩) 0 [] m s (W2.alloc (.cells #[] 36))) := Lib.hid ⟨(KeepC.new hf.cn).bel hb2, hf.good, hf.bel.size, (hf.go hb2).bel, hset.bel hb2, own_empty (Blk.new _ _ _) (Nat.le_refl _), (fun b h => by cases h), (fun b h => by cases h)⟩
          have HRW : Hid (Rew T0 s s ([].map Bm.bk)) := Lib.hid .nil
          have hs8 : s.ls.length ≤ 8 := by omega
          have HTP : Hid (∀ p : Cn, p.al s → tipC p = tipC s) := Lib.hid (fun p h => tip_al h)
          generalize tipC s = tp at HTP ⊢
          clear hb2 hf hb hset HF hsl hk hk8
          go_wp2_with fail
          generalize W2.alloc (.cells #[] 36) = W3 at HBA ⊢
          generalize W2.heap.size = N at HBA ⊢
          clear r1 r2 r3 r4 r5 r6
          go_loopw [20, 21] (fun v20 v21 wr => ∃ (i : Nat) (A : Option Addr) (c : Nat) (bs : List Bm) (m : CnM) (u : Cn), bs.length = i ∧ v20 = .slice A i c ∧ v21 = .int .i64 i ∧ i ≤ r ∧ u.ls.length ≤ 8 ∧ Hid (Rew T0 s u (bs.map Bm.bk)) ∧ Hid (BaS w0 T0 cb sb sm N s A c bs m u wr)) (fun _ v21 _ => r - (intOf v21).toNat)
          case atStart => exact ⟨0, _, _, [], m, s, rfl, rfl, rfl, Nat.zero_le _, hs8, HRW, HBA⟩
          case round =>
            clear HBA HRW
            obtain ⟨i, A, c, bs, m, u, hbi, rfl, rfl, hir, hu8, HRW, HBA⟩ := hrel
            go_upto_region 22 with fail
            go_cut [142] from 135 to 142 (fun v142 wx => ∃ z : Bool, v142 = .bool z ∧ (z = true → i < r ∧ 0 < u.ls.length) ∧ Hid (BaS w0 T0 cb sb sm N s A c bs m u wx))
            case first =>
              by_cases hlr : i < r
              · have d1 : decide ((i : Int) < (r : Int)) = true := decide_eq_true (by omega)
                have d1' : decide (i < r) = true := decide_eq_true hlr
                go_wp2_with fail
                refine (cheight_any HBA.out.kc.at).mono ?_
                rintro e W4 ⟨rfl, hq⟩
                rw [hq]
                clear hq W4
                by_cases hul : 0 < u.ls.length
                · have d2 : decide ((0 : Int) < (u.ls.length : Int)) = true := decide_eq_true (by omega)
                  have d2' : decide (0 < u.ls.length) = true := decide_eq_true hul
                  go_wp2_with fail
                  go_meet
                  exact ⟨true, rfl, fun _ => ⟨hlr, hul⟩, HBA⟩
                · have d2 : decide ((0 : Int) < (u.ls.length : Int)) = false := decide_eq_false (by omega)
                  have d2' : decide (0 < u.ls.length) = false := decide_eq_false hul
                  go_wp2_with fail
                  go_meet
                  exact ⟨false, rfl, (fun h => by cases h), HBA⟩
              · have d1 : decide ((i : Int) < (r : Int)) = false := decide_eq_false (by omega)
                have d1' : decide (i < r) = false := decide_eq_false hlr
                go_wp2_with fail
                go_meet
                exact ⟨false, rfl, (fun h => by cases h), HBA⟩
            case rest =>
              clear HBA
              obtain ⟨z, rfl, hz, HBA⟩ := hcut
              cases z with
              | true =>
                obtain ⟨hlr, hul⟩ := hz rfl
                obtain ⟨u', b, hgu, hpu, htx, hue⟩ := HBA.out.good.last hul
                subst hue
                have hul2 : u'.ls.length + 1 ≤ 8 := by rw [← push_len u' b]; exact hu8
                clear hz hul hu8
                go_wp2_with fail
                refine (cpop_x (ls := u'.ls) (k := b) (T := u'.T) HBA.out.kc.at rfl HBA.out.good.okk (by rw [push_len]; omega)).mono ?_
                rintro e W4 ⟨b', m', rfl, hal, hkm, hcn, hch, hpv⟩
                have hkp : Kept W4 b' cb (.slice A bs.length c) := Kept.of hkm hch.size HBA.out.kc.at.hd.lt (fun g hg => (HBA.out.row.lt g hg).2)
                have hba4 : BaS w0 T0 cb sb sm N s A c bs m' u' W4 := HBA.out.pop hch HCW.out hgu hcn rfl hpv
                have HTX := Lib.hid (ok_al hal htx)
                have HRW2 : Hid (Rew T0 s u' ((bs ++ [b']).map Bm.bk)) := Lib.hid (by rw [List.map_append]; exact .snoc u' b b'.bk _ HRW.out hgu hpu hal.symm)
                have HKP := Lib.hid hkp
                have HBA4 := Lib.hid hba4
                clear hal hkm hcn hch hpv hkp hba4 htx hgu hpu HRW HBA
                go_upto_region 27 with (refine wpList_store_part rfl 36 (.tmp 22) (.tmp 148) rfl W4.heap.size 0 (cs := zBm.cs) (Blk.new _ _ _) b'.cs b'.cs (by rfl) (by rfl) (Nat.le_refl 3) infoBk (bmcs_one _) (bm_over _ rfl) ?_; intro W5 hb1 hc1; have hb := bel_st' hc1; have H22 := Lib.hid hb1; have HBA5 := Lib.hid (HBA4.out.go hb); have HKP5 := Lib.hid (HKP.out.bel hb); clear hb1 hc1 hb)
                try go_frame
                generalize W4.heap.size = g22 at H22 ⊢
                have hba : Below W5.heap.size W5 (W5.alloc (.cells b'.cs 36)) := (Below.refl _ _).alloc (Nat.le_refl _) _
                have HB6 := Lib.hid (HBA5.out.go hba)
                have HK6 := Lib.hid (HKP5.out.bel hba)
                have HNB : Hid (Blk (W5.alloc (.cells b'.cs 36)) W5.heap.size 36 b'.cs) := Blk.new _ _ _
                have HNW := Lib.hid (World.news_of_block HNB.out)
                clear hba HBA4 HKP HBA5 HKP5
                subst hbi
                go_upto_region 23 with (first
                  | (refine wpList_load_blk rfl 36 (.tmp 22) rfl g22 0 3 H22.out b'.cs (by rfl) (bm_ext _) Tryz.underlying36 infoBk (Nat.le_refl 3) ?_)
                  | (refine wpList_build_bk rfl (.tmp 153) rfl b' (by rfl) ?_)
                  | (at_builtin; refine wpList_append_lies _ rfl (.tmp 152) (.tmp 154) _ rfl N 36 o0 _ 3 48 Tryz.underlying48 HOI.out HOZ.out HO1.out HO2.out rfl (by omega) (.slice A bs.length c) bs.length (bs.flatMap Bm.cl) rfl HB6.out.row ⟨W5.heap.size, 0, none⟩ 1 1 b'.cl rfl rfl HNW.out (bmcl_one b') (by omega) (by simp only [maxLen]; omega) (by omega) HB6.out.kc.le _ rfl ?_; intro gg cap W6 hown hgrow hat hlt5; have HBA7 := Lib.hid (HB6.out.add hgrow hown hat HK6.out HTX.out); clear hown hgrow hat hlt5 HB6 HK6 HNW HNB))
                have hln : (bs ++ [b']).length = bs.length + 1 := by simp
                go_wp2_with fail
                go_roundw
                case rel => exact ⟨bs.length + 1, _, _, bs ++ [b'], m', u', hln, rfl, by go_num, by omega, by omega, HRW2, HBA7⟩
                case measure => simp [intOf]; omega
              | false =>
                have HBB := Lib.hid HBA.out.two
                have HAL : Hid (u.al u) := Lib.hid (Cn.al.refl u)
                have ew : wrap64 ((i : Int) - 1) = (i : Int) - 1 := IntWalk.wrap64_in _ ⟨by omega, by omega⟩
                have ew' : IntKind.i64.wrap ((i : Int) - 1) = (i : Int) - 1 := IntWalk.i64_in _ (by omega)
                clear hz HBA
                go_wp2_with fail
                clear ew ew'
                go_loopw [24] (fun v24 wr => ∃ (j : Nat) (m : CnM) (p v : Cn), j ≤ bs.length ∧ v24 = .int .i64 ((j : Int) - 1) ∧ p.ls.length + j ≤ 16 ∧ Hid (Rew T0 s v ((bs.map Bm.bk).take j)) ∧ Hid (p.al v) ∧ Hid (BbS w0 T0 cb sb sm N s A c bs m p wr)) (fun v24 _ => ((intOf v24) + 1).toNat)
                case atStart => exact ⟨i, m, u, u, by omega, rfl, by omega, Lib.hid (by rw [List.take_of_length_le (by simp; omega)]; exact HRW.out), HAL, HBB⟩
                case round =>
                  clear HBB HAL HRW hu8
                  obtain ⟨j, m, p, v, hj, rfl, hpl, HRW, HAL, HBB⟩ := hrel
                  obtain ⟨hsts, hsT2⟩ := HBB.out.ch0.good.ts HTS.out HT8.out (by omega)
                  have HST2 := Lib.hid hsts
                  clear hsts
                  by_cases hj0 : 0 < j
                  · obtain ⟨q, rfl⟩ : ∃ q, j = q + 1 := ⟨j - 1, by omega⟩
                    have hqb : q < bs.length := by omega
                    have ei : ((q + 1 : Nat) : Int) - 1 = (q : Int) := by omega
                    rw [ei]
                    obtain ⟨hp0, v', hrw', hal'⟩ := Rew.step (i := q) (by simpa using hqb) HRW.out HAL.out
                    rw [List.getElem_map] at hp0 hal'
                    obtain ⟨ab, off, hA, hab, hc⟩ := HBB.out.at_ hqb
                    subst hA
                    have HMK := Lib.hid (HBB.out.keep _ (List.getElem_mem hqb)).mem
                    have HTX := Lib.hid (HBB.out.tx _ (List.getElem_mem hqb))
                    have HRW2 := Lib.hid hrw'
                    generalize bs[q] = b at hp0 hal' hc HMK HTX
                    have HC := Lib.hid hc
                    have HP0 := Lib.hid hp0
                    have HAL1 := Lib.hid hal'
                    have hb8 : b.txs.length ≤ 8 := (right_k (push_zero hp0).1).len
                    have d0 : decide ((0 : Int) ≤ (q : Int)) = true := decide_eq_true (by omega)
                    have d0' : decide ((q : Int) ≥ 0) = true := d0
                    have n0 : (0 : Int) ≤ (q : Int) := by omega
                    have n1 : (q : Int) < (i : Int) := by omega
                    have n1' : q < i := by omega
                    have ew : wrap64 ((q : Int) - 1) = (q : Int) - 1 := IntWalk.wrap64_in _ ⟨by omega, by omega⟩
                    clear hc hp0 hal' hrw' HRW ei
                    go_wp2_with (refine wpList_load_bm rfl (.tmp 166) rfl ab (off + q * 3) (by rfl) b HC.out ?_)
                    refine (cpush_any b HBB.out.ch0.cn HBB.out.ch0.good.okk HST2.out (by omega) (by omega) HMK.out (by omega) HTX.out).mono ?_
                    rintro e W4 ⟨rfl, hpr⟩
                    obtain ⟨m2, kb, hal2, hcn, hch⟩ := hpr.ok HP0.out
                    rw [HP0.out]
                    have HBB2 := Lib.hid (HBB.out.to hch HCW.out (good_push HBB.out.ch0.good HP0.out hal2 HTX.out) hcn)
                    have HAL2 : Hid ((pushS p kb).al v') := Lib.hid ((push_al (Cn.al.refl p) hal2.symm).2.trans HAL1.out)
                    have hpl2 : (pushS p kb).ls.length + q ≤ 16 := by rw [push_len]; omega
                    clear hpr hal2 hcn hch HBB HAL HST2 HP0 HMK HTX HC HAL1
                    go_wp2_with fail
                    go_roundw
                    case rel => exact ⟨q, m2, pushS p kb, v', by omega, by first | rfl | go_num, hpl2, HRW2, HAL2, HBB2⟩
                    case measure => simp [intOf] <;> omega
                  · obtain rfl : j = 0 := by omega
                    obtain rfl : v = s := Rew.done (by have := HRW.out; simpa using this)
                    have e0 : ((0 : Nat) : Int) - 1 = -1 := rfl
                    try rw [e0]
                    clear e0 hj0 hj HRW
                    have HTV : Hid (p.T = v.T) := Lib.hid HAL.out.T
                    have hvT : v.T.length ≤ 800 := by omega
                    have hv0 : 0 < v.T.length := HST.out.1.pos
                    go_wp2_with fail
                    refine (cset_any HBB.out.ch0.cn).mono ?_
                    rintro e W4 ⟨sb2, sm2, rfl, _, _, hset2, hb⟩
                    rw [HTV.out] at hset2
                    have HS1 := Lib.hid (HBB.out.set.bel hb)
                    have HS2 := Lib.hid hset2
                    have HF := Lib.hid (HBB.out.ch0.go hb)
                    clear hb hset2 HBB HTV
                    go_wp2_with fail
                    refine (all_n v.T.length sb sm v.T W4 HS1.out rfl (by omega) hv0).mono ?_
                    rintro e W5 ⟨A1, c1, rfl, hsl1, hb⟩
                    have HSL1 := Lib.hid hsl1
                    replace HS2 := Lib.hid (HS2.out.bel hb)
                    replace HF := Lib.hid (HF.out.go hb)
                    clear hb hsl1 HS1
                    go_wp2_with fail
                    refine (all_n v.T.length sb2 sm2 v.T W5 HS2.out rfl (by omega) hv0).mono ?_
                    rintro e W6 ⟨A2, c2, rfl, hsl2, hb⟩
                    have HSL2 := Lib.hid hsl2
                    replace HSL1 := Lib.hid (sl_belB HSL1.out hb)
                    replace HF := Lib.hid (HF.out.go hb)
                    clear hb hsl2 HS2
                    have e1 : ((v.T.length : Int) != (v.T.length : Int)) = false := by simp
                    have e2 : (v.T.length != v.T.length) = false := by simp
                    go_wp2_with fail
                    clear e1 e2
                    go_loopw [28] (fun v28 wr => ∃ k : Nat, k ≤ v.T.length ∧ v28 = .int .i64 k ∧ Hid (MkC w0 T0 cb m p wr) ∧ Hid (Sl wr wr.heap.size 11 En.cl A1 v.T) ∧ Hid (Sl wr wr.heap.size 11 En.cl A2 v.T)) (fun v28 _ => v.T.length - (intOf v28).toNat)
                    case atStart => exact ⟨0, Nat.zero_le _, rfl, HF, HSL1, HSL2⟩
                    case round =>
                      clear HF HSL1 HSL2
                      obtain ⟨k, hk, rfl, HF, HSL1, HSL2⟩ := hrel
                      by_cases hlt : k < v.T.length
                      · obtain ⟨ab1, of1, hA1, hab1, hc1⟩ := HSL1.out.at_ hlt
                        obtain ⟨ab2, of2, hA2, hab2, hc2⟩ := HSL2.out.at_ hlt
                        subst hA1 hA2
                        generalize v.T[k] = x at hc1 hc2
                        have HC1 := Lib.hid hc1
                        have HC2 := Lib.hid hc2
                        have d1 : decide ((k : Int) < (v.T.length : Int)) = true := decide_eq_true (by omega)
                        have d2 : decide (k < v.T.length) = true := decide_eq_true hlt
                        have n0 : (0 : Int) ≤ (k : Int) := by omega
                        have n1 : (k : Int) < (v.T.length : Int) := by omega
                        clear hc1 hc2
                        go_upto_region 42 with fail
                        refine wp_region_quiet_below (by kernel_rfl) (by kernel_rfl) ?_
                        repeat (first | go_big_quiet_skip | (go_big_quiet_want; first | ((first
                                                  | (refine quiet_load_row 59 (.tmp 191) rfl ab1 (of1 + k * 11) x.cl HC1.out x.cs (by rfl) (Array.toArray_toList ..) Tryz.underlying59 infoEnt ?_; go_simp)
                                                  | (refine quiet_load_row 59 (.tmp 195) rfl ab2 (of2 + k * 11) x.cl HC2.out x.cs (by rfl) (Array.toArray_toList ..) Tryz.underlying59 infoEnt ?_; go_simp)
                                                  | (refine quiet_eqop .neq 59 (.tmp 192) (.tmp 196) rfl x.cs x.cs (by rfl) (by rfl) false (fun W => eqGuardN W .neq _ _ _ _ _ (by kernel_rfl)) (fun W => enNeq_self W x) ?_; go_simp)); go_big_quiet_on) | (go_big_quiet_op; first | go_big_quiet_on | go_big_quiet_call (fail))))
                        refine wpQuiet_nil ?_
                        intro U hp
                        have hb := bel_regrown hp
                        clear hp
                        replace HF := Lib.hid (HF.out.go hb)
                        replace HSL1 := Lib.hid (sl_belB HSL1.out hb)
                        replace HSL2 := Lib.hid (sl_belB HSL2.out hb)
                        clear hb HC1 HC2 hab1 hab2
                        go_wp2_with fail
                        go_roundw
                        case rel => exact ⟨k + 1, by omega, by go_num, HF, HSL1, HSL2⟩
                        case measure => simp [intOf]; omega
                      · have d1 : decide ((k : Int) < (v.T.length : Int)) = false := decide_eq_false (by omega)
                        have d2 : decide (k < v.T.length) = false := decide_eq_false hlt
                        have htq : (tp.toList == tp.toList) = true := by simp
                        go_wp2_with fail
                        refine (ctip_any HF.out.cn HF.out.good.okk (by omega)).mono ?_
                        rintro e W7 ⟨rfl, hb⟩
                        rw [HTP.out p HAL.out]
                        replace HF := Lib.hid (HF.out.go hb)
                        clear hb
                        go_wp2_with fail
                        refine (fixed12_any _).mono ?_
                        rintro e W8 ⟨rfl, hb⟩
                        go_wp2_with fail
                        go_ret
                        exact ⟨rfl, HF.out.bel.trans (hb.mono HF.out.bel.size)⟩
        | true =>
          obtain ⟨hlt, h6⟩ := hz rfl
          clear hz
          obtain ⟨ab, off, hA, hab, hc⟩ := HOS.out.at_ hlt
          have hcl := fun j u hu => (HF.out.bel.cell (p := ⟨ab, off + k * 5 + j, none⟩) hab).trans (hc j u hu)
          have hcW := Lib.hid (fun (W : World) (hW : Below w0.heap.size w0 W) (j : Nat) (u : Value) (hu : (os[k]).cl[j]? = some u) => (hW.cell (p := ⟨ab, off + k * 5 + j, none⟩) hab).trans (hc j u hu))
          have hcW0 := Lib.hid (HOC.out _ (List.getElem_mem hlt))
          generalize os[k] = o at hcl hcW hcW0
          have d1 : decide ((k : Int) < (os.length : Int)) = true := decide_eq_true (by omega)
          have d2 : decide ((k : Int) < 8) = true := decide_eq_true (by omega)
          have d3 : decide (k < os.length) = true := decide_eq_true hlt
          have n1 : (k : Int) < os.length := by omega
          subst hA
          clear hc hcl
          go_wp2_with fail
          refine (ctip_any HF.out.cn HF.out.good.okk (by omega)).mono ?_
          rintro e W2 ⟨rfl, hb⟩
          replace HF := Lib.hid (HF.out.go hb)
          clear hb
          go_wp2_with fail
          refine (cheight_any HF.out.cn).mono ?_
          rintro e W3 ⟨rfl, hq⟩
          rw [hq]; clear hq W3
          have x0 : W2.cell? ⟨ab, off + k * 5, none⟩ = some (.int .i64 o.k) := hcW.out W2 HF.out.bel 0 _ rfl
          by_cases hok : o.k = 1
          · have x0' : W2.cell? ⟨ab, off + k * 5, none⟩ = some (.int .i64 1) := by rw [← hok]; exact x0
            have x4 : W2.cell? ⟨ab, off + k * 5 + 4, none⟩ = some (.slice o.A o.txs.length o.c) := hcW.out W2 HF.out.bel 4 _ rfl
            have HTX := Lib.hid (have hco := hcW0.out.bel HF.out.bel; txs12_any o.A o.txs o.c W2 hco.sl hco.txs hco.len)
            clear x0 hok
            go_wp2_with fail
            refine HTX.out.mono ?_
            rintro e W1 ⟨A, D, c, B, mm, dd, rfl, hD6, hts⟩
            have HD := Lib.hid hts.mem
            have HDK := Lib.hid hts.ok
            replace HF := Lib.hid (HF.out.go hts.bel)
            clear hts x0' x4 HTX
            go_wp2_with fail
            refine (cmake_any A D c HF.out.cn HF.out.good.okk HST.out (by omega) (by omega) HD.out.1 (by omega) HD.out.2 HDK.out).mono ?_
            rintro e W4 ⟨b, rfl, hbh, hbp, hbt, hbm, hbx, hb⟩
            replace HF := Lib.hid (HF.out.go hb)
            have HP0 : Hid (pushC s b.bk = 0) := Lib.hid (make_push HF.out.good (by omega) D b.bk hbh hbp (by rw [show b.bk.h = _ from hbh]; exact hbt))
            have HBX := Lib.hid hbx
            have HBM := Lib.hid hbm
            have hb8 : b.txs.length ≤ 8 := (right_k (push_zero HP0.out).1).len
            clear hbh hbp hbt hbm hbx hb HD HDK
            go_upto_region 12 with (refine wpList_store_part rfl 36 (.tmp 16) (.tmp 85) rfl W4.heap.size 0 (cs := zBm.cs) (Blk.new _ _ _) b.cs b.cs (by rfl) (by rfl) (Nat.le_refl 3) infoBk (bmcs_one _) (bm_over _ rfl) ?_; intro W5 hb1 hc1; have hb := bel_st' hc1; have H16 := Lib.hid hb1; replace HF := Lib.hid (HF.out.go hb); replace HBM := Lib.hid (HBM.out.bel hb); clear hb1 hc1 hb)
            try go_frame
            generalize W4.heap.size = g16 at H16 ⊢
            try simp only [List.cons_append, List.nil_append, List.append]
            refine wp_region_head 2 (l1 := ?hL) ?hE (by kernel_rfl) ?hB ?hT (of_decide_eq_true (by kernel_rfl)) ?hH ?_
            case hE => simp only [List.take_succ_cons, List.take_zero]; rfl
            case hB => as_aux_lemma => kernel_rfl
            case hT => as_aux_lemma => kernel_rfl
            case hH => as_aux_lemma => kernel_rfl
            repeat (first | go_big_quiet_skip | (go_big_quiet_want; first | ((refine quiet_load_blk 36 (.tmp 16) rfl g16 0 3 H16.out b.cs (by rfl) (bm_ext _) Tryz.underlying36 infoBk (Nat.le_refl 3) ?_; go_simp); go_big_quiet_on) | (go_big_quiet_op; first | go_big_quiet_on | go_big_quiet_call (fail))))
            refine wpQuiet_nil ?_
            intro U hp
            have hbU := bel_regrown hp
            replace HF := Lib.hid (HF.out.go hbU)
            replace HBM := Lib.hid (HBM.out.bel hbU)
            replace H16 := Lib.hid (H16.out.bel hbU)
            clear hp hbU
            change wpAny Tryz.prog .any _ _ (15 + 1) (firstN 18 2) _ _
            rw [show firstN 18 2 = #[true, true, false, false, false, false, false, false, false, false, false, false, false, false, false, false, false, false] from by as_aux_lemma => kernel_rfl]
            refine wpAny_ready (rs := [2]) (by kernel_rfl) (by simp) (AllReady.cons rfl (fun K hK => ?_) AllReady.nil)
            go_simp
            refine (cpush_any b HF.out.cn HF.out.good.okk HST.out (by omega) (by omega) HBM.out (by omega) HBX.out).mono ?_
            rintro e W7 ⟨rfl, hpr⟩
            rw [HP0.out]
            obtain ⟨m2, kb, hal, hcn, hch⟩ := hpr.ok HP0.out
            have HF2 := Lib.hid (HF.out.to hch HCW.out (good_push HF.out.good HP0.out hal HBX.out) hcn)
            have hne : g16 ≠ cb := H16.out.ne_ HF.out.cn.hd (by decide)
            have H16b := Lib.hid (H16.out.ch hch (by simpa using hne))
            have HBM2 := Lib.hid (HBM.out.cn HF.out.cn.hd hch)
            have HTP : Hid (tipC (pushS s kb) = idK b.bk) := Lib.hid (by rw [tip_push, idK_al hal])
            have HL2 : Hid ((pushS s kb).ls.length = s.ls.length + 1) := Lib.hid (push_len s kb)
            generalize pushS s kb = s2 at HF2 HTP HL2
            clear hpr hal hcn hch HF HST HP0 H16 HBM hne
            go_simp
            refine hK _ _ ?_
            clear hK K
            rw [show (#[true, true, false, false, false, false, false, false, false, false, false, false, false, false, false, false, false, false] : Array Bool).setIfInBounds 2 true = #[true, true, true, false, false, false, false, false, false, false, false, false, false, false, false, false, false, false] from rfl]
            refine wpAny_lexrest 3 (l2 := ?rL) ?rE (by kernel_rfl) (by kernel_rfl) ?rB ?_
            case rE => simp only [List.drop_succ_cons, List.drop_zero]; rfl
            case rB => as_aux_lemma => kernel_rfl
            have HTIP := fun W (hW : Below W7.heap.size W7 W) => Lib.hid (show Calls Tryz.prog 15 #[.pointer (some ⟨cb, 0, none⟩)] W fun e w' => e = .returned (.string (idK b.bk)) ∧ Below W.heap.size W w' from by rw [← HTP.out]; exact ctip_any (HF2.out.cn.bel hW) HF2.out.good.okk (by have := HL2.out; omega))
            have HHEI := fun W (hW : Below W7.heap.size W7 W) => Lib.hid (show Calls Tryz.prog 16 #[.pointer (some ⟨cb, 0, none⟩)] W fun e w' => e = .returned (.int .i64 ((s.ls.length : Int) + 1)) ∧ Below W.heap.size W w' from (cheight_any (HF2.out.cn.bel hW)).mono (fun e w' h => ⟨by rw [h.1, HL2.out]; rfl, by rw [h.2]; exact Below.refl _ _⟩))
            have HID := fun W (hW : Below W7.heap.size W7 W) => Lib.hid (bid_gen b W (HBM2.out.bel hW) (by omega) HBX.out)
            have hlw : wrap64 ((s.ls.length : Int) + 1) = (s.ls.length : Int) + 1 := IntWalk.wrap64_in _ ⟨by omega, by omega⟩
            have hhq : ((s.ls.length : Int) + 1 != (s.ls.length : Int) + 1) = false := by simp
            generalize idK b.bk = ib at HTIP HID
            have hiq : (ib.toList == ib.toList) = true := by simp
            repeat (first | go_big_quiet_skip | (go_big_quiet_want; first | ((refine quiet_load_blk 36 (.tmp 16) rfl g16 0 3 H16b.out b.cs (by rfl) (bm_ext _) Tryz.underlying36 infoBk (Nat.le_refl 3) ?_; go_simp); go_big_quiet_on) | (go_big_quiet_op; first | go_big_quiet_on | go_big_quiet_call ((first
                          | (go_at_call 15; with_reducible exact Calls.rg fun W hW => (HTIP W hW).out)
                          | (go_at_call 16; with_reducible exact Calls.rg fun W hW => (HHEI W hW).out)
                          | (go_at_call 20; with_reducible exact Calls.rg fun W hW => (HID W hW).out))))))
            refine wpQuiet_nil ?_
            intro Z hp
            have hbZ := bel_regrown hp
            clear hp
            replace HF2 := Lib.hid (HF2.out.go hbZ)
            have hl2 : s2.ls.length ≤ k + 1 := by have := HL2.out; omega
            clear hbZ HTIP HHEI HID
            go_wp2_with fail
            go_roundw
            case rel => exact ⟨k + 1, _, _, by omega, by omega, by go_num, hl2, HF2⟩
            case measure => simp [intOf]; omega
          · have e1 : (o.k == 1) = false := beq_eq_false_iff_ne.2 hok
            have hco := Lib.hid (hcW0.out.blk.bel HF.out.bel)
            have HCB := Lib.hid (fun (j : Nat) (u : Value) (hu : o.b.cl[j]? = some u) => show W2.cell? ⟨ab, off + k * 5 + 1 + j, none⟩ = some u from by
              have := hcW.out W2 HF.out.bel (j + 1) u (by
                match j, hu with
                | 0, hu => exact hu
                | 1, hu => exact hu
                | 2, hu => exact hu
                | j + 3, hu => simp [Bm.cl, Bm.cs] at hu)
              rw [Nat.add_assoc (off + k * 5), Nat.add_comm 1 j]; exact this)
            go_wp2_with (refine wpList_load_bm rfl (.tmp 108) rfl ab (off + k * 5 + 1) (by rfl) o.b HCB.out ?_)
            refine (bcut_any o.b W2 hco.out.sl hco.out.txs hco.out.len).mono ?_
            rintro e W3 ⟨x, rfl, hxm, hx9, hxx, hb⟩
            have HXM := Lib.hid hxm
            have HXX := Lib.hid hxx
            replace HF := Lib.hid (HF.out.go hb)
            clear hxm hxx hb hco HCB x0
            go_wp2_with fail
            refine (cpush_any x HF.out.cn HF.out.good.okk HST.out (by omega) (by omega) HXM.out (by omega) HXX.out).mono ?_
            rintro e W4 ⟨rfl, hpr⟩
            by_cases hp0 : pushC s x.bk = 0
            · obtain ⟨m2, kb, hal, hcn, hch⟩ := hpr.ok hp0
              rw [hp0]
              have HF2 := Lib.hid (HF.out.to hch HCW.out (good_push HF.out.good hp0 hal HXX.out) hcn)
              have hl2 : (pushS s kb).ls.length ≤ k + 1 := by rw [push_len]; omega
              clear hpr hal hcn hch HF hp0
              go_wp2_with fail
              go_roundw
              case rel => exact ⟨k + 1, _, _, by omega, by omega, by go_num, hl2, HF2⟩
              case measure => simp [intOf]; omega
            · have hb := hpr.no hp0
              replace HF := Lib.hid (HF.out.go hb)
              have e2 : (pushC s x.bk != 0) = true := by rw [bne_iff_ne]; exact hp0
              have e3 : (pushC s x.bk == 0) = false := beq_eq_false_iff_ne.2 hp0
              generalize pushC s x.bk = pc at e2 e3 ⊢
              have htq : ((tipC s).toList == (tipC s).toList) = true := by simp
              clear hb hpr hp0
              go_wp2_with fail
              refine (ctip_any HF.out.cn HF.out.good.okk (by omega)).mono ?_
              rintro e W5 ⟨rfl, hb⟩
              replace HF := Lib.hid (HF.out.go hb)
              clear hb
              go_wp2_with fail
              refine (cheight_any HF.out.cn).mono ?_
              rintro e W6 ⟨rfl, hq⟩
              rw [hq]; clear hq W6
              go_wp2_with fail
              go_roundw
              case rel => exact ⟨k + 1, _, _, by omega, by omega, by go_num, by omega, HF⟩
              case measure => simp [intOf]; omega
end Go.Proofs.YtmbceheafjadhaaGreat
