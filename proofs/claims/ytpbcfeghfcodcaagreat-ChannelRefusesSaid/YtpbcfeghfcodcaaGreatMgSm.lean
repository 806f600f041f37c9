/- slices.Equal, note.Same, channel.Same of what is alike. channel.Same of states that are alike. -/
import Derived.Outline
import Derived.Deep.DeepCutAuto
import Derived.Deep.CutBlock
import Derived.Test.YtpbcfeghfcodcaaGreatMgChC
import Derived.Test.YtpbcfeghfcodcaaGreatMgNote
set_option linter.unusedVariables false
set_option linter.unusedSimpArgs false
namespace Go.Proofs.YtpbcfeghfcodcaaGreat
open Go.RowKit Go.Maps
/-- an element of a list is read, in a region that draws its order -/
theorem quiet_load_row {w : World} {o : Oper} {a : Act} {K : Act → Prop} (ty : TypeId) (x : Operand) (ho : o.op = .load ty x) (b off : Nat) (cl : List Value) {fs : Array Field} (hc : ∀ j u, cl[j]? = some u → w.cell? ⟨b, off + j, none⟩ = some u) (part : Array Value)
    (hx : a.eval x = .pointer (some ⟨b, off, none⟩)) (hp : cl.toArray = part) (hu : Tryz.prog.underlying ty = some (.struct fs)) (hi : (Tryz.prog.info? ty).map (·.size) = some cl.length) (hK : K (a.put o.dst (.agg part))) :
    o.quiet Tryz.prog a (fun w' => ∃ p : Regrown, w' = Go.Sort.grow (redrawn w p.d) p.os) K := by
  refine ⟨.agg part, ?_, hK⟩
  rintro _ ⟨p, rfl⟩
  unfold Oper.quietAt execOp
  subst hp
  simp only [ho, hx, Instr.loadAt, Instr.sureAddr, Sem.run_bind, Sem.run_pure, Result.andThen_ok, run_loadVar_mid (P := Tryz.prog) (Go.Sort.grow (redrawn w p.d) p.os) b off ty cl _ (fun j v hv => cell_regrown (hc j v hv) p.d p.os) hu rfl hi]
  unfold Oper.quietUpon
  exact ⟨rfl, rfl⟩
set_option maxRecDepth 100000 in
set_option maxHeartbeats 1000000 in
theorem equal_en (A A' : Option Addr) (l : List En) (c c' : Nat) (w : World) (h : Sl w w.heap.size 11 En.cl A l) (h' : Sl w w.heap.size 11 En.cl A' l) (hl : l.length ≤ 1000000) :
    Calls Tryz.prog 23 #[.slice A l.length c, .slice A' l.length c'] w fun e w' => e = .returned (.bool true) ∧ Below w.heap.size w w' := by
  have HS := Lib.hid h
  have HS' := Lib.hid h'
  clear h h'
  go_enter Tryz.func23, Tryz.ntmps23
  go_wp2_with fail
  go_loopw [13] (fun i wr => ∃ k : Nat, k ≤ l.length ∧ i = .int .i64 k ∧ Hid (Below w.heap.size w wr)) (fun i _ => l.length - (intOf i).toNat)
  case atStart => exact ⟨0, Nat.zero_le _, rfl, Lib.hid (Below.refl _ _)⟩
  case round =>
    obtain ⟨k, hk, rfl, HB⟩ := hrel
    have hz := HB.out.size
    by_cases hlt : k < l.length
    · obtain ⟨ab, off, rfl, _, hc⟩ := (HS.out.below HB.out).at_ hlt
      obtain ⟨ab2, off2, rfl, _, hc2⟩ := (HS'.out.below HB.out).at_ hlt
      generalize l[k] = x at hc hc2
      have HC1 := Lib.hid hc
      have HC2 := Lib.hid hc2
      clear hc hc2
      go_upto_region 6 with fail
      refine wp_region_quiet_below (by kernel_rfl) (by kernel_rfl) ?_
      repeat (first | go_big_quiet_skip | (go_big_quiet_want; first | ((first
              | (refine quiet_load_row 28 (.tmp 18) rfl ab (off + k * 11) x.cl HC1.out #[.string x.tx, .int .i64 x.out, .int .i64 x.o.kind, .int .u64 (x.o.am : Nat), .string x.o.key, .string x.o.gate, .int .i64 x.o.ex, .string x.o.anchor, .int .u64 (x.o.unit : Nat), .int .i64 x.o.tok, .string x.o.of_] (by rfl) (by rfl) Tryz.underlying28 infoEnt ?_; go_simp)
              | (refine quiet_load_row 28 (.tmp 22) rfl ab2 (off2 + k * 11) x.cl HC2.out #[.string x.tx, .int .i64 x.out, .int .i64 x.o.kind, .int .u64 (x.o.am : Nat), .string x.o.key, .string x.o.gate, .int .i64 x.o.ex, .string x.o.anchor, .int .u64 (x.o.unit : Nat), .int .i64 x.o.tok, .string x.o.of_] (by rfl) (by rfl) Tryz.underlying28 infoEnt ?_; go_simp)); go_big_quiet_on) | (go_big_quiet_op; first | go_big_quiet_on | go_big_quiet_call (fail))))
      refine wpQuiet_nil ?_
      intro U hp
      have hb := bel_regrown hp
      clear hp
      have HB1 := Lib.hid (HB.out.trans (hb.mono hz))
      clear hb
      go_wp2_with fail
      go_roundw
      case rel => exact ⟨k + 1, by omega, by go_num, HB1⟩
      case measure => simp [intOf]; omega
    · go_wp2_with fail
      go_ret
      exact ⟨rfl, HB.out⟩
def Pf.at_ (p : Pf) (A : Option Addr) (c : Nat) : Pf := { p with A := A, c := c }
set_option maxRecDepth 100000 in
set_option maxHeartbeats 2000000 in
theorem nsame_any (p : Pf) (A' : Option Addr) (c' : Nat) (w : World) (h : Sl w w.heap.size 10 Wn.cl p.A p.l) (h' : Sl w w.heap.size 10 Wn.cl A' p.l) (hl : p.l.length ≤ 1000000) :
    Calls Tryz.prog 22 #[.agg p.cs, .agg (p.at_ A' c').cs] w fun e w' => e = .returned (.bool true) ∧ Below w.heap.size w w' := by
  have HS := Lib.hid h
  have HS' := Lib.hid h'
  have HX := Lib.hid (Blk.alloc (Blk.new w 33 p.cs) (.cells (p.at_ A' c').cs 33))
  have HY : Hid (Blk ((w.alloc (.cells p.cs 33)).alloc (.cells (p.at_ A' c').cs 33)) (w.heap.size + 1) 33 (p.at_ A' c').cs) := Blk.newAt (by simp)
  have HB0 : Hid (Below w.heap.size w ((w.alloc (.cells p.cs 33)).alloc (.cells (p.at_ A' c').cs 33))) := ((Below.refl _ _).alloc (Nat.le_refl _) _).alloc (by simp) _
  have c0 : ((w.alloc (.cells p.cs 33)).alloc (.cells (p.at_ A' c').cs 33)).cell? ⟨w.heap.size, 0, none⟩ = some (.int .u64 p.am) := HX.out.cell 0
  have c1 : ((w.alloc (.cells p.cs 33)).alloc (.cells (p.at_ A' c').cs 33)).cell? ⟨w.heap.size, 1, none⟩ = some (.string p.sig) := HX.out.cell 1
  have c2 : ((w.alloc (.cells p.cs 33)).alloc (.cells (p.at_ A' c').cs 33)).cell? ⟨w.heap.size, 2, none⟩ = some (.string p.tok) := HX.out.cell 2
  have c3 : ((w.alloc (.cells p.cs 33)).alloc (.cells (p.at_ A' c').cs 33)).cell? ⟨w.heap.size, 3, none⟩ = some (.slice p.A p.l.length p.c) := HX.out.cell 3
  have e0 : ((w.alloc (.cells p.cs 33)).alloc (.cells (p.at_ A' c').cs 33)).cell? ⟨w.heap.size + 1, 0, none⟩ = some (.int .u64 p.am) := HY.out.cell 0
  have e1 : ((w.alloc (.cells p.cs 33)).alloc (.cells (p.at_ A' c').cs 33)).cell? ⟨w.heap.size + 1, 1, none⟩ = some (.string p.sig) := HY.out.cell 1
  have e2 : ((w.alloc (.cells p.cs 33)).alloc (.cells (p.at_ A' c').cs 33)).cell? ⟨w.heap.size + 1, 2, none⟩ = some (.string p.tok) := HY.out.cell 2
  have e3 : ((w.alloc (.cells p.cs 33)).alloc (.cells (p.at_ A' c').cs 33)).cell? ⟨w.heap.size + 1, 3, none⟩ = some (.slice A' p.l.length c') := HY.out.cell 3
  obtain ⟨A, hA⟩ : ∃ A, A = p.A := ⟨_, rfl⟩
  rw [← hA] at c3 HS
  have HA := Lib.hid hA
  clear h h' hA
  go_enter Tryz.func22, Tryz.ntmps22
  go_wp2_with fail
  go_loopw [37] (fun i wr => ∃ k : Nat, k ≤ p.l.length ∧ i = .int .i64 k ∧ Hid (Below w.heap.size w wr) ∧ Hid (Blk wr w.heap.size 33 p.cs) ∧ Hid (Blk wr (w.heap.size + 1) 33 (p.at_ A' c').cs)) (fun i _ => p.l.length - (intOf i).toNat)
  case atStart => exact ⟨0, Nat.zero_le _, rfl, HB0, HX, HY⟩
  case round =>
    clear c0 c1 c2 c3 e0 e1 e2 e3 HX HY HB0
    obtain ⟨k, hk, rfl, HB, HX, HY⟩ := hrel
    have hz := HB.out.size
    by_cases hlt : k < p.l.length
    · obtain ⟨ab, off, hAe, _, hc⟩ := (HS.out.below HB.out).at_ hlt
      obtain ⟨ab2, off2, rfl, _, hc2⟩ := (HS'.out.below HB.out).at_ hlt
      generalize p.l[k] = x at hc hc2
      have HC1 := Lib.hid hc
      have HC2 := Lib.hid hc2
      have q3 := cell_rg (show wr.cell? ⟨w.heap.size, 3, none⟩ = some (.slice (some ⟨ab, off, none⟩) p.l.length p.c) from (HX.out.cell 3).trans (by rw [← hAe, HA.out]; rfl))
      have r3 := cell_rg (show wr.cell? ⟨w.heap.size + 1, 3, none⟩ = some (.slice (some ⟨ab2, off2, none⟩) p.l.length c') from HY.out.cell 3)
      have HAE := Lib.hid hAe
      have hx1 := HX.out.lt
      have hy1 := HY.out.lt
      clear hc hc2 hAe
      go_upto_region 6 with fail
      refine wp_region_quiet_below (by kernel_rfl) (by kernel_rfl) ?_
      repeat (first | go_big_quiet_skip | (go_big_quiet_want; first | ((first
              | (refine quiet_load_row 45 (.tmp 43) rfl ab (off + k * 10) x.cl HC1.out #[.string x.t.ch, .int .u64 (x.t.ser : Nat), .int .u64 (x.t.face : Nat), .int .u64 (x.t.wins : Nat), .int .u64 (x.t.many : Nat), .string x.t.com, .int .u64 (x.t.cl : Nat), .string x.t.sig, .string x.salt, .int .u64 (x.drawn : Nat)] (by rfl) (by rfl) Tryz.underlying45 infoWn ?_; go_simp)
              | (refine quiet_load_row 45 (.tmp 48) rfl ab2 (off2 + k * 10) x.cl HC2.out #[.string x.t.ch, .int .u64 (x.t.ser : Nat), .int .u64 (x.t.face : Nat), .int .u64 (x.t.wins : Nat), .int .u64 (x.t.many : Nat), .string x.t.com, .int .u64 (x.t.cl : Nat), .string x.t.sig, .string x.salt, .int .u64 (x.drawn : Nat)] (by rfl) (by rfl) Tryz.underlying45 infoWn ?_; go_simp)); go_big_quiet_on) | (go_big_quiet_op; first | go_big_quiet_on | go_big_quiet_call (fail))))
      refine wpQuiet_nil ?_
      intro U hp
      have hb := bel_regrown hp
      clear hp
      have HB1 := Lib.hid (HB.out.trans (hb.mono hz))
      have HX1 := Lib.hid (HX.out.bel hb)
      have HY1 := Lib.hid (HY.out.bel hb)
      clear hb q3 r3
      go_wp2_with fail
      go_roundw
      case rel => exact ⟨k + 1, by omega, by go_num, HB1, HX1, HY1⟩
      case measure => simp [intOf]; omega
    · go_wp2_with fail
      go_ret
      exact ⟨rfl, HB.out⟩
end Go.Proofs.YtpbcfeghfcodcaaGreat
namespace Go.Proofs.YtpbcfeghfcodcaaGreat
open Go.RowKit Go.Maps
def St.pf (s : St) (B : Option Addr) (d : Nat) : Pf := ⟨s.am, s.sig, s.tok, B, s.wins, d⟩
theorem st_pf (s : St) (A : Option Addr) (c : Nat) (B : Option Addr) (d : Nat) : (s.lists A c B d).cs.extract 12 (12 + 4) = (s.pf B d).cs := by rfl
theorem st_pfat (s : St) (B : Option Addr) (d : Nat) (B' : Option Addr) (d' : Nat) : (s.pf B d).at_ B' d' = s.pf B' d' := rfl
set_option maxRecDepth 100000 in
set_option maxHeartbeats 2000000 in
theorem xsame_any (s : St) (A : Option Addr) (c : Nat) (B : Option Addr) (d : Nat) (A' : Option Addr) (c' : Nat) (B' : Option Addr) (d' : Nat) (w : World) (h1 : (s.lists A c B d).mem w) (h2 : (s.lists A' c' B' d').mem w) (hl : s.tops.length ≤ 1000) (hl2 : s.wins.length ≤ 1000) :
    Calls Tryz.prog 8 #[.agg (s.lists A c B d).cs, .agg (s.lists A' c' B' d').cs] w fun e w' => e = .returned (.bool true) ∧ Below w.heap.size w w' := by
  have HM1 := Lib.hid h1
  have HM2 := Lib.hid h2
  have HX := Lib.hid (Blk.alloc (Blk.new w 35 (s.lists A c B d).cs) (.cells (s.lists A' c' B' d').cs 35))
  have HY : Hid (Blk ((w.alloc (.cells (s.lists A c B d).cs 35)).alloc (.cells (s.lists A' c' B' d').cs 35)) (w.heap.size + 1) 35 (s.lists A' c' B' d').cs) := Blk.newAt (by simp)
  have HB : Hid (Below w.heap.size w ((w.alloc (.cells (s.lists A c B d).cs 35)).alloc (.cells (s.lists A' c' B' d').cs 35))) := ((Below.refl _ _).alloc (Nat.le_refl _) _).alloc (by simp) _
  have HNS := fun W hW => Lib.hid (nsame_any (s.pf B d) B' d' W (h1.bel (w' := W) hW).wins (h2.bel (w' := W) hW).wins (by show s.wins.length ≤ 1000000; omega))
  have HEQ := fun W hW => Lib.hid (equal_en A A' s.tops c c' W (h1.bel (w' := W) hW).tops (h2.bel (w' := W) hW).tops (by omega))
  clear h1 h2 hl hl2
  go_enter Tryz.func8, Tryz.ntmps8
  go_upto_region 1 with fail
  refine wp_gen fun X hX => ?_
  rw [← hX] at HX HY HB
  clear hX
  have x16 : (X).cell? ⟨w.heap.size, 16, none⟩ = some (.int .i64 s.tokens) := HX.out.cell 16
  have x17 : (X).cell? ⟨w.heap.size, 17, none⟩ = some (.int .u64 s.faces) := HX.out.cell 17
  have x18 : (X).cell? ⟨w.heap.size, 18, none⟩ = some (.int .u64 s.nominal) := HX.out.cell 18
  have y16 : (X).cell? ⟨w.heap.size + 1, 16, none⟩ = some (.int .i64 s.tokens) := HY.out.cell 16
  have y17 : (X).cell? ⟨w.heap.size + 1, 17, none⟩ = some (.int .u64 s.faces) := HY.out.cell 17
  have y18 : (X).cell? ⟨w.heap.size + 1, 18, none⟩ = some (.int .u64 s.nominal) := HY.out.cell 18
  go_wp2_with (first
    | (refine wpList_load_blkG (by rfl) 33 (.tmp 26) rfl w.heap.size 12 4 HX.out (s.pf B d).cs (by rfl) (st_pf s A c B d) Tryz.underlying33 infoPf (by show 16 ≤ 20; omega) ?_)
    | (refine wpList_load_blkG (by rfl) 33 (.tmp 28) rfl (w.heap.size + 1) 12 4 HY.out (s.pf B' d').cs (by rfl) (st_pf s A' c' B' d') Tryz.underlying33 infoPf (by show 16 ≤ 20; omega) ?_))
  refine (HNS _ HB.out).out.mono ?_
  rintro e V ⟨rfl, hb⟩
  replace HX := Lib.hid (HX.out.bel hb)
  replace HY := Lib.hid (HY.out.bel hb)
  replace HB := Lib.hid (HB.out.trans (hb.mono HB.out.size))
  clear hb x16 x17 x18 y16 y17 y18 HNS
  have x11 : V.cell? ⟨w.heap.size, 11, none⟩ = some (.slice A s.tops.length c) := HX.out.cell 11
  have y11 : V.cell? ⟨w.heap.size + 1, 11, none⟩ = some (.slice A' s.tops.length c') := HY.out.cell 11
  go_wp2_with (first
    | (refine wpList_load_blkG (by rfl) 28 (.tmp 34) rfl w.heap.size 0 11 HX.out #[.string (s.lock).tx, .int .i64 (s.lock).out, .int .i64 (s.lock).o.kind, .int .u64 ((s.lock).o.am : Nat), .string (s.lock).o.key, .string (s.lock).o.gate, .int .i64 (s.lock).o.ex, .string (s.lock).o.anchor, .int .u64 ((s.lock).o.unit : Nat), .int .i64 (s.lock).o.tok, .string (s.lock).o.of_] (by rfl) (by rfl) Tryz.underlying28 infoEnt (by show 11 ≤ 20; omega) ?_)
    | (refine wpList_load_blkG (by rfl) 28 (.tmp 36) rfl (w.heap.size + 1) 0 11 HY.out #[.string (s.lock).tx, .int .i64 (s.lock).out, .int .i64 (s.lock).o.kind, .int .u64 ((s.lock).o.am : Nat), .string (s.lock).o.key, .string (s.lock).o.gate, .int .i64 (s.lock).o.ex, .string (s.lock).o.anchor, .int .u64 ((s.lock).o.unit : Nat), .int .i64 (s.lock).o.tok, .string (s.lock).o.of_] (by rfl) (by rfl) Tryz.underlying28 infoEnt (by show 11 ≤ 20; omega) ?_))
  refine (HEQ _ HB.out).out.mono ?_
  rintro e V2 ⟨rfl, hb⟩
  replace HX := Lib.hid (HX.out.bel hb)
  replace HY := Lib.hid (HY.out.bel hb)
  replace HB := Lib.hid (HB.out.trans (hb.mono HB.out.size))
  clear hb x11 y11 HEQ
  have x19 : V2.cell? ⟨w.heap.size, 19, none⟩ = some (.bool s.closed) := HX.out.cell 19
  have y19 : V2.cell? ⟨w.heap.size + 1, 19, none⟩ = some (.bool s.closed) := HY.out.cell 19
  generalize s.closed = cl at x19 y19
  cases cl <;>
  · go_wp2_with fail
    go_ret
    exact ⟨rfl, HB.out⟩
end Go.Proofs.YtpbcfeghfcodcaaGreat
