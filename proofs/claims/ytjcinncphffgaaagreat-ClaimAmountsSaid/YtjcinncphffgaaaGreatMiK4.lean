/- coin.Copy of any transaction: the same in lists of its own. block.Right and block.ID of any block. chain: own: a block in lists of its own. law17's fixed. -/
import Derived.Outline
import Derived.OwnWalk
import Derived.Deep.RegionHeld3
import Derived.Deep.DeepCutAuto
import Derived.Deep.CutBlock
import Derived.Test.YtjcinncphffgaaaGreatMiG25
import Derived.Test.YtjcinncphffgaaaGreatMiG35
import Derived.Test.YtjcinncphffgaaaGreatMiK1
import Derived.Test.YtjcinncphffgaaaGreatMiK2
import Derived.Test.YtjcinncphffgaaaGreatMiNum
import Derived.Test.YtjcinncphffgaaaGreatMiWots
set_option linter.unusedVariables false
set_option linter.unusedSimpArgs false
namespace Go.Proofs.YtjcinncphffgaaaGreat
section
open Go.RowKit Go.Maps
/-- a transaction, its lists elsewhere -/
def cpT (t : Txn) (A : Option Addr) (c : Nat) (B : Option Addr) (d : Nat) (P : Option Addr) (e : Nat) : Txn := ⟨A, t.ins, c, B, t.outs, d, ⟨t.p.am, t.p.sig, t.p.tok, P, t.p.l, e⟩⟩
/-- a transaction whose lists are the call's own -/
structure TxRows (base : Nat) (w : World) (u : Txn) : Prop where
 r1 : w.ownsRow base 59 4 (.slice u.A u.ins.length u.c) u.ins.length (u.ins.flatMap Inp.cl)
 r2 : w.ownsRow base 81 9 (.slice u.B u.outs.length u.d) u.outs.length (u.outs.flatMap Ou.cl)
 r3 : w.ownsRow base 122 10 (.slice u.p.A u.p.l.length u.p.c) u.p.l.length (u.p.l.flatMap Wn.cl)
 nz : u.nz
section
variable {base : Nat} {w w' : World} {u : Txn}
theorem TxRows.mem (h : TxRows base w u) : u.mem w := ⟨Sl.of_own (fun _ => rfl) h.r1, Sl.of_own (fun _ => rfl) h.r2, Sl.of_own (fun _ => rfl) h.r3⟩
theorem TxRows.bel (h : TxRows base w u) (hb : Below w.heap.size w w') : TxRows base w' u := ⟨own_belT h.r1 hb, own_belT h.r2 hb, own_belT h.r3 hb, h.nz⟩
theorem TxRows.mono {b' : Nat} (h : TxRows base w u) (hb : b' ≤ base) : TxRows b' w u := ⟨h.r1.mono hb, h.r2.mono hb, h.r3.mono hb, h.nz⟩
theorem TxRows.ch {g : Nat} {t : TypeId} (h : TxRows base w u) (hc : Ch [g] w w') (hg : KdT w g t) (h1 : t ≠ 59) (h2 : t ≠ 81) (h3 : t ≠ 122) : TxRows base w' u := ⟨own_chT h.r1 hc hg h1, own_chT h.r2 hc hg h2, own_chT h.r3 hc hg h3, h.nz⟩
end
end
section
open Go.RowKit Go.Maps
end
section
open Go.RowKit Go.Maps
section
variable {w0 w w' : World} {b : Bm} {A : Option Addr} {c : Nat} {D : List Txn}
end
end
section
open Go.RowKit Go.Maps
/-- a state in a block, whole, its lists in rows of their own -/
structure StB (W : World) (g : Nat) (s : St) : Prop where
 blk : Blk W g 103 s.cs
 ls : ∃ N, LsAt s N W s.A s.c s.B s.d
theorem StB.mem {W : World} {g : Nat} {s : St} (h : StB W g s) : s.mem W := by
 obtain ⟨N, hl⟩ := h.ls
 exact hl.mem
theorem StB.bel {W W' : World} {g : Nat} {s : St} (h : StB W g s) (hb : Below W.heap.size W W') : StB W' g s := by
 obtain ⟨N, hl⟩ := h.ls
 exact ⟨h.blk.bel hb, N, hl.bel hb⟩
theorem StB.ch {W W' : World} {g q : Nat} {s : St} {t : TypeId} {cs : Array Value} (h : StB W g s) (hc : Ch [q] W W') (hq : Blk W q t cs) (h1 : t ≠ 103) (h2 : t ≠ 89) (h3 : t ≠ 122) : StB W' g s := by
 obtain ⟨N, hl⟩ := h.ls
 exact ⟨h.blk.ch hc (by simpa using h.blk.ne_ hq h1.symm), N, ⟨own_chT hl.r1 hc hq.kdT h2, own_chT hl.r2 hc hq.kdT h3, hl.n1, hl.n2⟩⟩
theorem StB.mk_ {W : World} {g N : Nat} {s : St} {A : Option Addr} {c : Nat} {B : Option Addr} {d : Nat} (h : Blk W g 103 (s.lists A c B d).cs) (hl : LsAt s N W A c B d) : StB W g (s.lists A c B d) := ⟨h, N, ⟨hl.r1, hl.r2, hl.n1, hl.n2⟩⟩
theorem newS_ls (e : En) (N : Nat) (W : World) : LsAt (newS e) N W (newS e).A (newS e).c (newS e).B (newS e).d := ⟨⟨rfl, .inl ⟨rfl, rfl⟩⟩, ⟨rfl, .inl ⟨rfl, rfl⟩⟩, fun _ => rfl, fun _ => rfl⟩
theorem yields_en {ops : Array Oper} {S : World → Prop} {op : Oper} {a : Act} (hw : Region.wanted op (yielded ops a.tmps) = true) (x : Operand) (ho : op.op = .load 89 x)
  (g off : Nat) (y : En) (hS : ∀ w, S w → ∀ j u, y.cl[j]? = some u → w.cell? ⟨g, off + j, none⟩ = some u) (hx : a.eval x = .pointer (some ⟨g, off, none⟩)) : YieldsIf Tryz.prog ops S op (.agg y.cs) a := by
 have := yieldsIf_load_mid (P := Tryz.prog) (ops := ops) (S := S) hw 89 x ho g off hx y.cl _ (fun w h => hS w h) Tryz.underlying89 rfl (by rw [infoEnt]; rfl)
 rwa [show y.cl.toArray = y.cs from Array.toArray_toList ..] at this
theorem ChR.ok {s : St} {f : Int} {w : World} {e : Ending} {w' : World} (h : ChR s f w e w') (hf : f = 0) : ∃ A c B d, e = .returned (.tuple #[.agg (s.lists A c B d).cs, .int .i64 0]) ∧ LsAt s w.heap.size w' A c B d ∧ Below w.heap.size w w' := by
 obtain ⟨hb, ⟨hne, _⟩ | ⟨_, A, c, B, d, he, hl⟩⟩ := h
 ·exact absurd hf hne
 ·exact ⟨A, c, B, d, he, hl, hb⟩
section
variable (A : Option Addr) (c : Nat) (B : Option Addr) (d : Nat) (W : World)
theorem fx_fits (e : En) (h : fitsB e.o = true) (W : World) : Calls Tryz.prog 83 #[.agg e.o.cs] W fun e' w' => e' = .returned (.bool true) ∧ Below W.heap.size W w' := by
 have := fits_gen e.o W
 rwa [h] at this
end
end
end Go.Proofs.YtjcinncphffgaaaGreat
