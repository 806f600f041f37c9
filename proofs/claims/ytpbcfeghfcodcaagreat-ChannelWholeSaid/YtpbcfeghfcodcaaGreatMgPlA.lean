/- law17: a call as its loops make it. -/
import Derived.Test.YtpbcfeghfcodcaaGreatMgCwA
import Derived.Test.YtpbcfeghfcodcaaGreatMgRfA
set_option linter.unusedVariables false
set_option linter.unusedSimpArgs false
namespace Go.Proofs.YtpbcfeghfcodcaaGreat
open Go.RowKit Go.Maps
/-- what a call left -/
def PlR (s : St) (mt : Nat) (p : Op17) (q : St) (f : Int) : Prop := f = 0 → playE s mt p = 0 ∧ ∃ A c B d, q = (playS s mt p).lists A c B d
theorem play_one (s : St) (mt : Nat) (o : Op17) (w : World) (hg : s.good mt) (hS : s.mem w) (ho : o.fit) :
    Calls Tryz.prog 12 #[.agg s.cs, .agg o.cs] w fun e w' => ∃ q f, e = .returned (.tuple #[.agg q.cs, .int .i64 f]) ∧ Below w.heap.size w w' ∧ (∃ N, LsAt q N w' q.A q.c q.B q.d) ∧ PlR s mt o q f :=
  (play_any s mt o w hg hS ho).mono fun e w' ⟨hb, h⟩ => by
    rcases h with ⟨h0, he⟩ | ⟨h0, A, c, B, d, he, hl⟩
    · exact ⟨zS, playE s mt o, by rw [zStS]; exact he, hb, ⟨0, ⟨⟨rfl, .inl ⟨rfl, rfl⟩⟩, ⟨rfl, .inl ⟨rfl, rfl⟩⟩, fun _ => rfl, fun _ => rfl⟩⟩, fun h => absurd h h0⟩
    · exact ⟨_, 0, he, hb, ⟨_, ⟨hl.r1, hl.r2, hl.n1, hl.n2⟩⟩, fun _ => ⟨h0, A, c, B, d, rfl⟩⟩
/-- one of a list of calls, where it lies -/
structure OpAt (W : World) (b off : Nat) (o : Op17) : Prop where
  lt : b < W.heap.size
  at_ : ∀ j u, o.cl[j]? = some u → W.cell? ⟨b, off + j, none⟩ = some u
theorem OpAt.bel {W W' : World} {b off : Nat} {o : Op17} (h : OpAt W b off o) (hb : Below W.heap.size W W') : OpAt W' b off o :=
  ⟨Nat.lt_of_lt_of_le h.lt hb.size, fun j u hu => (hb.cell (p := ⟨b, off + j, none⟩) h.lt).trans (h.at_ j u hu)⟩
theorem yields_op {ops : Array Oper} {S : World → Prop} {op : Oper} {a : Act} (hw : Region.wanted op (yielded ops a.tmps) = true) (x : Operand) (ho : op.op = .load 47 x)
    (g off : Nat) (y : Op17) (hS : ∀ w, S w → OpAt w g off y) (hx : a.eval x = .pointer (some ⟨g, off, none⟩)) : YieldsIf Tryz.prog ops S op (.agg y.cs) a := by
  have := yieldsIf_load_mid (P := Tryz.prog) (ops := ops) (S := S) hw 47 x ho g off hx y.cl _ (fun w h => (hS w h).at_) Tryz.underlying47 rfl (by rw [infoOp17]; rfl)
  rwa [show y.cl.toArray = y.cs from Array.toArray_toList ..] at this
theorem new_whole {x : En} (h : x.o.am < 18446744073709551616) : wholeV (newS x) = (x.o.am : Int) := by
  show capL [(x.o.am : Int)] = _
  unfold capL
  have e : totI [(x.o.am : Int)] = x.o.am := by simp [totI]
  rw [e, if_pos (by omega)]
theorem new_worth (x : En) : worthV (newS x) = 0 := by
  show capL [(0 : Int), tokV 0 x.o.unit, 0] = 0
  have e : tokV 0 x.o.unit = 0 := by unfold tokV; simp
  rw [e]; rfl
theorem new_credit (x : En) : creditV (newS x) = 0 := by
  show capL [(0 : Int), tokV 0 x.o.unit, 0] = 0
  have e : tokV 0 x.o.unit = 0 := by unfold tokV; simp
  rw [e]; rfl
theorem whole_tot (s : St) (h : totI ((s.lock.o.am : Int) :: topsI s.tops) < 18446744073709551616) : totV ((s.lock.o.am : Int) :: topsI s.tops) = wholeV s ∧ totE ((s.lock.o.am : Int) :: topsI s.tops) = 0 := by
  constructor
  · unfold totV wholeV capL; rw [if_pos h, if_pos h]
  · exact if_pos h
theorem whole_over (s : St) (h : ¬ totI ((s.lock.o.am : Int) :: topsI s.tops) < 18446744073709551616) : wholeV s = 18446744073709551615 ∧ totE ((s.lock.o.am : Int) :: topsI s.tops) = 2 := by
  constructor
  · unfold wholeV capL; rw [if_neg h]
  · exact if_neg h
theorem oucl_one (o : Ou) : ∀ u ∈ o.cl, u.oneCell' = true := one_all (oucs_one o)
theorem en_o_cl (x : En) {j : Nat} {u : Value} (h : x.o.cl[j]? = some u) : x.cl[2 + j]? = some u := by
  rw [Nat.add_comm]
  exact h
/-- a list of one output -/
theorem build_ou (o : Ou) (W : World) : (Instr.buildSlice 52 1 #[(0, .agg o.cs)]).run Tryz.prog W = .ok (.slice (some ⟨W.heap.size, 0, none⟩) 1 1) (W.alloc (.cells o.cs 26)) := by
  kernel_rfl
theorem wpList_build_ou {ops : Array Oper} {rest : List Oper} {o : Oper} {a : Act} {w : World} {Q : Exit → Act → World → Prop} (hg : o.guard = none) (x : Operand) (ho : o.op = .buildSlice 52 1 #[(0, x)]) (y : Ou) (hx : a.eval x = .agg y.cs)
    (h : wpList Tryz.prog ops Q rest (a.put o.dst (.slice (some ⟨w.heap.size, 0, none⟩) 1 1)) (w.alloc (.cells y.cs 26))) : wpList Tryz.prog ops Q (o :: rest) a w :=
  wpList_plain hg fun _ hK => by
    have e : ((#[(0, x)] : Array (Nat × Operand)).map fun (i, x) => (i, a.eval x)) = #[(0, .agg y.cs)] := by simp [hx]
    unfold Oper.wp execOp
    simp only [ho, Sem.run_bind, e, build_ou, Result.andThen_ok]
    exact hK _ _ h
/-- the cells of a lock's output and of what more there is -/
def outsC (o : Ou) (T : List En) : List Value := (o :: T.map En.o).flatMap Ou.cl
theorem outs_start (W : World) (o : Ou) (T : List En) : (W.alloc (.cells o.cs 26)).ownsRow W.heap.size 26 9 (.slice (some ⟨W.heap.size, 0, none⟩) (0 + 1) 1) (0 + 1) (outsC o (T.take 0)) := by
  have h := own_lit (base := W.heap.size) (k := 9) (n := 1) (Blk.new W 26 o.cs) (Nat.le_refl _) rfl (by decide)
  have e : outsC o (T.take 0) = o.cs.toList := by simp [outsC]; rfl
  rw [e]; exact h
theorem outs_snoc (o : Ou) (T : List En) (n : Nat) (h : n < T.length) : outsC o (T.take (n + 1)) = outsC o (T.take n) ++ T[n].o.cl := by
  unfold outsC
  rw [List.take_succ_eq_append_getElem h, List.map_append]
  simp
end Go.Proofs.YtpbcfeghfcodcaaGreat
