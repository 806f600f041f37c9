/- law18's fixed calls: the states, transactions and answers. -/
import Derived.Test.YtjcinncphffgaaaGreatMiClF
import Derived.Test.YtjcinncphffgaaaGreatMiClM
import Derived.Test.YtjcinncphffgaaaGreatMiFixK
import Derived.Test.YtjcinncphffgaaaGreatMiK4
import Derived.Test.YtjcinncphffgaaaGreatMiSgD
set_option linter.unusedVariables false
set_option linter.unusedSimpArgs false
namespace Go.Proofs.YtjcinncphffgaaaGreat
section
open Go.RowKit Go.Maps
def q0 : St := newS l0C
def q1 : St := q0.addtop l1C
def q2 : St := q1.vouch 60 sv60
theorem lkOk_G : LkOk rC rG 100 20 9 := ⟨rC_size, rG_size, by decide, by decide, by decide, by decide, by decide, by decide⟩
theorem fits_l0 : fitsB l0C.o = true := by
 have h := lk_fits lkOk_G ch11 (nameO_size _ _)
 simp only [newU, List.all_cons, List.all_nil, Bool.and_true, Bool.and_eq_true] at h
 exact h.2.1
theorem fits_l1 : fitsB l1C.o = true := by
 have h := lk_fits lkOk_G ch11 (nameO_size _ _)
 simp only [newU, List.all_cons, List.all_nil, Bool.and_true, Bool.and_eq_true] at h
 exact h.2.2
theorem q0_fit : q0.fit := ⟨by decide, by decide, by decide, by decide, by decide, by decide, (by intro e he; cases he), by decide, by decide, by show tx11.size ≤ 1000000; rw [tx11_size]; decide⟩
theorem q1_fit : q1.fit := ⟨q0_fit.lam, q0_fit.lunit, q0_fit.am, q0_fit.tokens, q0_fit.faces, q0_fit.nominal, by
 intro e he
 obtain rfl : e = l1C := List.mem_singleton.1 he
 decide, by decide, by decide, q0_fit.tx⟩
theorem q2_fit : q2.fit := q1_fit.vouch (by decide) _
theorem q_n2 : wholeV q2 = 120 := by decide +kernel
theorem q_w2 : worthV q2 = 60 := by decide +kernel
theorem q_new (W : World) : Calls Tryz.prog 39 #[.agg l0C.cs] W fun e' w' => e' = .returned (.tuple #[.agg q0.cs, .int .i64 0]) ∧ Below W.heap.size W w' := by
 have h := xnew_any l0C W true (fx_fits l0C fits_l0)
 rw [if_pos (show newB l0C true = true from rfl), if_pos (show newB l0C true = true from rfl)] at h
 exact h
theorem q_more : moreE q0 l1C true = 0 := by
 unfold moreE mustB
 rw [if_neg (by decide), show q0.name = l1C.o.of_ from rfl, if_neg (by simp; exact ⟨rfl, rfl, rfl, rfl⟩), if_neg (by
  unfold sameP
  simp
  refine ⟨?_, ?_⟩
  ·intro _ h; exact absurd h (by decide)
  ·intro x hx; cases hx), if_neg (by decide)]
theorem q_more_any (W : World) : Calls Tryz.prog 96 #[.agg q0.cs, .agg l1C.cs] W fun e w' => ∃ A c B d, e = .returned (.tuple #[.agg (q1.lists A c B d).cs, .int .i64 0]) ∧ LsAt q1 W.heap.size w' A c B d ∧ Below W.heap.size W w' :=
 (xmore_any q0 l1C W q0_fit (by decide) (newS_mem _ _) (by decide) true (fx_fits l1C fits_l1)).mono fun _ _ h => h.ok q_more
theorem q_rm : xroomB (q1.vouch 60 sv60) 0 = true := by decide +kernel
theorem q_vou : vouE q1 60 sv60 0 = 0 := by
 unfold vouE
 rw [if_neg (by decide), if_neg (by decide), if_neg (by have := sv60_size; omega), show q1.lock.o.key = rC from rfl, show q1.name = ch11 from rfl, if_pos (show verB rC (vouchB ch11 60) sv60 = true from ver_60), if_pos q_rm]
theorem q_vou_any (A : Option Addr) (c : Nat) (B : Option Addr) (d : Nat) (W : World) (h : (q1.lists A c B d).mem W) : Calls Tryz.prog 43 #[.agg (q1.lists A c B d).cs, .int .u64 60, .string sv60, .int .u64 0] W fun e w' => ∃ A c B d, e = .returned (.tuple #[.agg (q2.lists A c B d).cs, .int .i64 0]) ∧ LsAt q2 W.heap.size w' A c B d ∧ Below W.heap.size W w' :=
 (xvoucher_any (q1.lists A c B d) 60 sv60 0 W (q1_fit.lists_ A c B d) h (by decide) (by have := sv60_size; omega) (by decide)).mono fun _ _ h => by
  obtain ⟨A', c', B', d', he, hl, hb⟩ := h.ok (by rw [vouE_ls]; exact q_vou)
  exact ⟨A', c', B', d', he, ⟨hl.r1, hl.r2, hl.n1, hl.n2⟩, hb⟩
theorem q_low : buildE q0 = 11 := by
 have h : paysF (worthV q0).toNat (wholeV q0).toNat = 11 := by decide +kernel
 unfold buildE lookF
 rw [h, if_neg (by decide)]
/-! the claim -/
section
variable (A' : Option Addr) (c' : Nat) (B' : Option Addr) (d' : Nat) (A : Option Addr) (c : Nat) (B : Option Addr) (d : Nat) (PA : Option Addr) (pc : Nat)
theorem q_build : buildX (q2.lists A' c' B' d') A c B d PA pc = ⟨A, insOf L11 2 ByteArray.empty, c, B, O11, d, ⟨60, sv60, ByteArray.empty, PA, [], pc⟩⟩ := by
 unfold buildX
 have e : paysL l0C 60 120 = O11 := by unfold paysL; rw [if_neg (by decide)]; exact po11
 rw [worth_ls, whole_ls, q_n2, q_w2]
 rw [show (60 : Int).toNat = 60 from rfl, show (120 : Int).toNat = 120 from rfl, show (q2.lists A' c' B' d').lock = l0C from rfl, e]
 rfl
theorem sg_ins (L : List En) (path : Int) (sig : ByteArray) : (insOf L path ByteArray.empty).map (sgI sig) = insOf L path sig := by simp [insOf, sgI]
theorem q_al (sig : ByteArray) : (sgA (buildX (q2.lists A' c' B' d') A c B d PA pc) sig).al (claim11 none 0 none 0 (vouP 60 sv60) sig) := by
 rw [q_build]
 exact ⟨sg_ins L11 2 sig, rfl, rfl, rfl, rfl, rfl⟩
theorem q_al0 : (buildX (q2.lists A' c' B' d') A c B d PA pc).al (claim11 none 0 none 0 (vouP 60 sv60) ByteArray.empty) := by
 rw [q_build]
 exact ⟨rfl, rfl, rfl, rfl, rfl, rfl⟩
theorem q_ok (hs : SrtE L11) (hok : ∀ e ∈ L11, e.okp) : buildE (q2.lists A' c' B' d') = 0 := by
 have h : paysF (worthV (q2.lists A' c' B' d')).toNat (wholeV (q2.lists A' c' B' d')).toNat = 0 := by
  rw [worth_ls, whole_ls, q_n2, q_w2]; decide
 unfold buildE lookF
 rw [h, if_pos rfl, al_right (q_al0 A' c' B' d' none 0 none 0 none 0), claim11_right hs hok 60 (by decide), if_pos rfl]
theorem q_core (hs : SrtE L11) (hok : ∀ e ∈ L11, e.okp) : coreX (buildX (q2.lists A' c' B' d') none 0 none 0 none 0) = coreOn L11 2 O11 :=
 (al_core (q_al0 A' c' B' d' none 0 none 0 none 0)).trans (claim11_core hs hok 60 (by decide))
theorem q_check (hs : SrtE L11) (hok : ∀ e ∈ L11, e.okp) {sig : ByteArray} (hsg : sig.size ≤ 400) (hv : verB rG (coreOn L11 2 O11) sig = true) (h : Int) : checkE L11 (sgA (buildX (q2.lists A' c' B' d') A c B d PA pc) sig) h = 0 :=
 (al_check (q_al A' c' B' d' A c B d PA pc sig) _ _).trans (claim11_ok hs hok hsg hv h)
theorem q_txok (sig : ByteArray) : TxOk (sgA (buildX (q2.lists A' c' B' d') A c B d PA pc) sig) :=
 al_ok (q_al A' c' B' d' A c B d PA pc sig).symm (txok_spend (by decide) (by decide) (pfok_vou 60 sv60 sv60_size (by decide)) o11_z)
theorem q_outs (sig : ByteArray) : (sgA (buildX (q2.lists A' c' B' d') A c B d PA pc) sig).outs = O11 := (q_al A' c' B' d' A c B d PA pc sig).outs
end
/-! what comes back -/
section
variable (A' : Option Addr) (c' : Nat) (B' : Option Addr) (d' : Nat) (A : Option Addr) (c : Nat) (B : Option Addr) (d : Nat) (PA : Option Addr) (pc : Nat)
theorem k_tot : totV (topsI L11) = 120 := by decide +kernel
theorem k_totE : totE (topsI L11) = 0 := by decide +kernel
theorem k_back : backX L11 rC A c B d = back11 A c B d ByteArray.empty := by
 unfold backX
 rw [k_tot]
 rfl
theorem k_right (hs : SrtE L11) (hok : ∀ e ∈ L11, e.okp) : rightT (backX L11 rC A c B d) = true := by
 rw [k_back]
 have hk := lk11'
 exact back_right lkok11 (by rw [hk]; exact hs) (by rw [hk]; exact hok) (by rw [hk]; exact insOn_spend A c L11 3 B [payO 110 rC] d noPf ByteArray.empty (by decide)) rfl rfl (by decide)
theorem k_ok (hs : SrtE L11) (hok : ∀ e ∈ L11, e.okp) : backE L11 rC = 0 := by
 unfold backE
 rw [k_totE, k_tot, if_neg (by decide), if_neg (by decide), k_right none 0 none 0 hs hok, if_pos rfl]
theorem k_core (hs : SrtE L11) (hok : ∀ e ∈ L11, e.okp) : coreX (backX L11 rC A c B d) = coreOn L11 3 [payO 110 rC] := by
 have hr := k_right A c B d hs hok
 rw [k_back] at hr ⊢
 exact (insOn_spend A c L11 3 B [payO 110 rC] d noPf ByteArray.empty (by decide)).core hr
theorem k_al (sig : ByteArray) : (sgA (cpT (backX L11 rC A' c' B' d') A c B d PA pc) sig).al (back11 none 0 none 0 sig) := by
 rw [k_back]
 exact ⟨sg_ins L11 3 sig, rfl, rfl, rfl, rfl, rfl⟩
theorem k_late (hs : SrtE L11) (hok : ∀ e ∈ L11, e.okp) {sig : ByteArray} (hsg : sig.size ≤ 400) : checkE L11 (sgA (cpT (backX L11 rC A' c' B' d') A c B d PA pc) sig) 8 = 12 :=
 (al_check (k_al A' c' B' d' A c B d PA pc sig) _ _).trans (back11_late hs hok hsg)
theorem k_check (hs : SrtE L11) (hok : ∀ e ∈ L11, e.okp) {sig : ByteArray} (hsg : sig.size ≤ 400) (hv : verB rC (coreOn L11 3 [payO 110 rC]) sig = true) : checkE L11 (sgA (cpT (backX L11 rC A' c' B' d') A c B d PA pc) sig) 9 = 0 :=
 (al_check (k_al A' c' B' d' A c B d PA pc sig) _ _).trans (back11_ok hs hok hsg hv)
theorem k_txok (sig : ByteArray) : TxOk (sgA (cpT (backX L11 rC A' c' B' d') A c B d PA pc) sig) :=
 al_ok (k_al A' c' B' d' A c B d PA pc sig).symm (txok_spend (by decide) (by decide) pfok_no p110_z)
theorem k_outs (sig : ByteArray) : (sgA (cpT (backX L11 rC A' c' B' d') A c B d PA pc) sig).outs = [payO 110 rC] := (k_al A' c' B' d' A c B d PA pc sig).outs
theorem k_nil : backE [] rC = 11 := by
 unfold backE
 rw [show totE (topsI []) = 0 from rfl, show totV (topsI []) = 0 from rfl, if_neg (by decide), if_pos (by decide)]
end
/-! what locks -/
def p50 : En := ⟨tx11, 0, payO 50 rC⟩
theorem p50_ok : p50.okp := by
 exact ⟨tx11_size, by decide, by decide⟩
theorem f_out : fundO p50 (payO 30 rG) = [payO 30 rG, payO 10 rC] := by
 unfold fundO
 rw [if_pos (by decide)]
 rfl
theorem f_right (A : Option Addr) (c : Nat) (B : Option Addr) (d : Nat) : rightT (fundX p50 (payO 30 rG) A c B d) = true := by
 have hi : InsOn (spendT A c [p50] 1 B [payO 30 rG, payO 10 rC] d noPf ByteArray.empty) [p50] 1 := insOn_spend _ _ _ _ _ _ _ _ _ (by decide)
 have he : fundX p50 (payO 30 rG) A c B d = spendT A c [p50] 1 B [payO 30 rG, payO 10 rC] d noPf ByteArray.empty := by unfold fundX; rw [f_out]; rfl
 rw [he]
 refine hi.right (List.pairwise_singleton _ _) (fun e h => by rw [List.mem_singleton.1 h]; exact p50_ok) ⟨by decide, by decide⟩ (by decide) ⟨show 1 ≤ 2 by decide, show 2 ≤ 4 by decide⟩ ?_ right_none
 intro o ho
 have ho' : o ∈ [payO 30 rG, payO 10 rC] := ho
 rcases List.mem_cons.1 ho' with rfl | ho'
 ·exact fits_payO (by decide) rG_size
 ·rw [List.mem_singleton.1 ho']; exact fits_payO (by decide) rC_size
theorem f_ok : fundE p50 (payO 30 rG) = 0 := by
 unfold fundE lookF
 rw [if_neg (by decide), if_neg (by decide), if_pos rfl, f_right, if_pos rfl]
theorem f_low : fundE p50 (payO 41 rG) = 11 := by
 unfold fundE
 rw [if_neg (by decide), if_pos (by decide)]
theorem f_arg : fundE l0C (payO 1 rG) = 1 := by
 unfold fundE
 rw [if_pos (by decide)]
end
end Go.Proofs.YtjcinncphffgaaaGreat
