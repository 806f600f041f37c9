/- law18's ClaimPays: what the walk carries. -/
import Derived.Test.YtjcinncphffgaaaGreatMhK4
import Derived.Test.YtjcinncphffgaaaGreatMhLaw17b
import Derived.Test.YtjcinncphffgaaaGreatMhLpA
import Derived.Test.YtjcinncphffgaaaGreatMhN1
import Derived.Test.YtjcinncphffgaaaGreatMhNote
import Derived.Test.YtjcinncphffgaaaGreatMhOpenU
set_option linter.unusedVariables false
set_option linter.unusedSimpArgs false
namespace Go.Proofs.YtjcinncphffgaaaGreat
open Go.RowKit Go.Maps
def bxU4 (a b c d : Nat) : Array Value := #[.int .u32 (a : Int), .int .u32 (b : Int), .int .u32 (c : Int), .int .u32 (d : Int)]
/-- the keys, the set, the tokens, the numbers -/
structure LpV (w0 : World) (kb cb : Nat) (sc : ByteArray) (i kg cg : Nat) (sg : ByteArray) (j sb b : Nat) (T : List En) (pb : Nat) (nn : Array Value) (W : World) : Prop where
  two : TwoK W kb cb sc 0 i kg cg sg 0 j
  set : SetAt W sb b T
  box : Blk W w0.heap.size 96 nn
  ch : ChainAt W pb wTok 5
  bel : Below w0.heap.size w0 W
  lo : w0.heap.size ≤ cb ∧ w0.heap.size ≤ cg ∧ w0.heap.size ≤ b
section
variable {w0 W W' : World} {kb cb i i' kg cg j j' sb b pb g : Nat} {sc sg : ByteArray} {T T' : List En} {nn : Array Value} {t : TypeId} {cs : Array Value}
theorem LpV.go (h : LpV w0 kb cb sc i kg cg sg j sb b T pb nn W) (hb : Below W.heap.size W W') : LpV w0 kb cb sc i kg cg sg j sb b T pb nn W' := ⟨h.two.bel hb, h.set.bel hb, h.box.bel hb, h.ch.bel hb, h.bel.trans (hb.mono h.bel.size), h.lo⟩
theorem LpV.signC (h : LpV w0 kb cb sc i kg cg sg j sb b T pb nn W) (k : KeyAt W' kb cb sc 0 i') (hc : Ch [cb] W W') : LpV w0 kb cb sc i' kg cg sg j sb b T pb nn W' :=
  ⟨h.two.signC hc k, h.set.key h.two.kc hc, h.box.ctr h.two.kc hc (by decide), h.ch.ch hc h.two.kc.cnt (by decide) (by decide), h.bel.trans (hc.below h.bel.size (by simp; exact h.lo.1)), h.lo⟩
theorem LpV.signG (h : LpV w0 kb cb sc i kg cg sg j sb b T pb nn W) (k : KeyAt W' kg cg sg 0 j') (hc : Ch [cg] W W') : LpV w0 kb cb sc i kg cg sg j' sb b T pb nn W' :=
  ⟨h.two.signG hc k, h.set.key h.two.kg hc, h.box.ctr h.two.kg hc (by decide), h.ch.ch hc h.two.kg.cnt (by decide) (by decide), h.bel.trans (hc.below h.bel.size (by simp; exact h.lo.2.1)), h.lo⟩
theorem LpV.st (h : LpV w0 kb cb sc i kg cg sg j sb b T pb nn W) (hg : Blk W g t cs) (hc : Ch [g] W W') (h1 : t ≠ 68) (h2 : t ≠ 160) (h3 : t ≠ 9) (h4 : 186 ≠ t) (h5 : 96 ≠ t) (h6 : t ≠ 211) (hlo : w0.heap.size ≤ g) : LpV w0 kb cb sc i kg cg sg j sb b T pb nn W' :=
  ⟨⟨h.two.kc.kd hc hg.kdT h1 h2 h3, h.two.kg.kd hc hg.kdT h1 h2 h3, h.two.ne⟩, ⟨h.set.hd.ch hc (by have := h.set.hd.ne_ hg h4; simpa using this), h.set.ut.ch hc (by have := h.set.ut.ne_blk hg; simpa using this)⟩, h.box.ch hc (by have := h.box.ne_ hg h5; simpa using this), h.ch.ch hc hg h6 h3, h.bel.trans (hc.below h.bel.size (by simp; exact hlo)), h.lo⟩
end
section
variable {s : St} {cl gt : ByteArray} {am mo : Nat}
/-- a call of the channel: what it leaves is the same channel, if it answers 0 -/
def OneR (cl gt : ByteArray) (am mo : Nat) (w : World) (e : Ending) (w' : World) : Prop := ∃ q f, e = .returned (.tuple #[.agg (St.cs q), .int .i64 f]) ∧ Below w.heap.size w w' ∧ (∃ N, LsAt q N w' q.A q.c q.B q.d) ∧ (f = 0 → LpS q cl gt am mo)
theorem one_of {s' : St} {f : Int} {w w' : World} {e : Ending} (h : ChR s' f w e w') (hl : f = 0 → LpS s' cl gt am mo) : OneR cl gt am mo w e w' := by
  obtain ⟨hb, h⟩ := h
  rcases h with ⟨h0, he⟩ | ⟨h0, A, c, B, d, he, hls⟩
  · exact ⟨zS, f, by rw [zStS]; exact he, hb, ⟨0, ⟨⟨rfl, .inl ⟨rfl, rfl⟩⟩, ⟨rfl, .inl ⟨rfl, rfl⟩⟩, fun _ => rfl, fun _ => rfl⟩⟩, fun h => absurd h h0⟩
  · exact ⟨s'.lists A c B d, 0, he, hb, ⟨_, ⟨hls.r1, hls.r2, hls.n1, hls.n2⟩⟩, fun _ => (hl h0).lists A c B d⟩
theorem vou_one (h : LpS s cl gt am mo) (v : Nat) (sig : ByteArray) (w : World) (hS : s.mem w) (hv : v < 18446744073709551616) (hz : sig.size ≤ 1000000) :
    Calls Tryz.prog 43 #[.agg s.cs, .int .u64 (v : Nat), .string sig, .int .u64 0] w (OneR cl gt am mo w) :=
  (xvoucher_any s v sig 0 w h.inv.good.fit hS hv hz (by decide)).mono fun _ _ k => one_of k (fun h0 => h.vou hv h0)
theorem tok_one (h : LpS s cl gt am mo) (t : ByteArray) (w : World) (hS : s.mem w) :
    Calls Tryz.prog 45 #[.agg s.cs, .string t, .int .u64 0] w (OneR cl gt am mo w) :=
  (xtoken_any s t 5 0 w h.inv.good.fit hS h.inv.good.an h.inv.good.tok (by decide) (by decide)).mono fun _ _ k => one_of k (fun h0 => h.tok h0)
end
set_option maxRecDepth 100000 in
set_option maxHeartbeats 1000000 in
theorem more18_any (s : St) (x : En) (w : World) (hf : s.fit) (ht9 : s.tops.length ≤ 900) (hS : s.mem w) (hea : x.o.am < 18446744073709551616) :
    Calls Tryz.prog 40 #[.agg s.cs, .agg x.cs] w (ChR (s.addtop x) (moreE s x (fitsB x.o)) w) := by
  have HX : Hid (Blk (((w.alloc (.cells s.cs 103)).alloc (.cells x.cs 89)).alloc (.cells zSt 103)) w.heap.size 103 s.cs) := Lib.hid (((Blk.new w _ _).alloc _).alloc _)
  have HO : Hid (Blk (((w.alloc (.cells s.cs 103)).alloc (.cells x.cs 89)).alloc (.cells zSt 103)) (w.heap.size + 1) 89 x.cs) := Lib.hid (Blk.alloc (Blk.newAt (by simp)) _)
  have HR : Hid (Blk (((w.alloc (.cells s.cs 103)).alloc (.cells x.cs 89)).alloc (.cells zSt 103)) (w.heap.size + 1 + 1) 103 zSt) := Blk.newAt (by simp)
  have HB : Hid (Below w.heap.size w (((w.alloc (.cells s.cs 103)).alloc (.cells x.cs 89)).alloc (.cells zSt 103))) := (((Below.refl _ _).alloc (Nat.le_refl _) _).alloc (by simp) _).alloc (by simp <;> omega) _
  have H3 := fun W hW => Lib.hid (xmore_any s x W hf ht9 (hS.bel (w' := W) hW) hea (fitsB x.o) (fun W => fits_gen x.o W))
  generalize moreE s x (fitsB x.o) = f at H3 ⊢
  generalize s.addtop x = S' at H3 ⊢
  clear hf ht9 hS hea
  go_enter Tryz.func40, Tryz.ntmps40
  go_wp2_with (first
    | (refine wpList_load_blk rfl 103 (.tmp 2) rfl w.heap.size 0 20 HX.out s.cs (by rfl) (st_ext s) Tryz.underlying103 infoSta (st_le s) ?_)
    | (refine wpList_load_blk rfl 89 (.tmp 3) rfl (w.heap.size + 1) 0 11 HO.out x.cs (by rfl) (en_ext x) Tryz.underlying89 infoEnt (Nat.le_refl 11) ?_))
  refine (H3 _ HB.out).out.mono ?_
  rintro e V ⟨hb, hr⟩
  replace HR := Lib.hid (HR.out.bel hb)
  have HBo := HB
  replace HB := Lib.hid (HB.out.trans (hb.mono HB.out.size))
  clear hb
  rcases hr with ⟨hne, rfl⟩ | ⟨rfl, A, c, B, d, rfl, hl⟩
  · have HNE := Lib.hid hne
    clear hne
    go_wp2_with (refine wpList_store_part rfl 103 (.tmp 4) (.tmp 9) rfl (w.heap.size + 1 + 1) 0 HR.out zSt zSt (by rfl) (by rfl) (Nat.le_refl 20) infoSta zStO (zStV rfl) ?_; intro W6 hb6 hc6; have HT := Lib.hid hb6; have HC6 := Lib.hid hc6; clear hb6 hc6)
    refine bodyPost_ret (results_cell_row2 rfl _ HT.out rfl Tryz.underlying103 infoSta) rfl ?_
    exact ⟨HB.out.trans (HC6.out.below HB.out.size (by simp <;> omega)), .inl ⟨HNE.out, rfl⟩⟩
  · have HL := Lib.hid (hl.mono HBo.out.size)
    clear hl
    go_wp2_with (refine wpList_store_part rfl 103 (.tmp 4) (.tmp 9) rfl (w.heap.size + 1 + 1) 0 HR.out (S'.lists A c B d).cs (S'.lists A c B d).cs (by rfl) (by rfl) (Nat.le_refl 20) infoSta (stcs_one _) (st_over _ rfl) ?_; intro W6 hb6 hc6; have HT := Lib.hid hb6; have HC6 := Lib.hid hc6; clear hb6 hc6)
    refine bodyPost_ret (results_cell_row2 rfl _ HT.out rfl Tryz.underlying103 infoSta) rfl ?_
    exact ⟨HB.out.trans (HC6.out.below HB.out.size (by simp <;> omega)), .inr ⟨rfl, A, c, B, d, rfl, HL.out.ch HC6.out HR.out.kdT⟩⟩
theorem more_one {cl gt : ByteArray} {am mo : Nat} {s : St} (hk : LkOk1 cl gt am mo 5) (hm : mo ≠ 0) (hs : s = newS (lpX cl gt am mo)) (w : World) (hS : s.mem w) :
    Calls Tryz.prog 40 #[.agg s.cs, .agg (lpY cl gt am mo).cs] w fun e w' => ∃ q, e = .returned (.tuple #[.agg (St.cs q), .int .i64 0]) ∧ Below w.heap.size w w' ∧ (∃ N, LsAt q N w' q.A q.c q.B q.d) ∧ LpS q cl gt am mo := by
  subst hs
  refine (more18_any (newS (lpX cl gt am mo)) (lpY cl gt am mo) w (lp_inv hk).good.fit (Nat.zero_le _) hS hk.mo).mono ?_
  rintro e w' ⟨hb, h⟩
  rw [lp_moreE hk hm] at h
  rcases h with ⟨h0, _⟩ | ⟨_, A, c, B, d, he, hls⟩
  · exact absurd rfl h0
  · exact ⟨_, he, hb, ⟨_, ⟨hls.r1, hls.r2, hls.n1, hls.n2⟩⟩, (lp_top hk hm).lists A c B d⟩
end Go.Proofs.YtjcinncphffgaaaGreat
