/- coin.put of any output that may be. coin.Core of any transaction. coin.ID of any transaction. utxo: what a transaction spends: words. -/
import Derived.Outline
import Derived.Test.YtjcinncphffgaaaGreatMjG27
import Derived.Test.YtjcinncphffgaaaGreatMjG29
import Derived.Test.YtjcinncphffgaaaGreatMjNum
set_option linter.unusedVariables false
set_option linter.unusedSimpArgs false
namespace Go.Proofs.YtjcinncphffgaaaGreat
open Go.RowKit Go.Maps
/-- an output as bytes -/
def outT (o : Ou) (s : ByteArray) : ByteArray :=
  if o.kind = 1 then s ++ strOfNums [o.kind] ++ putB o.am ++ o.key
  else if o.kind = 3 then s ++ strOfNums [o.kind] ++ putB o.am ++ o.key ++ o.gate ++ putB o.ex.toNat ++ o.of_
  else s ++ strOfNums [o.kind] ++ putB o.am ++ o.key ++ o.gate ++ putB o.ex.toNat ++ o.anchor ++ putB o.unit ++ putB o.tok.toNat
/-- what may be -/
structure FitO (o : Ou) : Prop where
  key : o.key.size = 16
  kind : o.kind = 1 ∨ o.kind = 2 ∨ o.kind = 3
  gate : o.kind ≠ 1 → o.gate.size = 16 ∧ 1 ≤ o.ex ∧ o.ex ≤ 4294967295
  of_ : o.kind = 3 → o.of_.size = 16
  anchor : o.kind = 2 → o.anchor.size = 16 ∧ 0 ≤ o.tok ∧ o.tok ≤ 4096
theorem fit_o {o : Ou} (h : fitsB o = true) : FitO o := by
  unfold fitsB at h
  by_cases k2 : o.kind = 2
  · rw [if_pos k2] at h
    simp only [fits2B, Bool.and_eq_true, decide_eq_true_eq] at h
    obtain ⟨⟨⟨⟨⟨⟨⟨⟨_, h2⟩, h3⟩, h4⟩, h5⟩, h6⟩, h7⟩, h8⟩, _⟩ := h
    exact ⟨h2, .inr (.inl k2), fun _ => ⟨h6, h7, h8⟩, fun k => by omega, fun _ => ⟨h3, h4, h5⟩⟩
  · rw [if_neg k2] at h
    by_cases k3 : o.kind = 3
    · rw [if_pos k3] at h
      simp only [fits3B, Bool.and_eq_true, decide_eq_true_eq] at h
      obtain ⟨⟨⟨⟨⟨⟨⟨⟨_, h2⟩, h3⟩, h4⟩, h5⟩, h6⟩, _⟩, _⟩, _⟩ := h
      exact ⟨h2, .inr (.inr k3), fun _ => ⟨h3, h4, h5⟩, fun _ => h6, fun k => by omega⟩
    · rw [if_neg k3] at h
      by_cases k1 : o.kind = 1
      · rw [if_pos k1] at h
        simp only [fits1B, Bool.and_eq_true, decide_eq_true_eq] at h
        obtain ⟨⟨⟨⟨⟨⟨⟨_, h2⟩, _⟩, _⟩, _⟩, _⟩, _⟩, _⟩ := h
        exact ⟨h2, .inl k1, fun k => absurd k1 k, fun k => by omega, fun k => by omega⟩
      · rw [if_neg k1] at h; cases h
theorem outT_size {o : Ou} {s : ByteArray} (h : FitO o) : (outT o s).size ≤ s.size + 100 := by
  unfold outT
  split
  · simp only [ByteArray.size_append, num1_size, putB_size, h.key]; omega
  · rename_i k1
    have h1 := (h.gate k1).1
    split
    · rename_i k3
      have h2 := h.of_ k3
      simp only [ByteArray.size_append, num1_size, putB_size, h.key, h1, h2]; omega
    · rename_i k3
      have k2 : o.kind = 2 := by rcases h.kind with k | k | k <;> first | exact k | contradiction
      have h2 := (h.anchor k2).1
      simp only [ByteArray.size_append, num1_size, putB_size, h.key, h1, h2]; omega
theorem count_ok (n : Nat) (w : World) (h : n ≤ 9223372036854775807) : Calls Tryz.prog 152 #[.int .i64 (n : Int)] w fun e w' => e = .returned (.int .u64 (n : Int)) ∧ w' = w := by
  have H := Lib.hid (of_any n w h)
  clear h
  go_enter Tryz.func152, Tryz.ntmps152
  go_wp2_with fail
  refine H.out.mono ?_
  rintro e w1 ⟨rfl, rfl⟩
  go_wp2
  go_ret
  exact ⟨rfl, rfl⟩
set_option maxRecDepth 100000 in
set_option maxHeartbeats 2000000 in
theorem put_gen (b : Nat) (o : Ou) (s : ByteArray) (w : World) (hf : FitO o) (ha : o.am < 18446744073709551616) (hu : o.unit < 18446744073709551616) (hs : s.size ≤ 900000) (h : WrAt w b s) :
    Calls Tryz.prog 89 #[.pointer (some ⟨b, 0, none⟩), .agg o.cs] w fun e w' => e = .returned (.tuple #[]) ∧ WrAt w' b (outT o s) ∧ Ch [b] w w' := by
  have H := Lib.hid h
  have hb : b < w.heap.size := Blk.lt h
  have HP : Hid (Blk (w.alloc (.cells o.cs 81)) w.heap.size 81 o.cs) := Lib.hid (Blk.new _ _ _)
  have K : Hid (Ch [b] w (w.alloc (.cells o.cs 81))) := Lib.hid (Ch.alloc _ _ _)
  have HW : Hid (WrAt (w.alloc (.cells o.cs 81)) b s) := Lib.hid (h.ch (Ch.alloc [] _ _) (by simp))
  have hk0 : 0 ≤ o.kind ∧ o.kind ≤ 255 := by rcases hf.kind with k | k | k <;> omega
  have HF := Lib.hid hf
  have p0 : (w.alloc (.cells o.cs 81)).cell? ⟨w.heap.size, 0, none⟩ = some (.int .i64 o.kind) := HP.out.cell 0
  have HK := Lib.hid hf.key
  clear h hf
  go_enter Tryz.func89, Tryz.ntmps89
  go_wp2_with fail
  refine (wbyte_ok b s o.kind _ hk0.1 hk0.2 (by omega) HW.out).mono ?_
  rintro e w1 ⟨rfl, hx, kx⟩
  replace HP := Lib.hid (Blk.ch HP.out kx (by simp; omega))
  replace K := Lib.hid (K.out.trans kx)
  replace HW := Lib.hid hx
  clear hx kx
  have p0 : w1.cell? ⟨w.heap.size, 0, none⟩ = some (.int .i64 o.kind) := HP.out.cell 0
  have p1 : World.cell? w1 ⟨w.heap.size, 1, none⟩ = some (.int .u64 (o.am : Nat)) := HP.out.cell 1
  go_wp2_with fail
  refine (wnum_ok b _ o.am _ ha (by rw [ByteArray.size_append, num1_size]; omega) HW.out).mono ?_
  rintro e w2 ⟨rfl, hx, kx⟩
  replace HP := Lib.hid (Blk.ch HP.out kx (by simp; omega))
  replace K := Lib.hid (K.out.trans kx)
  replace HW := Lib.hid hx
  clear hx kx
  have p0 : w2.cell? ⟨w.heap.size, 0, none⟩ = some (.int .i64 o.kind) := HP.out.cell 0
  have p2 : World.cell? w2 ⟨w.heap.size, 2, none⟩ = some (.string o.key) := HP.out.cell 2
  clear p1
  go_wp2_with fail
  refine (whash_ok b _ o.key _ HK.out (by simp only [ByteArray.size_append, num1_size, putB_size]; omega) HW.out).mono ?_
  rintro e w3 ⟨rfl, hx, kx⟩
  replace HP := Lib.hid (Blk.ch HP.out kx (by simp; omega))
  replace K := Lib.hid (K.out.trans kx)
  replace HW := Lib.hid hx
  clear hx kx
  have p0 : w3.cell? ⟨w.heap.size, 0, none⟩ = some (.int .i64 o.kind) := HP.out.cell 0
  clear p2
  have hz3 : (s ++ strOfNums [o.kind] ++ putB o.am ++ o.key).size ≤ 900025 := by simp only [ByteArray.size_append, num1_size, putB_size, HK.out]; omega
  have HT0 : Hid (outT o s = if o.kind = 1 then s ++ strOfNums [o.kind] ++ putB o.am ++ o.key else if o.kind = 3 then s ++ strOfNums [o.kind] ++ putB o.am ++ o.key ++ o.gate ++ putB o.ex.toNat ++ o.of_ else s ++ strOfNums [o.kind] ++ putB o.am ++ o.key ++ o.gate ++ putB o.ex.toNat ++ o.anchor ++ putB o.unit ++ putB o.tok.toNat) := rfl
  generalize s ++ strOfNums [o.kind] ++ putB o.am ++ o.key = s3 at HW hz3 HT0
  by_cases k1 : o.kind = 1
  · have HT : Hid (outT o s = s3) := Lib.hid (by rw [HT0.out, if_pos k1])
    have d1 : (o.kind == 1) = true := beq_iff_eq.2 k1
    clear k1 hk0 HT0
    go_wp2_with fail
    refine bodyPost_ret (results_none rfl _ _ _) rfl ?_
    refine ⟨rfl, ?_, K.out⟩
    rw [HT.out]
    exact HW.out
  · have d1 : (o.kind == 1) = false := beq_eq_false_iff_ne.2 k1
    obtain ⟨g1, g2, g3⟩ := HF.out.gate k1
    obtain ⟨ex, hex⟩ : ∃ ex : Nat, o.ex = ex := ⟨o.ex.toNat, by omega⟩
    have HEX := Lib.hid hex
    have hexl : ex ≤ 4294967295 := by omega
    have HG := Lib.hid g1
    have hgt : o.ex.toNat = ex := by omega
    rw [hgt] at HT0
    clear g1 g2 g3 hex hgt
    have p3 : World.cell? w3 ⟨w.heap.size, 3, none⟩ = some (.string o.gate) := HP.out.cell 3
    go_wp2_with fail
    refine (whash_ok b _ o.gate _ HG.out (by omega) HW.out).mono ?_
    rintro e w4 ⟨rfl, hx, kx⟩
    replace HP := Lib.hid (Blk.ch HP.out kx (by simp; omega))
    replace K := Lib.hid (K.out.trans kx)
    replace HW := Lib.hid hx
    clear hx kx
    have p0 : w4.cell? ⟨w.heap.size, 0, none⟩ = some (.int .i64 o.kind) := HP.out.cell 0
    clear p3
    have p4 : w4.cell? ⟨w.heap.size, 4, none⟩ = some (.int .i64 (ex : Int)) := (HP.out.cell 4).trans (congrArg (fun z => some (Value.int .i64 z)) HEX.out)
    have hz4 : (s3 ++ o.gate).size ≤ 900041 := by rw [ByteArray.size_append, HG.out]; omega
    go_wp2_with fail
    refine (count_ok ex _ (by omega)).mono ?_
    rintro e w5 ⟨rfl, rfl⟩
    go_wp2_with fail
    refine (wnum_ok b _ ex _ (by omega) (by omega) HW.out).mono ?_
    rintro e w6 ⟨rfl, hx, kx⟩
    replace HP := Lib.hid (Blk.ch HP.out kx (by simp; omega))
    replace K := Lib.hid (K.out.trans kx)
    replace HW := Lib.hid hx
    clear hx kx
    have p0 : w6.cell? ⟨w.heap.size, 0, none⟩ = some (.int .i64 o.kind) := HP.out.cell 0
    have hz6 : (s3 ++ o.gate ++ putB ex).size ≤ 900049 := by rw [ByteArray.size_append, putB_size]; omega
    by_cases k3 : o.kind = 3
    · have HT : Hid (outT o s = s3 ++ o.gate ++ putB ex ++ o.of_) := Lib.hid (by rw [HT0.out, if_neg k1, if_pos k3])
      have d3 : (o.kind == 3) = true := beq_iff_eq.2 k3
      have HO := Lib.hid (HF.out.of_ k3)
      clear k1 k3 hk0 HT0
      have p8 : World.cell? w6 ⟨w.heap.size, 8, none⟩ = some (.string o.of_) := HP.out.cell 8
      go_wp2_with fail
      refine (whash_ok b _ o.of_ _ HO.out (by omega) HW.out).mono ?_
      rintro e w7 ⟨rfl, hx, kx⟩
      replace HP := Lib.hid (Blk.ch HP.out kx (by simp; omega))
      replace K := Lib.hid (K.out.trans kx)
      replace HW := Lib.hid hx
      clear hx kx
      have p0 : w7.cell? ⟨w.heap.size, 0, none⟩ = some (.int .i64 o.kind) := HP.out.cell 0
      go_wp2_with fail
      refine bodyPost_ret (results_none rfl _ _ _) rfl ?_
      refine ⟨rfl, ?_, K.out⟩
      rw [HT.out]
      exact HW.out
    · have HT : Hid (outT o s = s3 ++ o.gate ++ putB ex ++ o.anchor ++ putB o.unit ++ putB o.tok.toNat) := Lib.hid (by rw [HT0.out, if_neg k1, if_neg k3])
      have d3 : (o.kind == 3) = false := beq_eq_false_iff_ne.2 k3
      obtain ⟨h1, h2, h3⟩ := HF.out.anchor (by rcases HF.out.kind with k | k | k <;> first | exact k | contradiction)
      obtain ⟨tk, htk⟩ : ∃ tk : Nat, o.tok = tk := ⟨o.tok.toNat, by omega⟩
      have HTK := Lib.hid htk
      have htl : tk ≤ 4096 := by omega
      have HAN := Lib.hid h1
      have hgt : o.tok.toNat = tk := by omega
      rw [hgt] at HT
      clear h1 h2 h3 htk hgt k1 k3 hk0 HT0
      have p5 : World.cell? w6 ⟨w.heap.size, 5, none⟩ = some (.string o.anchor) := HP.out.cell 5
      go_wp2_with fail
      refine (whash_ok b _ o.anchor _ HAN.out (by omega) HW.out).mono ?_
      rintro e w7 ⟨rfl, hx, kx⟩
      replace HP := Lib.hid (Blk.ch HP.out kx (by simp; omega))
      replace K := Lib.hid (K.out.trans kx)
      replace HW := Lib.hid hx
      clear hx kx
      have p0 : w7.cell? ⟨w.heap.size, 0, none⟩ = some (.int .i64 o.kind) := HP.out.cell 0
      clear p5
      have p6 : World.cell? w7 ⟨w.heap.size, 6, none⟩ = some (.int .u64 (o.unit : Nat)) := HP.out.cell 6
      have hz7 : (s3 ++ o.gate ++ putB ex ++ o.anchor).size ≤ 900065 := by rw [ByteArray.size_append, HAN.out]; omega
      go_wp2_with fail
      refine (wnum_ok b _ o.unit _ hu (by omega) HW.out).mono ?_
      rintro e w8 ⟨rfl, hx, kx⟩
      replace HP := Lib.hid (Blk.ch HP.out kx (by simp; omega))
      replace K := Lib.hid (K.out.trans kx)
      replace HW := Lib.hid hx
      clear hx kx
      have p0 : w8.cell? ⟨w.heap.size, 0, none⟩ = some (.int .i64 o.kind) := HP.out.cell 0
      clear p6
      have p7 : w8.cell? ⟨w.heap.size, 7, none⟩ = some (.int .i64 (tk : Int)) := (HP.out.cell 7).trans (congrArg (fun z => some (Value.int .i64 z)) HTK.out)
      go_wp2_with fail
      refine (count_ok tk _ (by omega)).mono ?_
      rintro e w9 ⟨rfl, rfl⟩
      go_wp2_with fail
      refine (wnum_ok b _ tk _ (by omega) (by rw [ByteArray.size_append, putB_size]; omega) HW.out).mono ?_
      rintro e w10 ⟨rfl, hx, kx⟩
      replace HP := Lib.hid (Blk.ch HP.out kx (by simp; omega))
      replace K := Lib.hid (K.out.trans kx)
      replace HW := Lib.hid hx
      clear hx kx
      have p0 : w10.cell? ⟨w.heap.size, 0, none⟩ = some (.int .i64 o.kind) := HP.out.cell 0
      go_wp2_with fail
      go_end0
      exact ⟨rfl, by rw [HT.out]; exact HW.out, K.out⟩
end Go.Proofs.YtjcinncphffgaaaGreat
namespace Go.Proofs.YtjcinncphffgaaaGreat
open Go.RowKit Go.Maps
/-- an input as bytes -/
def inT (s : ByteArray) (i : Inp) : ByteArray := s ++ i.tx ++ strOfNums [i.out] ++ strOfNums [i.path]
def insT (l : List Inp) (s : ByteArray) : ByteArray := l.foldl inT s
def outsT (l : List Ou) (s : ByteArray) : ByteArray := l.foldl (fun s o => outT o s) s
def headT (t : Txn) : ByteArray := ByteArray.empty ++ strOfNums [67] ++ strOfNums [(t.ins.length : Int)]
def coreT (t : Txn) : ByteArray := outsT t.outs (insT t.ins (headT t) ++ strOfNums [(t.outs.length : Int)])
def coreX (t : Txn) : ByteArray := if rightT t = true then coreT t else ByteArray.empty
theorem insT_snoc (l : List Inp) (k : Nat) (h : k < l.length) (s : ByteArray) : insT (l.take (k + 1)) s = inT (insT (l.take k) s) l[k] := by
  unfold insT
  rw [List.take_succ_eq_append_getElem h, List.foldl_append]; rfl
theorem outsT_snoc (l : List Ou) (k : Nat) (h : k < l.length) (s : ByteArray) : outsT (l.take (k + 1)) s = outT l[k] (outsT (l.take k) s) := by
  unfold outsT
  rw [List.take_succ_eq_append_getElem h, List.foldl_append]; rfl
theorem inB_parts {i : Inp} (h : inB i = true) : i.tx.size = 16 ∧ 0 ≤ i.out ∧ i.out ≤ 255 ∧ 1 ≤ i.path ∧ i.path ≤ 3 ∧ i.sig.size ≤ 400 := by
  simp only [inB, Bool.and_eq_true, decide_eq_true_eq] at h
  obtain ⟨⟨⟨h1, h2, h3⟩, h4, h5⟩, h6⟩ := h
  exact ⟨h1, h2, h3, h4, h5, h6⟩
theorem inT_size {i : Inp} (s : ByteArray) (h : inB i = true) : (inT s i).size ≤ s.size + 100 := by
  unfold inT
  have := (inB_parts h).1
  simp only [ByteArray.size_append, num1_size, this]; omega
theorem insT_size : ∀ (l : List Inp) (s : ByteArray), (∀ i ∈ l, inB i = true) → (insT l s).size ≤ s.size + 100 * l.length
  | [], s, _ => by show s.size ≤ _; simp
  | i :: r, s, h => by
    have h1 := insT_size r (inT s i) (fun j hj => h j (by simp [hj]))
    have h2 := inT_size s (h i (by simp))
    show (insT r (inT s i)).size ≤ _
    simp only [List.length_cons]; omega
theorem outsT_size : ∀ (l : List Ou) (s : ByteArray), (∀ o ∈ l, FitO o) → (outsT l s).size ≤ s.size + 100 * l.length
  | [], s, _ => by show s.size ≤ _; simp
  | o :: r, s, h => by
    have h1 := outsT_size r (outT o s) (fun j hj => h j (by simp [hj]))
    have h2 := outT_size (s := s) (h o (by simp))
    show (outsT r (outT o s)).size ≤ _
    simp only [List.length_cons]; omega
/-- what a transaction that may be has -/
structure RightT (t : Txn) : Prop where
  ins : ∀ i ∈ t.ins, inB i = true
  nodup : (t.ins.map Inp.pt).Nodup
  n1 : 1 ≤ t.ins.length ∧ t.ins.length ≤ 4
  n2 : 1 ≤ t.outs.length ∧ t.outs.length ≤ 4
  outs : ∀ o ∈ t.outs, fitsB o = true
  pf : rightB t.p = true
theorem right_t {t : Txn} (h : rightT t = true) : RightT t := by
  simp only [rightT, insB, winB4, Bool.and_eq_true, decide_eq_true_eq, List.all_eq_true, Bool.not_eq_true', List.any_eq_false, Bool.not_eq_eq_eq_not, Bool.not_true, Bool.not_eq_false] at h
  obtain ⟨⟨h1, h2⟩, ⟨h3, h4⟩, ⟨h5, h6⟩, h7, h8⟩ := h
  exact ⟨h1, h2, by omega, by omega, (by intro o ho; have := h7 o ho; simpa using this), h8⟩
set_option maxRecDepth 100000 in
set_option maxHeartbeats 4000000 in
theorem core_gen (t : Txn) (w : World) (hm : t.mem w) (hl : t.ins.length ≤ 1000) (hlo : t.outs.length ≤ 1000) (hlw : t.p.l.length ≤ 1000) (hz : ∀ o ∈ t.outs, o.am < 18446744073709551616 ∧ o.unit < 18446744073709551616) :
    Calls Tryz.prog 24 #[.agg t.cs] w fun e w' => e = .returned (.string (coreX t)) ∧ Below w.heap.size w w' := by
  have HR := fun W (h : Below w.heap.size w W) => Lib.hid (right_gen t W (hm.bel h) hl hlo hlw)
  have HS := Lib.hid hm.ins
  have HSO := Lib.hid hm.outs
  have HZ := Lib.hid hz
  have HX : Hid (Blk (w.alloc (.cells t.cs 53)) w.heap.size 53 t.cs) := Lib.hid (Blk.new _ _ _)
  have HB : Hid (Below w.heap.size w (w.alloc (.cells t.cs 53))) := Lib.hid ((Below.refl _ _).alloc (Nat.le_refl _) _)
  obtain ⟨TA, hTA⟩ : ∃ TA, t.A = TA := ⟨_, rfl⟩
  obtain ⟨TB, hTB⟩ : ∃ TB, t.B = TB := ⟨_, rfl⟩
  rw [hTA] at HS
  rw [hTB] at HSO
  have HTA := Lib.hid hTA
  have HTB := Lib.hid hTB
  clear hm hTA hTB hz
  cases hr : rightT t with
  | false =>
    have HE : Hid (coreX t = ByteArray.empty) := Lib.hid (by unfold coreX; rw [hr]; rfl)
    rw [hr] at HR
    clear hr
    go_enter Tryz.func24, Tryz.ntmps24
    go_wp2_with (refine wpList_load_blk rfl 53 (.tmp 1) rfl w.heap.size 0 6 HX.out t.cs (by rfl) (txn_ext t) Tryz.underlying53 infoTx (Nat.le_refl 6) ?_)
    refine (HR _ HB.out).out.mono ?_
    rintro e w1 ⟨rfl, hb⟩
    replace HB := Lib.hid (HB.out.trans (Below.mono hb HB.out.size))
    clear hb
    go_wp2
    go_ret
    exact ⟨by rw [HE.out]; rfl, HB.out⟩
  | true =>
    have HE : Hid (coreX t = coreT t) := Lib.hid (by unfold coreX; rw [hr]; rfl)
    have HG := Lib.hid (right_t hr)
    rw [hr] at HR
    have hn1 := HG.out.n1
    have hn2 := HG.out.n2
    have HSZ : Hid (∀ k, (insT (t.ins.take k) (headT t)).size ≤ 500) := Lib.hid (fun k => by
      have h1 := insT_size (t.ins.take k) (headT t) (fun i hi => HG.out.ins i (List.mem_of_mem_take hi))
      have h2 : (headT t).size = 2 := by simp only [headT, ByteArray.size_append, num1_size]; rfl
      have h3 : (t.ins.take k).length ≤ 4 := by rw [List.length_take]; omega
      omega)
    have HSO2 : Hid (∀ k, (outsT (t.outs.take k) (insT t.ins (headT t) ++ strOfNums [(t.outs.length : Int)])).size ≤ 1000) := Lib.hid (fun k => by
      have h1 := outsT_size (t.outs.take k) (insT t.ins (headT t) ++ strOfNums [(t.outs.length : Int)]) (fun o ho => fit_o (HG.out.outs o (List.mem_of_mem_take ho)))
      have h2 := HSZ.out t.ins.length
      rw [List.take_length] at h2
      have h3 : (t.outs.take k).length ≤ 4 := by rw [List.length_take]; omega
      rw [ByteArray.size_append, num1_size] at h1
      omega)
    clear hr
    go_enter Tryz.func24, Tryz.ntmps24
    go_wp2_with (refine wpList_load_blk rfl 53 (.tmp 1) rfl w.heap.size 0 6 HX.out t.cs (by rfl) (txn_ext t) Tryz.underlying53 infoTx (Nat.le_refl 6) ?_)
    refine (HR _ HB.out).out.mono ?_
    rintro e w1 ⟨rfl, hb⟩
    replace HX := Lib.hid (HX.out.bel hb)
    replace HB := Lib.hid (HB.out.trans (Below.mono hb HB.out.size))
    clear hb HR
    have hg := HB.out.size
    go_wp2_with fail
    refine (wbyte_ok w1.heap.size ByteArray.empty 67 _ (by decide) (by decide) (by simp) (Blk.new _ _ _)).mono ?_
    rintro e w2 ⟨rfl, h2', k2⟩
    have HW := Lib.hid h2'
    have hgx : w.heap.size < w1.heap.size := HX.out.lt
    have hb : Below w1.heap.size w1 w2 := ((Below.refl _ _).alloc (Nat.le_refl _) _).trans (k2.below (by simp) (by simp))
    replace HX := Lib.hid (HX.out.bel hb)
    replace HB := Lib.hid (HB.out.trans (Below.mono hb HB.out.size))
    clear h2' k2 hb
    generalize w1.heap.size = g at HW hg hgx ⊢
    have p0 : w2.cell? ⟨w.heap.size, 0, none⟩ = some (.slice TA t.ins.length t.c) := by rw [← HTA.out]; exact HX.out.cell 0
    go_wp2_with fail
    refine (wbyte_ok g _ (t.ins.length : Int) _ (by omega) (by omega) (by rw [ByteArray.size_append, num1_size]; simp) HW.out).mono ?_
    rintro e w3 ⟨rfl, h3', k3⟩
    replace HX := Lib.hid (Blk.ch HX.out k3 (by simp; omega))
    replace HB := Lib.hid (HB.out.trans (Ch.below k3 HB.out.size (by intro x hx; simp at hx; omega)))
    replace HW : Hid (WrAt w3 g (insT (t.ins.take 0) (headT t))) := Lib.hid h3'
    clear h3' k3 p0
    have p0 : w3.cell? ⟨w.heap.size, 0, none⟩ = some (.slice TA t.ins.length t.c) := by rw [← HTA.out]; exact HX.out.cell 0
    go_wp2_with fail
    clear p0
    go_loopw [19] (fun i wr => ∃ k : Nat, k ≤ t.ins.length ∧ i = .int .i64 k ∧ Hid (WrAt wr g (insT (t.ins.take k) (headT t))) ∧ Hid (Blk wr w.heap.size 53 t.cs) ∧ Hid (Below w.heap.size w wr)) (fun i _ => t.ins.length - (intOf i).toNat)
    case atStart => exact ⟨0, Nat.zero_le _, rfl, HW, HX, HB⟩
    case round =>
      clear HW HX HB
      obtain ⟨k, hk, rfl, HW, HX, HB⟩ := hrel
      have hz := HB.out.size
      by_cases hlt : k < t.ins.length
      · have d0 : decide (k < t.ins.length) = true := decide_eq_true hlt
        clear HTA
        obtain ⟨ab, off, hAe, hbB, hc⟩ := (HS.out.below HB.out).at_ hlt
        subst hAe
        have HIN := Lib.hid (inB_parts (HG.out.ins _ (List.getElem_mem hlt)))
        have HSN := Lib.hid (insT_snoc t.ins k hlt (headT t))
        have hsz := HSZ.out k
        generalize t.ins[k] = x at hc HIN HSN
        generalize insT (t.ins.take k) (headT t) = ss at HW HSN hsz
        have HCC := Lib.hid hc
        have hga : g < wr.heap.size := Blk.lt HW.out
        clear hc
        go_wp2_with (first
          | (refine wpList_load_in rfl (.tmp 21) rfl ab (off + k * 4) (by rfl) x HCC.out ?_)
          | (refine wpList_store_part rfl 59 (.tmp 5) (.tmp 22) rfl wr.heap.size 0 (cs := zInp.cs) (Blk.new _ _ _) x.cs x.cs (by rfl) (by rfl) (Nat.le_refl 4) infoIn (incs_one x) (inv_over x rfl) ?_; intro W1 hb1 hc1; have hb := bel_st' hc1; have H5 := Lib.hid hb1; replace HX := Lib.hid (HX.out.bel hb); replace HW := Lib.hid (Blk.bel HW.out hb); replace HB := Lib.hid (HB.out.trans (Below.mono hb HB.out.size)); have x0 : W1.cell? ⟨wr.heap.size, 0, none⟩ = some (.string x.tx) := hb1.cell 0; clear hb1 hc1 hb))
        generalize wr.heap.size = a5 at H5 hga ⊢
        refine (whash_ok g ss x.tx _ HIN.out.1 (by omega) HW.out).mono ?_
        rintro e w4 ⟨rfl, h4, k4⟩
        replace H5 := Lib.hid (Blk.ch H5.out k4 (by simp; omega))
        replace HX := Lib.hid (Blk.ch HX.out k4 (by simp; omega))
        replace HB := Lib.hid (HB.out.trans (Ch.below k4 HB.out.size (by intro x hx; simp at hx; omega)))
        replace HW := Lib.hid h4
        clear h4 k4
        have x1 : w4.cell? ⟨a5, 1, none⟩ = some (.int .i64 x.out) := H5.out.cell 1
        go_wp2_with fail
        refine (wbyte_ok g _ x.out _ HIN.out.2.1 HIN.out.2.2.1 (by rw [ByteArray.size_append, HIN.out.1]; omega) HW.out).mono ?_
        rintro e w5 ⟨rfl, h4, k4⟩
        replace H5 := Lib.hid (Blk.ch H5.out k4 (by simp; omega))
        replace HX := Lib.hid (Blk.ch HX.out k4 (by simp; omega))
        replace HB := Lib.hid (HB.out.trans (Ch.below k4 HB.out.size (by intro x hx; simp at hx; omega)))
        replace HW := Lib.hid h4
        clear h4 k4 x1
        have x2 : w5.cell? ⟨a5, 2, none⟩ = some (.int .i64 x.path) := H5.out.cell 2
        go_wp2_with fail
        refine (wbyte_ok g _ x.path _ (by have := HIN.out.2.2.2.1; omega) (by have := HIN.out.2.2.2.2.1; omega) (by rw [ByteArray.size_append, ByteArray.size_append, HIN.out.1, num1_size]; omega) HW.out).mono ?_
        rintro e w6 ⟨rfl, h4, k4⟩
        replace HX := Lib.hid (Blk.ch HX.out k4 (by simp; omega))
        replace HB := Lib.hid (HB.out.trans (Ch.below k4 HB.out.size (by intro x hx; simp at hx; omega)))
        replace HW := Lib.hid h4
        clear h4 k4 x2
        go_wp2_with fail
        go_roundw
        case rel => exact ⟨k + 1, by omega, by go_num, Lib.hid (by rw [HSN.out]; exact HW.out), HX, HB⟩
        case measure => simp [intOf]; omega
      · have d0 : decide (k < t.ins.length) = false := decide_eq_false hlt
        obtain rfl : k = t.ins.length := by omega
        have hsz := HSZ.out t.ins.length
        rw [List.take_length] at HW hsz
        have HCT : Hid (coreX t = outsT t.outs (insT t.ins (headT t) ++ strOfNums [(t.outs.length : Int)])) := HE
        clear HE HSZ
        generalize insT t.ins (headT t) = ss at HW hsz HCT HSO2
        have p1 : wr.cell? ⟨w.heap.size, 1, none⟩ = some (.slice TB t.outs.length t.d) := by rw [← HTB.out]; exact HX.out.cell 1
        go_wp2_with fail
        refine (wbyte_ok g _ (t.outs.length : Int) _ (by omega) (by omega) (by omega) HW.out).mono ?_
        rintro e w7 ⟨rfl, h4, k4⟩
        replace HX := Lib.hid (Blk.ch HX.out k4 (by simp; omega))
        replace HB := Lib.hid (HB.out.trans (Ch.below k4 HB.out.size (by intro x hx; simp at hx; omega)))
        replace HW : Hid (WrAt w7 g (outsT (t.outs.take 0) (ss ++ strOfNums [(t.outs.length : Int)]))) := Lib.hid h4
        generalize ss ++ strOfNums [(t.outs.length : Int)] = s1 at HW HCT HSO2
        clear h4 k4 p1
        have p1 : w7.cell? ⟨w.heap.size, 1, none⟩ = some (.slice TB t.outs.length t.d) := by rw [← HTB.out]; exact HX.out.cell 1
        go_wp2_with fail
        clear p1
        go_loopw [42] (fun i wr => ∃ k : Nat, k ≤ t.outs.length ∧ i = .int .i64 k ∧ Hid (WrAt wr g (outsT (t.outs.take k) s1)) ∧ Hid (Blk wr w.heap.size 53 t.cs) ∧ Hid (Below w.heap.size w wr)) (fun i _ => t.outs.length - (intOf i).toNat)
        case atStart => exact ⟨0, Nat.zero_le _, rfl, HW, HX, HB⟩
        case round =>
          clear HW HX HB
          obtain ⟨k, hk, rfl, HW, HX, HB⟩ := hrel
          have hz := HB.out.size
          by_cases hlt : k < t.outs.length
          · have d1 : decide (k < t.outs.length) = true := decide_eq_true hlt
            clear HTB
            obtain ⟨ab, off, hAe, hbB, hc⟩ := (HSO.out.below HB.out).at_ hlt
            subst hAe
            have HFO := Lib.hid (fit_o (HG.out.outs _ (List.getElem_mem hlt)))
            have HZO := Lib.hid (HZ.out _ (List.getElem_mem hlt))
            have HSN := Lib.hid (outsT_snoc t.outs k hlt s1)
            have hsz2 := HSO2.out k
            generalize t.outs[k] = x at hc HFO HZO HSN
            generalize outsT (t.outs.take k) s1 = s2 at HW HSN hsz2
            have HCC := Lib.hid hc
            have hga : g < wr.heap.size := Blk.lt HW.out
            clear hc
            go_wp2_with (first
              | (refine wpList_load_ou rfl (.tmp 44) rfl ab (off + k * 9) (by rfl) x HCC.out ?_)
              | (refine wpList_store_part rfl 81 (.tmp 7) (.tmp 45) rfl wr.heap.size 0 (cs := zOu.cs) (Blk.new _ _ _) x.cs x.cs (by rfl) (by rfl) (Nat.le_refl 9) infoOu9 (oucs_one x) (ouv_over x rfl) ?_; intro W1 hb1 hc1; have hb := bel_st' hc1; have H7 := Lib.hid hb1; replace HX := Lib.hid (HX.out.bel hb); replace HW := Lib.hid (Blk.bel HW.out hb); replace HB := Lib.hid (HB.out.trans (Below.mono hb HB.out.size)); clear hb1 hc1 hb)
              | (refine wpList_load_blk rfl 81 (.tmp 7) rfl wr.heap.size 0 9 H7.out x.cs (by rfl) (ouv_ext x) Tryz.underlying81 infoOu9 (Nat.le_refl 9) ?_))
            refine (put_gen g x s2 _ HFO.out HZO.out.1 HZO.out.2 (by omega) HW.out).mono ?_
            rintro e w4 ⟨rfl, h4, k4⟩
            replace HX := Lib.hid (Blk.ch HX.out k4 (by simp; omega))
            replace HB := Lib.hid (HB.out.trans (Ch.below k4 HB.out.size (by intro x hx; simp at hx; omega)))
            replace HW := Lib.hid h4
            clear h4 k4 H7
            go_wp2_with fail
            go_roundw
            case rel => exact ⟨k + 1, by omega, by go_num, Lib.hid (by rw [HSN.out]; exact HW.out), HX, HB⟩
            case measure => simp [intOf]; omega
          · have d1 : decide (k < t.outs.length) = false := decide_eq_false hlt
            obtain rfl : k = t.outs.length := by omega
            rw [List.take_length] at HW
            go_wp2_with fail
            refine (wtext_ok g _ _ HW.out).mono ?_
            rintro e w8 ⟨rfl, rfl⟩
            go_wp2_with fail
            go_ret
            exact ⟨by rw [HCT.out]; rfl, HB.out⟩
end Go.Proofs.YtjcinncphffgaaaGreat
namespace Go.Proofs.YtjcinncphffgaaaGreat
open Go.RowKit Go.Maps
def wTx : ByteArray := ⟨#[116, 120]⟩
/-- a transaction's name -/
def idT (t : Txn) : ByteArray := if coreX t = ByteArray.empty then ByteArray.empty else tagB wTx [coreX t]
set_option maxRecDepth 100000 in
set_option maxHeartbeats 1000000 in
theorem id_gen (t : Txn) (w : World) (hm : t.mem w) (hl : t.ins.length ≤ 1000) (hlo : t.outs.length ≤ 1000) (hlw : t.p.l.length ≤ 1000) (hz : ∀ o ∈ t.outs, o.am < 18446744073709551616 ∧ o.unit < 18446744073709551616) (hc : (coreX t).size ≤ 1000000) :
    Calls Tryz.prog 17 #[.agg t.cs] w fun e w' => e = .returned (.string (idT t)) ∧ Below w.heap.size w w' := by
  have HC := fun W (h : Below w.heap.size w W) => Lib.hid (core_gen t W (hm.bel h) hl hlo hlw hz)
  have HX : Hid (Blk (w.alloc (.cells t.cs 53)) w.heap.size 53 t.cs) := Lib.hid (Blk.new _ _ _)
  have HB : Hid (Below w.heap.size w (w.alloc (.cells t.cs 53))) := Lib.hid ((Below.refl _ _).alloc (Nat.le_refl _) _)
  have HI : Hid (idT t = if coreX t = ByteArray.empty then ByteArray.empty else tagB wTx [coreX t]) := rfl
  generalize idT t = ii at HI ⊢
  generalize coreX t = cx at HC HI hc
  have ge := toList_beq cx ByteArray.empty
  have HTG := fun W (h : Sl W W.heap.size 1 strC (some ⟨W.heap.size - 1, 0, none⟩) [cx]) => Lib.hid (tag_any wTx (some ⟨W.heap.size - 1, 0, none⟩) 1 [cx] W (by decide) (by simp) (by intro p hp; simp at hp; rw [hp]; exact hc) h)
  clear hm hz
  by_cases hcx : cx = ByteArray.empty
  · replace ge : cx.toList.isEmpty = true := by rw [hcx]; first | rfl | simp | (unfold ByteArray.toList ByteArray.toList.loop; rfl)
    obtain rfl : ii = ByteArray.empty := by rw [HI.out, if_pos hcx]
    clear hcx HI HTG
    go_enter Tryz.func17, Tryz.ntmps17
    go_wp2_with (refine wpList_load_blk rfl 53 (.tmp 1) rfl w.heap.size 0 6 HX.out t.cs (by rfl) (txn_ext t) Tryz.underlying53 infoTx (Nat.le_refl 6) ?_)
    refine (HC _ HB.out).out.mono ?_
    rintro e w1 ⟨rfl, hb⟩
    replace HB := Lib.hid (HB.out.trans (Below.mono hb HB.out.size))
    clear hb
    go_wp2
    go_ret
    exact ⟨rfl, HB.out⟩
  · replace ge : cx.toList.isEmpty = false := by
      cases h : cx.toList with
      | nil =>
        rw [h, decide_eq_false hcx] at ge
        have e0 : ByteArray.empty.toList = [] := by first | rfl | simp | (unfold ByteArray.toList ByteArray.toList.loop; rfl)
        rw [e0] at ge
        exact absurd ge (by decide)
      | cons a r => rfl
    obtain rfl : ii = tagB wTx [cx] := by rw [HI.out, if_neg hcx]
    clear hcx HI
    go_enter Tryz.func17, Tryz.ntmps17
    go_wp2_with (refine wpList_load_blk rfl 53 (.tmp 1) rfl w.heap.size 0 6 HX.out t.cs (by rfl) (txn_ext t) Tryz.underlying53 infoTx (Nat.le_refl 6) ?_)
    refine (HC _ HB.out).out.mono ?_
    rintro e w1 ⟨rfl, hb⟩
    replace HB := Lib.hid (HB.out.trans (Below.mono hb HB.out.size))
    clear hb
    go_wp2_with fail
    refine (tag_any wTx (some ⟨w1.heap.size, 0, none⟩) 1 [cx] _ (by decide) (by simp) (by intro p hp; simp at hp; rw [hp]; exact hc) (Sl.of_own (base := w1.heap.size) (n := 1) (c := 1) (e := 9) (fun _ => rfl) (own_lit (base := w1.heap.size) (k := 1) (n := 1) (cs := #[.string cx]) (Blk.new _ _ _) (Nat.le_refl _) rfl (by decide)))).mono ?_
    rintro e w2 ⟨rfl, hb⟩
    have hb2 : Below w1.heap.size w1 w2 := ((Below.refl _ _).alloc (Nat.le_refl _) _).trans (hb.mono (by simp))
    replace HB := Lib.hid (HB.out.trans (Below.mono hb2 HB.out.size))
    clear hb hb2
    go_wp2
    go_ret
    exact ⟨rfl, HB.out⟩
end Go.Proofs.YtjcinncphffgaaaGreat
namespace Go.Proofs.YtjcinncphffgaaaGreat
open Go.RowKit Go.Maps
/-- what stands at an input's place -/
def entD (T : List En) (i : Inp) : En := ⟨i.tx, i.out, (getU T i.pt).getD zOu⟩
def hasI (T : List En) (i : Inp) : Bool := (getU T i.pt).isSome
def spentT (T : List En) (t : Txn) : List En := t.ins.map (entD T)
def path0 (t : Txn) : Int := (t.ins.headD zInp).path
def oneP (t : Txn) : Bool := !(t.ins.any fun i => decide (i.path ≠ path0 t))
/-- what is wrong with what a transaction spends -/
def foundE (T : List En) (t : Txn) : Int :=
  if rightT t = false then 4 else if (t.ins.all (hasI T)) = false then 6 else if oneP t && (decide (path0 t = 2) || noneP t.p) then 0 else 13
/-- a transaction that is looked at, in memory -/
def spX (t : Txn) (core : ByteArray) (h : Int) (A : Option Addr) (n c : Nat) (wh : Nat) : Array Value := #[.slice t.A t.ins.length t.c, .slice t.B t.outs.length t.d, .int .u64 (t.p.am : Nat), .string t.p.sig, .string t.p.tok, .slice t.p.A t.p.l.length t.p.c, .string core, .int .i64 h, .slice A n c, .int .u64 (wh : Nat)]
theorem spX_pf (t : Txn) (core : ByteArray) (h : Int) (A : Option Addr) (n c : Nat) (wh : Nat) : (spX t core h A n c wh).extract 2 (2 + 4) = t.p.cs := by rfl
set_option maxRecDepth 100000 in
theorem found1_any (pb : Nat) (pa : Int) (i : Inp) (w : World) (hp : Blk w pb 3 #[.int .i64 pa]) :
    Calls Tryz.prog 163 (#[.agg i.cs] ++ #[.pointer (some ⟨pb, 0, none⟩)]) w fun e w' => e = .returned (.bool (decide (i.path ≠ pa))) ∧ Below w.heap.size w w' := by
  have HX := Lib.hid (Blk.new w 59 i.cs)
  have c2 : (w.alloc (.cells i.cs 59)).cell? ⟨w.heap.size, 2, none⟩ = some (.int .i64 i.path) := HX.out.cell 2
  have p0 : (w.alloc (.cells i.cs 59)).cell? ⟨pb, 0, none⟩ = some (.int .i64 pa) := (hp.alloc _).cell 0
  have hq : (i.path != pa) = decide (i.path ≠ pa) := by
    by_cases e : i.path = pa
    · subst e; simp
    · rw [decide_eq_true e]; simp [bne, beq_eq_false_iff_ne.2 e]
  show Calls _ _ #[.agg i.cs, .pointer (some ⟨pb, 0, none⟩)] _ _
  generalize decide (i.path ≠ pa) = b at hq ⊢
  go_enter Tryz.func163, Tryz.ntmps163
  go_wp2_with fail
  go_ret
  exact ⟨rfl, (Below.refl _ _).alloc (Nat.le_refl _) _⟩
set_option maxRecDepth 100000 in
set_option maxHeartbeats 1000000 in
theorem indexp_in (px : Nat) (A : Option Addr) (l : List Inp) (c : Nat) (q : Inp → Bool) (w : World) (hS : Sl w w.heap.size 4 Inp.cl A l) (hl : l.length ≤ 1000000)
    (HF : ∀ W, Below w.heap.size w W → ∀ x ∈ l, Calls Tryz.prog 163 (#[.agg x.cs] ++ #[.pointer (some ⟨px, 0, none⟩)]) W fun e w' => e = .returned (.bool (q x)) ∧ Below W.heap.size W w') :
    Calls Tryz.prog 142 #[.slice A l.length c, .func (Fn.func 163) #[] #[.pointer (some ⟨px, 0, none⟩)]] w fun e w' => e = .returned (.int .i64 (fIdx q l)) ∧ Below w.heap.size w w' := by
  have HS := Lib.hid hS
  have HFF := Lib.hid HF
  clear hS HF
  go_enter Tryz.func142, Tryz.ntmps142
  go_wp2_with fail
  go_loopw [8] (fun i wr => ∃ k : Nat, k ≤ l.length ∧ i = .int .i64 k ∧ Hid ((l.take k).any q = false) ∧ Hid (Below w.heap.size w wr)) (fun i _ => l.length - (intOf i).toNat)
  case atStart => exact ⟨0, Nat.zero_le _, rfl, Lib.hid rfl, Lib.hid (Below.refl _ _)⟩
  case round =>
    obtain ⟨k, hk, rfl, HT, HB⟩ := hrel
    have hz := HB.out.size
    by_cases hlt : k < l.length
    · obtain ⟨ab, off, rfl, hbB, hc⟩ := (HS.out.below HB.out).at_ hlt
      have HC1 := HFF.out wr HB.out _ (List.getElem_mem hlt)
      have HTS : Hid ((l.take (k + 1)).any q = ((l.take k).any q || q l[k])) := by
        show _ = _
        rw [List.take_succ_eq_append_getElem hlt, List.any_append]
        simp
      have HIX := Lib.hid (fIdx_at q l k hlt HT.out)
      generalize l[k] = x at hc HC1 HTS HIX
      have HCC := Lib.hid hc
      have HCL := Lib.hid HC1
      clear hc HC1
      go_wp2_with (refine wpList_load_in rfl (.tmp 14) rfl ab (off + k * 4) (by rfl) x HCC.out ?_)
      refine HCL.out.mono ?_
      rintro e W1 ⟨rfl, hb⟩
      have HB1 := Lib.hid (HB.out.trans (hb.mono hz))
      clear hb HCL
      generalize q x = b at HTS HIX ⊢
      cases b with
      | true =>
        have HI1 := Lib.hid (HIX.out rfl)
        clear HIX HTS
        go_wp2_with fail
        go_ret
        exact ⟨by rw [HI1.out]; rfl, HB1.out⟩
      | false =>
        have HT1 : Hid ((l.take (k + 1)).any q = false) := Lib.hid (by rw [HTS.out, HT.out]; rfl)
        clear HIX HTS
        go_wp2_with fail
        go_roundw
        case rel => exact ⟨k + 1, by omega, by go_num, HT1, HB1⟩
        case measure => simp [intOf]; omega
    · have hkl : k = l.length := by omega
      subst hkl
      have HE := Lib.hid (fIdx_none q l (by rw [List.take_length] at HT; exact HT.out))
      go_wp2_with fail
      go_ret
      exact ⟨by rw [HE.out]; rfl, HB.out⟩
set_option maxRecDepth 100000 in
theorem containsp_in (px : Nat) (A : Option Addr) (l : List Inp) (c : Nat) (q : Inp → Bool) (w : World) (hS : Sl w w.heap.size 4 Inp.cl A l) (hl : l.length ≤ 1000000)
    (HF : ∀ W, Below w.heap.size w W → ∀ x ∈ l, Calls Tryz.prog 163 (#[.agg x.cs] ++ #[.pointer (some ⟨px, 0, none⟩)]) W fun e w' => e = .returned (.bool (q x)) ∧ Below W.heap.size W w') :
    Calls Tryz.prog 72 #[.slice A l.length c, .func (Fn.func 163) #[] #[.pointer (some ⟨px, 0, none⟩)]] w fun e w' => e = .returned (.bool (l.any q)) ∧ Below w.heap.size w w' := by
  have HI := Lib.hid (indexp_in px A l c q w hS hl HF)
  have HD := Lib.hid (fIdx_any q l)
  generalize fIdx q l = z at HI HD
  generalize l.any q = b at HD ⊢
  clear hS HF
  have hd : decide ((0 : Int) ≤ z) = b := HD.out
  clear HD
  go_enter Tryz.func72, Tryz.ntmps72
  go_wp2_with fail
  refine HI.out.mono ?_
  rintro e W1 ⟨rfl, hb⟩
  have HB := Lib.hid hb
  clear hb HI
  go_wp2
  go_ret
  exact ⟨rfl, HB.out⟩
/-- a transaction that is looked at: where it lies -/
structure SpAt (w : World) (g : Nat) (t : Txn) (core : ByteArray) (h : Int) (L : List En) (wh : Nat) : Prop where
  ex : ∃ A c, Blk w g 265 (spX t core h A L.length c wh) ∧ Sl w w.heap.size 11 En.cl A L ∧ (∀ a, A = some a → a.block ≠ g)
theorem SpAt.bel {w w' : World} {g : Nat} {t : Txn} {core : ByteArray} {h : Int} {L : List En} {wh : Nat} (k : SpAt w g t core h L wh) (hb : Below w.heap.size w w') : SpAt w' g t core h L wh := by
  obtain ⟨A, c, h1, h2, h3⟩ := k.ex
  exact ⟨A, c, h1.bel hb, (h2.below hb).more hb.size, h3⟩
theorem SpAt.lt {w : World} {g : Nat} {t : Txn} {core : ByteArray} {h : Int} {L : List En} {wh : Nat} (k : SpAt w g t core h L wh) : g < w.heap.size := by
  obtain ⟨A, c, h1, _, _⟩ := k.ex
  exact h1.lt
theorem spent_snoc (T : List En) (l : List Inp) (k : Nat) (h : k < l.length) : ((l.take (k + 1)).map (entD T)).flatMap En.cl = ((l.take k).map (entD T)).flatMap En.cl ++ (entD T l[k]).cl := by
  rw [List.take_succ_eq_append_getElem h, List.map_append, List.flatMap_append]; simp
end Go.Proofs.YtjcinncphffgaaaGreat
