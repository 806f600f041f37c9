/- ChannelShows: what a state shows is worth what it says. -/
import Derived.Test.YtpbcfeghfcodcaaGreatMgShP
set_option linter.unusedVariables false
set_option linter.unusedSimpArgs false
namespace Go.Proofs.YtpbcfeghfcodcaaGreat
open Go.RowKit Go.Maps
theorem fac_zero {t : Tm} {l : List Nat} {x : Wn} (h : facE t l x = 0) : x.t.ch = t.chan ∧ x.t.ser ∉ l ∧ wonE t.client x = 0 := by
  unfold facE at h
  by_cases h1 : x.t.ch ≠ t.chan
  · rw [if_pos h1] at h; exact absurd h (by decide)
  rw [if_neg h1] at h
  by_cases h2 : x.t.ser ∈ l
  · rw [if_pos h2] at h; exact absurd h (by decide)
  rw [if_neg h2] at h
  exact ⟨Decidable.not_not.1 h1, h2, h⟩
theorem won_may {c : ByteArray} {x : Wn} (h : wonE c x = 0) : tmayB x.t = true := by
  unfold wonE at h
  by_cases q : (tmayB x.t && winsOk x.drawn x.t.wins x.t.many) = true
  · exact (Bool.and_eq_true _ _ ▸ q).1
  · rw [if_neg q] at h; exact absurd h (by decide)
theorem sh_won {s : St} {mt : Nat} (h : ShI s mt) : ∀ x ∈ s.wins, wonE s.lock.o.key x = 0 := by
  intro x hx
  obtain ⟨i, hi, rfl⟩ := List.getElem_of_mem hx
  exact (fac_zero (h.wins i hi hi)).2.2
theorem sh_right {s : St} {mt : Nat} (h : ShI s mt) (h3 : s.wins.length ≤ 3) (B : Option Addr) (d : Nat) : rightB (s.pf B d) = true := by
  have e1 : s.wins.all wmayB = true := by
    rw [List.all_eq_true]
    intro x hx
    unfold wmayB
    rw [won_may (sh_won h x hx), Bool.true_and]
    exact decide_eq_true (h.salt x hx)
  have e2 : (decide (s.tok = ByteArray.empty) || decide (s.tok.size = 16)) = true := by
    rcases h.tok with ⟨h1, _⟩ | ⟨h1, _⟩
    · rw [decide_eq_true h1]; rfl
    · rw [decide_eq_true h1, Bool.or_true]
  show (s.wins.all wmayB && decide (s.sig.size ≤ 400) && (decide (s.tok = ByteArray.empty) || decide (s.tok.size = 16)) && decide (s.wins.length ≤ 3)) = true
  rw [e1, e2, decide_eq_true h.sig, decide_eq_true h3]
  rfl
theorem sh_paid {s : St} {mt : Nat} (h : ShI s mt) (B : Option Addr) (d : Nat) : paidB (s.tm mt) (s.pf B d) = true := by
  show (if 0 < s.am then verB s.lock.o.key (vouchB s.name s.am) s.sig else decide (s.sig = ByteArray.empty)) = true
  rcases h.paid with ⟨h1, h2⟩ | ⟨h1, h2⟩
  · rw [if_neg (by omega)]; exact decide_eq_true h2
  · rw [if_pos h1]; exact h2
theorem sh_tok {s : St} {mt : Nat} (h : ShI s mt) (B : Option Addr) (d : Nat) {z : Nat} {f : Int} (hz : TokX (s.tm mt) (s.pf B d) z f) : f = 0 ∧ (z : Int) = s.tokens * s.lock.o.unit := by
  have hs := h.sum
  have hp0 : (0 : Int) ≤ (s.tokens : Int) * s.lock.o.unit := Int.mul_nonneg (by omega) (by omega)
  have hm : (s.tokens : Int) * s.lock.o.unit < 18446744073709551616 := by omega
  rcases hz with ⟨h1, rfl, rfl⟩ | ⟨h1, h2, _⟩ | ⟨h1, n, b, hc, hv, hf⟩
  · rcases h.tok with ⟨_, h2⟩ | ⟨h2, _⟩
    · rw [h2]; exact ⟨rfl, by simp⟩
    · have : s.tok = ByteArray.empty := h1
      rw [this] at h2; exact absurd h2 (by decide)
  · rcases h.tok with ⟨h3, _⟩ | ⟨h3, _⟩
    · exact absurd h3 h2
    · exact absurd h3 h1
  · rcases h.tok with ⟨h3, _⟩ | ⟨_, h4, h5⟩
    · have : s.tok.size = 16 := h1
      rw [h3] at this; exact absurd this (by decide)
    · have hc' : CntP s.lock.o.anchor s.tok mt n b := hc
      have hq := cntGo_eq hc' mt 0 (by omega) (by omega)
      have h1' : s.tok.size = 16 := h1
      unfold cntE at h4
      unfold cntN at h5
      rw [if_pos h1', hq] at h4 h5
      cases b with
      | false => simp at h4
      | true =>
        have h6 : n = s.tokens := h5
        subst h6
        rw [if_pos rfl] at hv hf
        have hu : (s.tm mt).unit = s.lock.o.unit := rfl
        rw [hu] at hv hf
        unfold mulV at hv
        unfold mulE at hf
        rw [if_pos hm] at hv hf
        exact ⟨hf, hv⟩
theorem worth_sh {s : St} {mt : Nat} (h : ShI s mt) (hi : Inv s mt) (w : World) (hm : s.mem w) :
    Calls Tryz.prog 17 #[.agg (s.tm mt).cs, .agg (s.pf s.B s.d).cs] w fun e w' => e = .returned (.tuple #[.int .u64 (worthV s), .int .i64 0]) ∧ Below w.heap.size w w' := by
  have ht : (s.tm mt).ok := ⟨by show (nameO s.lock.tx s.lock.out).size ≤ 4096; rw [nameO_size]; decide, hi.good.an, hi.good.fit.lunit, hi.good.mt⟩
  have hl : (s.pf s.B s.d).l.length ≤ 1000 := Nat.le_trans hi.wins (by decide)
  refine (worth_any (s.tm mt) (s.pf s.B s.d) w ht hl h.fit hm.wins (Nat.le_trans h.sig (by decide)) hi.good.fit.am).mono ?_
  rintro e w' ⟨hb, v, f, rfl, hc⟩
  refine ⟨?_, hb⟩
  have hw := sum_worth h.sum
  have hs := h.sum
  have hp0 : (0 : Int) ≤ (s.tokens : Int) * s.lock.o.unit := Int.mul_nonneg (by omega) (by omega)
  rcases hc with ⟨h1, _⟩ | ⟨_, hc⟩
  · rw [sh_right h hi.wins] at h1; cases h1
  rcases hc with ⟨h1, _⟩ | ⟨_, hc⟩
  · rw [sh_paid h] at h1; cases h1
  rcases hc with ⟨z, hz, hf, _⟩ | ⟨z, hz, hc⟩
  · exact absurd (sh_tok h _ _ hz).1 hf
  have hzl := (sh_tok h _ _ hz).2
  rcases hc with ⟨⟨k, hk, _, hfe, hne⟩, _⟩ | ⟨_, hv, hf⟩
  · have hk' : k < s.wins.length := hk
    have := h.wins k hk' hk'
    exact absurd (hfe.trans this) hne
  · have e : totI (fcI s.wins ++ [(s.am : Int), (z : Int)]) = (s.am : Int) + s.tokens * s.lock.o.unit + s.faces := by
      rw [totI_append, h.faces, ← hzl]
      simp only [totI]
      omega
    have hv' : v = totV (fcI s.wins ++ [(s.am : Int), (z : Int)]) := hv
    have hf' : f = totE (fcI s.wins ++ [(s.am : Int), (z : Int)]) := hf
    unfold totV at hv'
    unfold totE at hf'
    rw [e] at hv' hf'
    rw [if_pos (by omega)] at hv' hf'
    rw [hv', hf', hw]
theorem sers_ne {s : St} {mt : Nat} (h : ShI s mt) {i k : Nat} (hi : i < s.wins.length) (hk : k < i) : ((s.wins[i].t.ser : Int) == (s.wins[k].t.ser : Int)) = false := by
  have hx := (fac_zero (h.wins i hi hi)).2.1
  have hkl : k < s.wins.length := by omega
  rw [beq_eq_false_iff_ne]
  intro he
  refine hx ?_
  unfold sers
  refine List.mem_map.2 ⟨s.wins[k], ?_, by omega⟩
  have hkt : k < (s.wins.take i).length := by rw [List.length_take]; omega
  have : (s.wins.take i)[k] = s.wins[k] := List.getElem_take
  rw [← this]
  exact List.getElem_mem hkt
end Go.Proofs.YtpbcfeghfcodcaaGreat
