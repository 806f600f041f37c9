/- Plain words: products of 64 bits in halves, and division bit by bit. No program. num.Add, num.product, num.Mul. num.Sum. Plain words: division bit by bit. No program. -/
import Derived.Laws.BitsAllLaws
import Derived.Outline
import Derived.Test.YtdoebmikjgmnaaaGreatMgG00
import Derived.Test.YtdoebmikjgmnaaaGreatMgG01
set_option linter.unusedVariables false
set_option linter.unusedSimpArgs false
namespace Go.Proofs.YtdoebmikjgmnaaaGreat
theorem and_low (b : Int) (h0 : 0 ≤ b) (h1 : b < 18446744073709551616) : bits .and .u64 b 4294967295 = b % 4294967296 := by
  rw [u64_and b 4294967295 h0 h1 (by decide) (by decide)]
  have := Nat.and_two_pow_sub_one_eq_mod b.toNat 32
  rw [show (4294967295 : Int).toNat = 2 ^ 32 - 1 by decide, this]
  omega
theorem and_one (b : Int) (h0 : 0 ≤ b) (h1 : b < 18446744073709551616) : bits .and .u64 b 1 = b % 2 := by
  rw [u64_and b 1 h0 h1 (by decide) (by decide)]
  have := Nat.and_two_pow_sub_one_eq_mod b.toNat 1
  rw [show (1 : Int).toNat = 2 ^ 1 - 1 by decide, this]
  omega
theorem or_half (x y : Int) (h0 : 0 ≤ x) (h1 : x < 4294967296) (h2 : 0 ≤ y) (h3 : y < 4294967296) : bits .or .u64 (x * 4294967296) y = x * 4294967296 + y := by
  rw [u64_or _ y (by omega) (by omega) h2 (by omega)]
  have := Nat.shiftLeft_add_eq_or_of_lt (b := y.toNat) (i := 32) (by omega) x.toNat
  rw [Nat.shiftLeft_eq] at this
  rw [show (x * 4294967296).toNat = x.toNat * 2 ^ 32 by omega, ← this]
  omega
theorem or_bit (x y : Int) (h0 : 0 ≤ x) (h1 : x < 9223372036854775808) (h2 : 0 ≤ y) (h3 : y < 2) : bits .or .u64 (x * 2) y = x * 2 + y := by
  rw [u64_or _ y (by omega) (by omega) h2 (by omega)]
  have := Nat.shiftLeft_add_eq_or_of_lt (b := y.toNat) (i := 1) (by omega) x.toNat
  rw [Nat.shiftLeft_eq] at this
  rw [show (x * 2).toNat = x.toNat * 2 ^ 1 by omega, ← this]
  omega
theorem half_bd (x y : Int) (h0 : 0 ≤ x) (h1 : x ≤ 4294967295) (h2 : 0 ≤ y) (h3 : y ≤ 4294967295) : 0 ≤ x * y ∧ x * y ≤ 18446744065119617025 := by
  refine ⟨Int.mul_nonneg h0 h2, ?_⟩
  have := Int.mul_le_mul h1 h3 h2 (by decide)
  simpa using this
/-- the two halves of a product, as the program reckons them -/
def hiH (a b : Int) : Int := IntKind.u64.wrap
            (IntKind.u64.wrap
                  (IntKind.u64.wrap (a / 4294967296 * (b / 4294967296)) +
                    IntKind.u64.wrap
                        (IntKind.u64.wrap (a / 4294967296 * bits BinOp.and IntKind.u64 b 4294967295) +
                          IntKind.u64.wrap
                              (bits BinOp.and IntKind.u64 a 4294967295 * bits BinOp.and IntKind.u64 b 4294967295) /
                            4294967296) /
                      4294967296) +
                IntKind.u64.wrap
                    (IntKind.u64.wrap (bits BinOp.and IntKind.u64 a 4294967295 * (b / 4294967296)) +
                      bits BinOp.and IntKind.u64
                        (IntKind.u64.wrap
                          (IntKind.u64.wrap (a / 4294967296 * bits BinOp.and IntKind.u64 b 4294967295) +
                            IntKind.u64.wrap
                                (bits BinOp.and IntKind.u64 a 4294967295 * bits BinOp.and IntKind.u64 b 4294967295) /
                              4294967296))
                        4294967295) /
                  4294967296)
def loH (a b : Int) : Int := bits BinOp.or IntKind.u64
              (IntKind.u64.wrap
                (IntKind.u64.wrap
                    (IntKind.u64.wrap (bits BinOp.and IntKind.u64 a 4294967295 * (b / 4294967296)) +
                      bits BinOp.and IntKind.u64
                        (IntKind.u64.wrap
                          (IntKind.u64.wrap (a / 4294967296 * bits BinOp.and IntKind.u64 b 4294967295) +
                            IntKind.u64.wrap
                                (bits BinOp.and IntKind.u64 a 4294967295 * bits BinOp.and IntKind.u64 b 4294967295) /
                              4294967296))
                        4294967295) *
                  4294967296))
              (bits BinOp.and IntKind.u64
                (IntKind.u64.wrap (bits BinOp.and IntKind.u64 a 4294967295 * bits BinOp.and IntKind.u64 b 4294967295))
                4294967295)
theorem half_mul (a b : Int) : a * b = (a / 4294967296 * (b / 4294967296)) * 18446744073709551616 + (a / 4294967296 * (b % 4294967296) + a % 4294967296 * (b / 4294967296)) * 4294967296 + a % 4294967296 * (b % 4294967296) := by
  have ea : a = a / 4294967296 * 4294967296 + a % 4294967296 := by omega
  have eb : b = b / 4294967296 * 4294967296 + b % 4294967296 := by omega
  generalize a / 4294967296 = a1 at *
  generalize b / 4294967296 = b1 at *
  generalize a % 4294967296 = a0 at *
  generalize b % 4294967296 = b0 at *
  subst ea eb
  simp only [Int.add_mul, Int.mul_add]
  have e1 : a1 * 4294967296 * (b1 * 4294967296) = a1 * b1 * 18446744073709551616 := by
    rw [Int.mul_assoc, ← Int.mul_assoc 4294967296, Int.mul_comm 4294967296 b1, Int.mul_assoc b1, ← Int.mul_assoc a1]; rfl
  have e2 : a1 * 4294967296 * b0 = a1 * b0 * 4294967296 := by rw [Int.mul_assoc, Int.mul_comm 4294967296 b0, Int.mul_assoc]
  have e3 : a0 * (b1 * 4294967296) = a0 * b1 * 4294967296 := by rw [Int.mul_assoc]
  rw [e1, e2, e3]
  omega
theorem halves (a b : Int) (ha : 0 ≤ a) (hb : 0 ≤ b) (ha6 : a < 18446744073709551616) (hb6 : b < 18446744073709551616) : hiH a b = a * b / 18446744073709551616 ∧ loH a b = a * b % 18446744073709551616 := by
  unfold hiH loH
  rw [and_low a ha ha6, and_low b hb hb6, half_mul a b]
  have a0 : 0 ≤ a % 4294967296 ∧ a % 4294967296 ≤ 4294967295 := by omega
  have b0 : 0 ≤ b % 4294967296 ∧ b % 4294967296 ≤ 4294967295 := by omega
  have a1 : 0 ≤ a / 4294967296 ∧ a / 4294967296 ≤ 4294967295 := by omega
  have b1 : 0 ≤ b / 4294967296 ∧ b / 4294967296 ≤ 4294967295 := by omega
  obtain ⟨p0, p1⟩ := half_bd _ _ a1.1 a1.2 b1.1 b1.2
  obtain ⟨q0, q1⟩ := half_bd _ _ a1.1 a1.2 b0.1 b0.2
  obtain ⟨r0, r1⟩ := half_bd _ _ a0.1 a0.2 b1.1 b1.2
  obtain ⟨s0, s1⟩ := half_bd _ _ a0.1 a0.2 b0.1 b0.2
  generalize a / 4294967296 * (b / 4294967296) = P at *
  generalize a / 4294967296 * (b % 4294967296) = Q at *
  generalize a % 4294967296 * (b / 4294967296) = R at *
  generalize a % 4294967296 * (b % 4294967296) = S at *
  have w1 : IntKind.u64.wrap S = S := by rw [IntKind.wrap_u64]; omega
  have w2 : IntKind.u64.wrap Q = Q := by rw [IntKind.wrap_u64]; omega
  have w3 : IntKind.u64.wrap R = R := by rw [IntKind.wrap_u64]; omega
  have w4 : IntKind.u64.wrap P = P := by rw [IntKind.wrap_u64]; omega
  have w5 : IntKind.u64.wrap (Q + S / 4294967296) = Q + S / 4294967296 := by rw [IntKind.wrap_u64]; omega
  rw [w1, w2, w3, w4, w5, and_low (Q + S / 4294967296) (by omega) (by omega), and_low S (by omega) (by omega)]
  have w6 : IntKind.u64.wrap (R + (Q + S / 4294967296) % 4294967296) = R + (Q + S / 4294967296) % 4294967296 := by rw [IntKind.wrap_u64]; omega
  rw [w6]
  have w7 : IntKind.u64.wrap (P + (Q + S / 4294967296) / 4294967296) = P + (Q + S / 4294967296) / 4294967296 := by rw [IntKind.wrap_u64]; omega
  rw [w7]
  have w8 : IntKind.u64.wrap ((R + (Q + S / 4294967296) % 4294967296) * 4294967296) = ((R + (Q + S / 4294967296) % 4294967296) % 4294967296) * 4294967296 := by rw [IntKind.wrap_u64]; omega
  rw [w8, or_half _ _ (by omega) (by omega) (by omega) (by omega), IntKind.wrap_u64]
  constructor <;> omega
end Go.Proofs.YtdoebmikjgmnaaaGreat
namespace Go.Proofs.YtdoebmikjgmnaaaGreat
open Go.RowKit
def plusV (a b : Int) : Int := if a + b < 18446744073709551616 then a + b else 0
def plusE (a b : Int) : Int := if a + b < 18446744073709551616 then 0 else 2
def mulV (a b : Int) : Int := if a * b < 18446744073709551616 then a * b else 0
def mulE (a b : Int) : Int := if a * b < 18446744073709551616 then 0 else 2
set_option maxHeartbeats 1000000 in
theorem add_any (a b : Int) (w : World) (ha : 0 ≤ a) (hb : 0 ≤ b) (ha6 : a < 18446744073709551616) (hb6 : b < 18446744073709551616) :
    Calls Tryz.prog 84 #[.int .u64 a, .int .u64 b] w fun e w' => e = .returned (.tuple #[.int .u64 (plusV a b), .int .i64 (plusE a b)]) ∧ w' = w := by
  go_enter Tryz.func84, Tryz.ntmps84
  by_cases h : a + b < 18446744073709551616
  · have hw : IntKind.u64.wrap (a + b) = a + b := by rw [IntKind.wrap_u64]; omega
    have hd : decide (a + b < a) = false := decide_eq_false (by omega)
    go_wp2
    go_ret2
    exact ⟨ret_ii (by rw [plusV, if_pos h]) (by rw [plusE, if_pos h]), rfl⟩
  · have hw : IntKind.u64.wrap (a + b) = a + b - 18446744073709551616 := by rw [IntKind.wrap_u64]; omega
    have hd : decide (a + b - 18446744073709551616 < a) = true := decide_eq_true (by omega)
    go_wp2
    go_ret2
    exact ⟨ret_ii (by rw [plusV, if_neg (by omega)]) (by rw [plusE, if_neg (by omega)]), rfl⟩
set_option maxHeartbeats 1000000 in
theorem product_any (a b : Int) (w : World) (ha : 0 ≤ a) (hb : 0 ≤ b) (ha6 : a < 18446744073709551616) (hb6 : b < 18446744073709551616) :
    Calls Tryz.prog 143 #[.int .u64 a, .int .u64 b] w fun e w' => e = .returned (.tuple #[.int .u64 (a * b / 18446744073709551616), .int .u64 (a * b % 18446744073709551616)]) ∧ w' = w := by
  obtain ⟨h1, h2⟩ := halves a b ha hb ha6 hb6
  go_enter Tryz.func143, Tryz.ntmps143
  go_wp2
  go_ret2
  exact ⟨ret_ii h1 h2, rfl⟩
set_option maxHeartbeats 1000000 in
theorem mul_any (a b : Int) (w : World) (ha : 0 ≤ a) (hb : 0 ≤ b) (ha6 : a < 18446744073709551616) (hb6 : b < 18446744073709551616) :
    Calls Tryz.prog 123 #[.int .u64 a, .int .u64 b] w fun e w' => e = .returned (.tuple #[.int .u64 (mulV a b), .int .i64 (mulE a b)]) ∧ w' = w := by
  have hn : 0 ≤ a * b := Int.mul_nonneg ha hb
  have hc := product_any a b w ha hb ha6 hb6
  unfold mulV mulE
  generalize a * b = p at *
  go_enter Tryz.func123, Tryz.ntmps123
  go_wp2_with fail
  refine hc.mono ?_
  rintro e w1 ⟨rfl, rfl⟩
  by_cases h : p < 18446744073709551616
  · have hd : decide (0 < p / 18446744073709551616) = false := decide_eq_false (by omega)
    go_wp2
    go_ret2
    exact ⟨ret_ii (by omega) rfl, rfl⟩
  · have hd : decide (0 < p / 18446744073709551616) = true := decide_eq_true (by omega)
    go_wp2
    go_ret2
    exact ⟨rfl, rfl⟩
end Go.Proofs.YtdoebmikjgmnaaaGreat
namespace Go.Proofs.YtdoebmikjgmnaaaGreat
open Go.RowKit
def u64c (n : Int) : List Value := [.int .u64 n]
def totI : List Int → Int
  | [] => 0
  | a :: r => a + totI r
theorem totI_snoc : ∀ (l : List Int) (k : Nat) (h : k < l.length), totI (l.take (k + 1)) = totI (l.take k) + l[k]
  | a :: r, 0, _ => by simp [totI]
  | a :: r, k + 1, h => by
    simp only [List.take_succ_cons, totI, List.getElem_cons_succ]
    rw [totI_snoc r k (by simpa using h)]; omega
theorem totI_nonneg : ∀ (l : List Int), (∀ x ∈ l, 0 ≤ x) → 0 ≤ totI l
  | [], _ => by simp [totI]
  | a :: r, h => by
    have h1 := h a (by simp)
    have h2 := totI_nonneg r fun x hx => h x (by simp [hx])
    simp only [totI]; omega
theorem totI_le : ∀ (l : List Int) (k : Nat), (∀ x ∈ l, 0 ≤ x) → totI (l.take k) ≤ totI l
  | [], k, _ => by simp [totI]
  | a :: r, 0, h => by
    have := totI_nonneg _ h
    simpa [totI] using this
  | a :: r, k + 1, h => by
    have := totI_le r k fun x hx => h x (by simp [hx])
    simp only [List.take_succ_cons, totI]; omega
theorem totI_append : ∀ (l m : List Int), totI (l ++ m) = totI l + totI m
  | [], m => by simp [totI]
  | a :: r, m => by simp only [List.cons_append, totI, totI_append r m]; omega
def totV (l : List Int) : Int := if totI l < 18446744073709551616 then totI l else 0
def totE (l : List Int) : Int := if totI l < 18446744073709551616 then 0 else 2
set_option maxHeartbeats 1000000 in
theorem sum64_any (A : Option Addr) (l : List Int) (c : Nat) (w : World) (hl : l.length ≤ 1000000) (hb : ∀ x ∈ l, 0 ≤ x ∧ x < 18446744073709551616) (hs : Sl w w.heap.size 1 u64c A l) :
    Calls Tryz.prog 49 #[.slice A l.length c] w fun e w' => e = .returned (.tuple #[.int .u64 (totV l), .int .i64 (totE l)]) ∧ w' = w := by
  have hn : ∀ x ∈ l, 0 ≤ x := fun x hx => (hb x hx).1
  go_enter Tryz.func49, Tryz.ntmps49
  go_wp2
  go_loopw [4, 10] (fun s i wr => ∃ k : Nat, k ≤ l.length ∧ i = .int .i64 k ∧ s = .int .u64 (totI (l.take k)) ∧ totI (l.take k) < 18446744073709551616 ∧ wr = w) (fun _ i _ => l.length - (intOf i).toNat)
  case atStart => exact ⟨0, Nat.zero_le _, rfl, by simp [totI], by simp [totI], rfl⟩
  case round =>
    obtain ⟨k, hk, rfl, rfl, hlo, rfl⟩ := hrel
    have hge : 0 ≤ totI (l.take k) := totI_nonneg _ fun x hx => hn x (List.mem_of_mem_take hx)
    by_cases hlt : k < l.length
    · obtain ⟨b, off, rfl, hbB, hc⟩ := hs.at_ hlt
      obtain ⟨hx0, hx6⟩ := hb _ (List.getElem_mem hlt)
      have hsn := totI_snoc l k hlt
      have hle := totI_le l (k + 1) hn
      generalize hx : l[k] = x at hc hx0 hx6 hsn
      have hc0 : wr.cell? ⟨b, off + k, none⟩ = some (.int .u64 x) := by simpa using hc 0 _ rfl
      clear hc hx
      have HA := Lib.hid (add_any (totI (l.take k)) x wr hge hx0 hlo hx6)
      generalize hS : totI (l.take k) = S at *
      by_cases hf : S + x < 18446744073709551616
      · have eV : plusV S x = S + x := if_pos hf
        have eE : plusE S x = 0 := if_pos hf
        go_wp2_with fail
        refine HA.out.mono ?_
        rintro e w1 ⟨rfl, rfl⟩
        rw [eV, eE]
        go_wp2
        go_roundw
        case rel => exact ⟨k + 1, by omega, by go_num, by rw [hsn], by omega, by first | rfl | trivial⟩
        case measure => simp [intOf]; omega
      · have eE : plusE S x = 2 := if_neg hf
        have ht : ¬ totI l < 18446744073709551616 := by omega
        go_wp2_with fail
        refine HA.out.mono ?_
        rintro e w1 ⟨rfl, rfl⟩
        rw [eE]
        go_wp2
        go_ret2
        exact ⟨ret_ii (by rw [totV, if_neg (by omega)]) (by rw [totE, if_neg (by omega)]), rfl⟩
    · have hkl : k = l.length := by omega
      subst hkl
      rw [List.take_length] at *
      go_wp2
      go_ret2
      exact ⟨ret_ii (by rw [totV, if_pos hlo]) (by rw [totE, if_pos hlo]), rfl⟩
end Go.Proofs.YtdoebmikjgmnaaaGreat
namespace Go.Proofs.YtdoebmikjgmnaaaGreat
/-- the number whose first k bits of 64 were taken in -/
def nK (r lo : Nat) : Nat → Nat
  | 0 => r
  | k + 1 => 2 * nK r lo k + lo / 2 ^ (63 - k) % 2
theorem nK_eq (r lo : Nat) : ∀ k, k ≤ 64 → lo < 2 ^ 64 → nK r lo k = r * 2 ^ k + lo / 2 ^ (64 - k)
  | 0, _, hl => by simp [nK, Nat.div_eq_of_lt hl]
  | k + 1, h, hl => by
    have ih := nK_eq r lo k (by omega) hl
    have e : lo / 2 ^ (64 - k) = lo / 2 ^ (63 - k) / 2 := by
      rw [Nat.div_div_eq_div_mul, ← Nat.pow_succ, show 64 - k = (63 - k).succ by omega]
    rw [nK, ih, e, show 64 - (k + 1) = 63 - k by omega, Nat.pow_succ, ← Nat.mul_assoc]
    omega
theorem nK_lt (r lo c : Nat) (h : r < c) : ∀ k, nK r lo k < c * 2 ^ k
  | 0 => by simpa [nK] using h
  | k + 1 => by
    have ih := nK_lt r lo c h k
    rw [nK, Nat.pow_succ, ← Nat.mul_assoc]
    omega
theorem nK_q (r lo c k : Nat) (h : r < c) (hk : k ≤ 64) : nK r lo k / c < 18446744073709551617 ∧ (k < 64 → nK r lo k / c < 9223372036854775808) := by
  have h1 := nK_lt r lo c h k
  have h2 : nK r lo k / c < 2 ^ k := by
    rw [Nat.div_lt_iff_lt_mul (by omega), Nat.mul_comm]; exact h1
  have h3 : 2 ^ k ≤ 2 ^ 64 := Nat.pow_le_pow_right (by decide) hk
  refine ⟨by omega, fun hk => ?_⟩
  have h4 : 2 ^ k ≤ 2 ^ 63 := Nat.pow_le_pow_right (by decide) (by omega)
  omega
theorem nK_big (N c bit : Nat) (hc : 0 < c) (hb : bit < 2) (h : c ≤ 2 * (N % c) + bit) : (2 * N + bit) / c = 2 * (N / c) + 1 ∧ (2 * N + bit) % c = 2 * (N % c) + bit - c := by
  have hm := Nat.mod_lt N hc
  have hd := Nat.div_add_mod N c
  have e : 2 * N + bit = 2 * (N % c) + bit - c + c * (2 * (N / c) + 1) := by
    rw [Nat.mul_add, Nat.mul_left_comm]; omega
  rw [e, Nat.add_mul_div_left _ _ hc, Nat.add_mul_mod_self_left, Nat.div_eq_of_lt (by omega), Nat.mod_eq_of_lt (by omega)]
  omega
theorem nK_small (N c bit : Nat) (hc : 0 < c) (hb : bit < 2) (h : 2 * (N % c) + bit < c) : (2 * N + bit) / c = 2 * (N / c) ∧ (2 * N + bit) % c = 2 * (N % c) + bit := by
  have hd := Nat.div_add_mod N c
  have e : 2 * N + bit = 2 * (N % c) + bit + c * (2 * (N / c)) := by
    rw [Nat.mul_left_comm]; omega
  rw [e, Nat.add_mul_div_left _ _ hc, Nat.add_mul_mod_self_left, Nat.div_eq_of_lt (by omega), Nat.mod_eq_of_lt (by omega)]
  omega
end Go.Proofs.YtdoebmikjgmnaaaGreat
