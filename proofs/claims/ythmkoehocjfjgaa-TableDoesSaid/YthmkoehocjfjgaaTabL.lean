/- the fixed calls of the laws on tables. -/
import Derived.Test.YthmkoehocjfjgaaTabK

namespace Go.Proofs.Ythmkoehocjfjgaa
open Go.RowKit Go.Maps Go.WideMaps Go.Sort Go.Shelf

theorem sl_blk {α : Type} {w : World} {g k : Nat} {t : TypeId} {enc : α → List Value} (hk : ∀ x, (enc x).length = k) {cs : Array Value} {l : List α} (h : Blk w g t cs) (hl : cs.toList = l.flatMap enc) : Sl w w.heap.size k enc (some ⟨g, 0, none⟩) l := fun _ =>
  ⟨g, 0, rfl, h.lt, fun i x hx j u hu => by
    have h1 := flatMap_get enc k hk l i j x u hx hu
    rw [← hl] at h1
    rw [h.cell, ← Array.getElem?_toList, Nat.zero_add]; exact h1⟩
section
variable (tb mb : Nat) (T T' : List KV) (k v s : ByteArray) (z : Int) (w : World)
theorem put_c (hk : k.size ≤ maxLen) (hv : v.size ≤ maxLen) (hT : T.length ≤ 1000) (hs : Srt T) (h : TabAt w tb mb 2 T) (hz : putE 2 k v T = z) (hT' : putR 2 k v T = T') :
    Calls Try.prog 14 #[.pointer (some ⟨tb, 0, none⟩), .string k, .string v] w fun e w' => e = .returned (.int .i64 z) ∧ TabAt w' tb mb 2 T' ∧ Ch [mb] w w' := by
  have := put_any tb mb 2 T k v w hk hv hT hs h; rwa [hz, hT'] at this
theorem do_c (hs : s.size ≤ maxLen) (hT : T.length ≤ 1000) (hsrt : Srt T) (h : TabAt w tb mb 2 T) (hz : doE 2 T s = z) (hT' : doT 2 T s = T') :
    Calls Try.prog 15 #[.pointer (some ⟨tb, 0, none⟩), .string s] w fun e w' => e = .returned (.int .i64 z) ∧ TabAt w' tb mb 2 T' ∧ Ch [mb] w w' := by
  have h1 := do_any tb mb 2 T s w hs hT hsrt h
  unfold DoAt at h1
  rwa [hz, hT'] at h1
theorem get_c (hk : k.size ≤ maxLen) (h : TabAt w tb mb 2 T) (hg : (getT k T).getD ByteArray.empty = v) (hz : delE k T = z) :
    Calls Try.prog 22 #[.pointer (some ⟨tb, 0, none⟩), .string k] w fun e w' => e = .returned (.tuple #[.string v, .int .i64 z]) ∧ w = w' := by
  have := get_any tb mb 2 T k w hk h; rwa [hg, hz] at this
end
theorem trows_c (tb mb : Nat) (most : Int) (T R : List KV) (f : ByteArray) (w : World) (hT : T.length ≤ 1000) (hs : Srt T) (hok : ∀ p ∈ T, p.1.size ≤ maxLen) (h : TabAt w tb mb most T) (hR : rowsFrom f T = R) :
    Calls Try.prog 19 #[.pointer (some ⟨tb, 0, none⟩), .string f] w fun e w' => ∃ A c, e = .returned (.slice A R.length c) ∧ w'.ownsRow w.heap.size 46 2 (.slice A R.length c) R.length (R.flatMap rowC) ∧ Below w.heap.size w w' := by
  refine (trows_any tb mb most T f w hT hs hok h).mono ?_
  rw [hR]
  rintro e w' ⟨v, rfl, ho, hb⟩
  obtain ⟨A, c, rfl⟩ := own_form ho
  exact ⟨A, c, rfl, ho, hb⟩
theorem own_ch {w w' : World} {S : List Nat} {base k n : Nat} {e : TypeId} {v : Value} {xs : List Value} (h : w.ownsRow base e k v n xs) (hc : Ch S w w') (hn : ∀ b ∈ S, b < base) : w'.ownsRow base e k v n xs :=
  Ch.owns hc h (fun b hb hm => by have h1 := (h.lt b hb).1; have h2 := hn b hm; omega)
theorem same_c (A B : Option Addr) (l r : List KV) (c d : Nat) (w : World) (hlr : l = r) (hl : l.length ≤ 4096) (hsl : Sl w w.heap.size 2 rowC A l) (hsr : Sl w w.heap.size 2 rowC B r) :
    Calls Try.prog 17 #[.slice A l.length c, .slice B l.length d] w fun e w' => e = .returned (.bool true) ∧ Below w.heap.size w w' := by
  have h := same_eq A B l r c d w (by rw [hlr]) hl hsl hsr
  rw [decide_eq_true hlr] at h
  refine h.mono ?_
  rintro e w' ⟨rfl, n, rfl⟩
  exact ⟨rfl, (Ch.drewN [] w n).below (Nat.le_refl _) (by simp)⟩
theorem delRec_c (k q : ByteArray) (w : World) (hk : k.size ≤ maxLen) (hq : delRecB k = q) : Calls Try.prog 11 #[.string k] w fun e w' => e = .returned (.string q) ∧ Below w.heap.size w w' := by
  have := delRec_any k w hk; rwa [hq] at this
theorem putRec_c (k v q : ByteArray) (w : World) (hk : k.size ≤ maxLen) (hv : v.size ≤ maxLen) (hq : putRecB k v = q) : Calls Try.prog 10 #[.string k, .string v] w fun e w' => e = .returned (.string q) ∧ Below w.heap.size w w' := by
  have := putRec_any k v w hk hv; rwa [hq] at this
set_option maxRecDepth 100000 in
set_option maxHeartbeats 4000000 in
theorem fixed_any (w : World) : Calls Try.prog 20 #[] w fun e w' => e = .returned (.bool true) ∧ Below w.heap.size w w' := by
  go_enter Try.func20, Try.ntmps20
  go_wp2_with fail
  refine (new_ok 2 _ (by omega) (by omega)).mono ?_
  rintro e w1 ⟨tb, mb, rfl, ht, htb, hmb, hb1⟩
  have H1 := Lib.hid ht
  have B1 := Lib.hid hb1
  clear ht hb1
  go_wp2_with fail
  refine (new_no 0 _ (by omega)).mono ?_
  rintro e w' ⟨rfl, rfl⟩
  go_wp2_with fail
  refine (put_c tb mb [] [(⟨#[98]⟩, ⟨#[49]⟩)] ⟨#[98]⟩ ⟨#[49]⟩ 0 _ (by decide) (by decide) (by decide) (by unfold Srt; decide) H1.out (by decide +kernel) (by decide +kernel)).mono ?_
  rintro e w2 ⟨rfl, ht, hc⟩
  have H2 := Lib.hid ht
  have B2 := Lib.hid (B1.out.trans (hc.below B1.out.size (by simp; omega)))
  clear ht hc
  go_wp2_with fail
  refine (put_c tb mb [(⟨#[98]⟩, ⟨#[49]⟩)] [(⟨#[97]⟩, ⟨#[50]⟩), (⟨#[98]⟩, ⟨#[49]⟩)] ⟨#[97]⟩ ⟨#[50]⟩ 0 _ (by decide) (by decide) (by decide) (by unfold Srt; decide) H2.out (by decide +kernel) (by decide +kernel)).mono ?_
  rintro e w3 ⟨rfl, ht, hc⟩
  have H3 := Lib.hid ht
  have B3 := Lib.hid (B2.out.trans (hc.below B2.out.size (by simp; omega)))
  clear ht hc
  go_wp2_with fail
  refine (put_c tb mb [(⟨#[97]⟩, ⟨#[50]⟩), (⟨#[98]⟩, ⟨#[49]⟩)] [(⟨#[97]⟩, ⟨#[50]⟩), (⟨#[98]⟩, ⟨#[49]⟩)] ⟨#[99]⟩ ⟨#[51]⟩ 9 _ (by decide) (by decide) (by decide) (by unfold Srt; decide) H3.out (by decide +kernel) (by decide +kernel)).mono ?_
  rintro e w4 ⟨rfl, ht, hc⟩
  have H4 := Lib.hid ht
  have B4 := Lib.hid (B3.out.trans (hc.below B3.out.size (by simp; omega)))
  clear ht hc
  go_wp2_with fail
  refine (put_c tb mb [(⟨#[97]⟩, ⟨#[50]⟩), (⟨#[98]⟩, ⟨#[49]⟩)] [(⟨#[97]⟩, ⟨#[52]⟩), (⟨#[98]⟩, ⟨#[49]⟩)] ⟨#[97]⟩ ⟨#[52]⟩ 0 _ (by decide) (by decide) (by decide) (by unfold Srt; decide) H4.out (by decide +kernel) (by decide +kernel)).mono ?_
  rintro e w5 ⟨rfl, ht, hc⟩
  have H5 := Lib.hid ht
  have B5 := Lib.hid (B4.out.trans (hc.below B4.out.size (by simp; omega)))
  clear ht hc
  go_wp2_with fail
  refine (put_c tb mb [(⟨#[97]⟩, ⟨#[52]⟩), (⟨#[98]⟩, ⟨#[49]⟩)] [(⟨#[97]⟩, ⟨#[52]⟩), (⟨#[98]⟩, ⟨#[49]⟩)] ⟨#[]⟩ ⟨#[120]⟩ 1 _ (by decide) (by decide) (by decide) (by unfold Srt; decide) H5.out (by decide +kernel) (by decide +kernel)).mono ?_
  rintro e w6 ⟨rfl, ht, hc⟩
  have H6 := Lib.hid ht
  have B6 := Lib.hid (B5.out.trans (hc.below B5.out.size (by simp; omega)))
  clear ht hc
  go_wp2_with fail
  refine (get_c tb mb [(⟨#[97]⟩, ⟨#[52]⟩), (⟨#[98]⟩, ⟨#[49]⟩)] ⟨#[97]⟩ ⟨#[52]⟩ 0 _ (by decide) H6.out (by decide +kernel) (by decide +kernel)).mono ?_
  rintro e w' ⟨rfl, rfl⟩
  go_wp2_with fail
  refine (get_c tb mb [(⟨#[97]⟩, ⟨#[52]⟩), (⟨#[98]⟩, ⟨#[49]⟩)] ⟨#[99]⟩ ByteArray.empty 6 _ (by decide) H6.out (by decide +kernel) (by decide +kernel)).mono ?_
  rintro e w' ⟨rfl, rfl⟩
  go_wp2_with fail
  refine (trows_c tb mb 2 [(⟨#[97]⟩, ⟨#[52]⟩), (⟨#[98]⟩, ⟨#[49]⟩)] [(⟨#[97]⟩, ⟨#[52]⟩), (⟨#[98]⟩, ⟨#[49]⟩)] ⟨#[]⟩ _ (by decide) (by unfold Srt; decide) (by decide) H6.out (by decide +kernel)).mono ?_
  rintro e w7 ⟨A7, c7, rfl, hs7, hb7⟩
  have hz7 := hb7.size
  have hz6 := B6.out.size
  have hmb6 := H6.out.2.lt
  have H7 := Lib.hid (H6.out.ch (Ch.of_below hb7 []) (by simp) (by simp))
  have S7 := Lib.hid hs7
  have B7 := Lib.hid (B6.out.trans (hb7.mono hz6))
  clear hs7 hb7
  go_wp2_with fail
  refine (delRec_c ⟨#[97]⟩ ⟨#[68, 0, 1, 97]⟩ _ (by decide) (by decide +kernel)).mono ?_
  rintro e w8 ⟨rfl, hb⟩
  have hz8 := hb.size
  have H8 := Lib.hid (H7.out.ch (Ch.of_below hb []) (by simp) (by simp))
  have S8 := Lib.hid (own_ch S7.out (Ch.of_below hb []) (by simp))
  have B8 := Lib.hid (B7.out.trans (hb.mono B7.out.size))
  clear hb
  go_wp2_with fail
  refine (do_c tb mb [(⟨#[97]⟩, ⟨#[52]⟩), (⟨#[98]⟩, ⟨#[49]⟩)] [(⟨#[98]⟩, ⟨#[49]⟩)] ⟨#[68, 0, 1, 97]⟩ 0 _ (by decide) (by decide) (by unfold Srt; decide) H8.out (by decide +kernel) (by decide +kernel)).mono ?_
  rintro e w9 ⟨rfl, ht, hc⟩
  have hz9 := hc.size
  have H9 := Lib.hid ht
  have S9 := Lib.hid (own_ch S8.out hc (by simp; exact hmb6))
  have B9 := Lib.hid (B8.out.trans (hc.below B8.out.size (by simp; omega)))
  clear ht hc
  go_wp2_with fail
  refine (delRec_c ⟨#[97]⟩ ⟨#[68, 0, 1, 97]⟩ _ (by decide) (by decide +kernel)).mono ?_
  rintro e w10 ⟨rfl, hb⟩
  have hz10 := hb.size
  have H10 := Lib.hid (H9.out.ch (Ch.of_below hb []) (by simp) (by simp))
  have S10 := Lib.hid (own_ch S9.out (Ch.of_below hb []) (by simp))
  have B10 := Lib.hid (B9.out.trans (hb.mono B9.out.size))
  clear hb
  go_wp2_with fail
  refine (do_c tb mb [(⟨#[98]⟩, ⟨#[49]⟩)] [(⟨#[98]⟩, ⟨#[49]⟩)] ⟨#[68, 0, 1, 97]⟩ 6 _ (by decide) (by decide) (by unfold Srt; decide) H10.out (by decide +kernel) (by decide +kernel)).mono ?_
  rintro e w11 ⟨rfl, ht, hc⟩
  have hz11 := hc.size
  have H11 := Lib.hid ht
  have S11 := Lib.hid (own_ch S10.out hc (by simp; exact hmb6))
  have B11 := Lib.hid (B10.out.trans (hc.below B10.out.size (by simp; omega)))
  clear ht hc
  go_wp2_with fail
  refine (do_c tb mb [(⟨#[98]⟩, ⟨#[49]⟩)] [(⟨#[98]⟩, ⟨#[49]⟩)] ⟨#[]⟩ 3 _ (by decide) (by decide) (by unfold Srt; decide) H11.out (by decide +kernel) (by decide +kernel)).mono ?_
  rintro e w12 ⟨rfl, ht, hc⟩
  have hz12 := hc.size
  have H12 := Lib.hid ht
  have S12 := Lib.hid (own_ch S11.out hc (by simp; exact hmb6))
  have B12 := Lib.hid (B11.out.trans (hc.below B11.out.size (by simp; omega)))
  clear ht hc
  go_wp2_with fail
  refine (do_c tb mb [(⟨#[98]⟩, ⟨#[49]⟩)] [(⟨#[98]⟩, ⟨#[49]⟩)] ⟨#[88]⟩ 4 _ (by decide) (by decide) (by unfold Srt; decide) H12.out (by decide +kernel) (by decide +kernel)).mono ?_
  rintro e w13 ⟨rfl, ht, hc⟩
  have hz13 := hc.size
  have H13 := Lib.hid ht
  have S13 := Lib.hid (own_ch S12.out hc (by simp; exact hmb6))
  have B13 := Lib.hid (B12.out.trans (hc.below B12.out.size (by simp; omega)))
  clear ht hc
  go_wp2_with fail
  refine (putRec_c ⟨#[122]⟩ ⟨#[53]⟩ ⟨#[80, 0, 1, 122, 0, 1, 53]⟩ _ (by decide) (by decide) (by decide +kernel)).mono ?_
  rintro e w14 ⟨rfl, hb⟩
  have hz14 := hb.size
  have H14 := Lib.hid (H13.out.ch (Ch.of_below hb []) (by simp) (by simp))
  have S14 := Lib.hid (own_ch S13.out (Ch.of_below hb []) (by simp))
  have B14 := Lib.hid (B13.out.trans (hb.mono B13.out.size))
  clear hb
  go_wp2_with fail
  refine (do_c tb mb [(⟨#[98]⟩, ⟨#[49]⟩)] [(⟨#[98]⟩, ⟨#[49]⟩)] (ByteArray.mk #[80, 0, 1, 122, 0, 1, 53] ++ ByteArray.mk #[120]) 4 _ (by decide +kernel) (by decide) (by unfold Srt; decide) H14.out (by decide +kernel) (by decide +kernel)).mono ?_
  rintro e w15 ⟨rfl, ht, hc⟩
  have hz15 := hc.size
  have H15 := Lib.hid ht
  have S15 := Lib.hid (own_ch S14.out hc (by simp; exact hmb6))
  have B15 := Lib.hid (B14.out.trans (hc.below B14.out.size (by simp; omega)))
  clear ht hc
  go_wp2_with fail
  refine (rows_any A7 [(⟨#[97]⟩, ⟨#[52]⟩), (⟨#[98]⟩, ⟨#[49]⟩)] c7 _ (by decide) (Sl.of_own rowC_len S15.out)).mono ?_
  rintro e w16 ⟨v16, rfl, ho, hb⟩
  obtain ⟨A16, c16, rfl⟩ := own_form ho
  have hz16 := hb.size
  have H16 := Lib.hid (H15.out.ch (Ch.of_below hb []) (by simp) (by simp))
  have S16 := Lib.hid (Sl.of_own rowC_len ho)
  have B16 := Lib.hid (B15.out.trans (hb.mono B15.out.size))
  clear ho hb
  go_wp2_with fail
  refine (same_c A16 (some ⟨w16.heap.size, 0, none⟩) [(⟨#[97]⟩, ⟨#[52]⟩), (⟨#[98]⟩, ⟨#[49]⟩)] [(⟨#[97]⟩, ⟨#[52]⟩), (⟨#[98]⟩, ⟨#[49]⟩)] c16 2 _ rfl (by decide) ((S16.out.alloc (Nat.le_refl _) _).more (by simp)) (sl_blk rowC_len (Blk.new w16 _ _) rfl)).mono ?_
  rintro e w17 ⟨rfl, hb⟩
  have B17 := Lib.hid ((B16.out.alloc B16.out.size _).trans (hb.mono (by have := B16.out.size; simp; omega)))
  have H17 := Lib.hid ((H16.out.ch (Ch.alloc [] _ _) (by simp) (by simp)).ch (Ch.of_below hb []) (by simp) (by simp))
  clear hb
  go_wp2_with fail
  refine (len_any tb mb 2 [(⟨#[98]⟩, ⟨#[49]⟩)] _ H17.out).mono ?_
  rintro e w' ⟨rfl, rfl⟩
  go_wp2_with fail
  refine (putRec_c ⟨#[107]⟩ ⟨#[118]⟩ ⟨#[80, 0, 1, 107, 0, 1, 118]⟩ _ (by decide) (by decide) (by decide +kernel)).mono ?_
  rintro e w18 ⟨rfl, hb⟩
  have H18 := Lib.hid (H17.out.ch (Ch.of_below hb []) (by simp) (by simp))
  have B18 := Lib.hid (B17.out.trans (hb.mono B17.out.size))
  clear hb
  go_wp2_with fail
  refine (delRec_c ⟨#[107]⟩ ⟨#[68, 0, 1, 107]⟩ _ (by decide) (by decide +kernel)).mono ?_
  rintro e w19 ⟨rfl, hb⟩
  have H19 := Lib.hid (H18.out.ch (Ch.of_below hb []) (by simp) (by simp))
  have B19 := Lib.hid (B18.out.trans (hb.mono B18.out.size))
  clear hb
  go_wp2_with fail
  refine (delRec_c ⟨#[]⟩ ⟨#[]⟩ _ (by decide) (by decide +kernel)).mono ?_
  rintro e w20 ⟨rfl, hb⟩
  have H20 := Lib.hid (H19.out.ch (Ch.of_below hb []) (by simp) (by simp))
  have B20 := Lib.hid (B19.out.trans (hb.mono B19.out.size))
  clear hb
  go_wp2_with fail
  go_ret
  exact ⟨rfl, B20.out⟩
end Go.Proofs.Ythmkoehocjfjgaa
