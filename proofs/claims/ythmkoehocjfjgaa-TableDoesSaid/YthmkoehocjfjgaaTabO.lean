/- what a record that was written says, read; a table's records. -/
import Derived.Test.YthmkoehocjfjgaaTabN

namespace Go.Proofs.Ythmkoehocjfjgaa
open Go.RowKit Go.Maps Go.WideMaps Go.Sort Go.Shelf

theorem ba_app (a b : ByteArray) : (a ++ b).data.toList = a.data.toList ++ b.data.toList := by simp
theorem ba_ext_list (a : ByteArray) (i j : Nat) : (a.extract i j).data.toList = (a.data.toList.take j).drop i := by
  rw [ByteArray.data_extract, Array.toList_extract, List.extract_eq_take_drop, List.drop_take]
theorem ba_len (a : ByteArray) : a.data.toList.length = a.size := by simp
theorem byteI_app (a b : ByteArray) (i : Nat) (h : i < a.size) : byteI (a ++ b) i = byteI a i := by
  unfold byteI
  rw [ba_app, List.getD_eq_getElem?_getD, List.getElem?_append_left (by rw [ba_len]; exact h), ← List.getD_eq_getElem?_getD]
theorem byteI_num (z : Int) (zs : List Int) (h0 : 0 ≤ z) (h1 : z ≤ 255) : byteI (strOfNums (z :: zs)) 0 = z := by
  unfold byteI
  rw [strOfNums_data]
  simp only [List.map_cons, List.getD_cons_zero]
  have : (UInt8.ofNat z.toNat).toNat = z.toNat := by
    rw [UInt8.toNat_ofNat']; omega
  omega
theorem byteI_num1 (y z : Int) (zs : List Int) (h0 : 0 ≤ z) (h1 : z ≤ 255) : byteI (strOfNums (y :: z :: zs)) 1 = z := by
  unfold byteI
  rw [strOfNums_data]
  simp only [List.map_cons, List.getD_cons_succ, List.getD_cons_zero]
  have : (UInt8.ofNat z.toNat).toNat = z.toNat := by
    rw [UInt8.toNat_ofNat']; omega
  omega
theorem ext_app_right (a b : ByteArray) : (a ++ b).extract a.size (a ++ b).size = b := by
  refine ba_ext ?_
  rw [ba_ext_list, ba_app, List.take_of_length_le (by rw [List.length_append, ba_len, ba_len, ByteArray.size_append]; exact Nat.le_refl _)]
  exact List.drop_left' (ba_len a)
theorem ext_app_left (a b : ByteArray) : (a ++ b).extract 0 a.size = a := by
  refine ba_ext ?_
  rw [ba_ext_list, ba_app, List.drop_zero]
  exact List.take_left' (ba_len a)
theorem rBlob_blob {most : Int} {t r : ByteArray} (h1 : (t.size : Int) ≤ most) (h2 : t.size ≤ 4096) : rBlob most (blobB t ++ r) 0 = (t, r, 0) := by
  have hs : (blobB t ++ r).size = 2 + t.size + r.size := by rw [ByteArray.size_append, blobB_size]
  have hb0 : byteI (blobB t ++ r) 0 = (t.size : Int) / 256 := by
    rw [byteI_app _ _ _ (by rw [blobB_size]; omega), blobB, byteI_app _ _ _ (by rw [num2_size]; omega)]
    exact byteI_num _ _ (by omega) (by omega)
  have hb1 : byteI (blobB t ++ r) 1 = (t.size : Int) % 256 := by
    rw [byteI_app _ _ _ (by rw [blobB_size]; omega), blobB, byteI_app _ _ _ (by rw [num2_size]; omega)]
    exact byteI_num1 _ _ _ (by omega) (by omega)
  have hn : byteI (blobB t ++ r) 0 * 256 + byteI (blobB t ++ r) 1 = (t.size : Int) := by rw [hb0, hb1]; omega
  have hx : (blobB t ++ r).extract 2 (blobB t ++ r).size = t ++ r := by
    have e : blobB t ++ r = strOfNums [(t.size : Int) / 256, (t.size : Int) % 256] ++ (t ++ r) := by
      unfold blobB; rw [ByteArray.append_assoc]
    have := ext_app_right (strOfNums [(t.size : Int) / 256, (t.size : Int) % 256]) (t ++ r)
    rw [num2_size, ← e] at this
    exact this
  unfold rBlob
  rw [if_neg (by rw [hs]; omega), hn, hx, if_neg (by omega), if_neg (by rw [ByteArray.size_append]; omega), Int.toNat_natCast, ext_app_left, ext_app_right]
theorem recTo_two (kind : Int) (k v : ByteArray) : recTo kind [k, v] = strOfNums [kind] ++ (blobB k ++ (blobB v ++ ByteArray.empty)) := by
  refine ba_ext ?_
  show (((ByteArray.empty ++ strOfNums [kind]) ++ blobB k) ++ blobB v).data.toList = _
  simp only [ba_app]
  simp
theorem pRec_put {k v : ByteArray} (h : mayB k v = true) : pRec (putRecB k v) = (0, k, v, 80) := by
  obtain ⟨h1, h2, h3⟩ := mayB_bd h
  have e : putRecB k v = strOfNums [80] ++ (blobB k ++ (blobB v ++ ByteArray.empty)) := by rw [putRecB, if_pos h, recTo_two]
  have hk : byteI (putRecB k v) 0 = 80 := by rw [e, byteI_app _ _ _ (by rw [num1_size]; omega)]; exact byteI_num _ _ (by omega) (by omega)
  have hs : (putRecB k v).size ≠ 0 := by rw [e, ByteArray.size_append, num1_size]; omega
  have hx : (putRecB k v).extract 1 (putRecB k v).size = blobB k ++ (blobB v ++ ByteArray.empty) := by
    have := ext_app_right (strOfNums [80]) (blobB k ++ (blobB v ++ ByteArray.empty))
    rw [num1_size, ← e] at this
    exact this
  unfold pRec
  rw [if_neg hs, if_neg (by rw [hk]; decide), hx, hk, rBlob_blob (by omega) (by omega)]
  dsimp only
  rw [if_pos rfl, rBlob_blob (by omega) (by omega)]
  dsimp only
  have he : endE ByteArray.empty 0 = 0 := rfl
  rw [he, if_neg (by decide), if_neg (by omega)]
/-- the rows of a table may be -/
def May (T : List KV) : Prop := ∀ p ∈ T, mayB p.1 p.2 = true
theorem getT_lt {k : ByteArray} : ∀ {T : List KV}, (∀ p ∈ T, ltB (ky p) k.data.toList = true) → getT k T = none
  | [], _ => rfl
  | p :: r, h => by
    rw [getT, if_neg (fun e => by have := h p (by simp); rw [ky, e, ltB_irrefl] at this; cases this)]
    exact getT_lt (fun q hq => h q (List.mem_cons_of_mem _ hq))
theorem putT_end {k v : ByteArray} : ∀ {T : List KV}, (∀ p ∈ T, ltB (ky p) k.data.toList = true) → putT k v T = T ++ [(k, v)]
  | [], _ => rfl
  | p :: r, h => by
    have hp := h p (by simp)
    rw [putT, if_neg (by rw [ltB_asym hp]; decide), if_neg (fun e => by rw [ky, e, ltB_irrefl] at hp; cases hp), putT_end (fun q hq => h q (List.mem_cons_of_mem _ hq))]
    rfl
theorem putT_same {T : List KV} (hs : Srt T) : ∀ {i : Nat} (hi : i < T.length), putT (T[i]).1 (T[i]).2 T = T := by
  induction T with
  | nil => intro i hi; simp at hi
  | cons p r ih =>
    intro i hi
    cases i with
    | zero => simp [putT, ky, ltB_irrefl]
    | succ i =>
      have hi' : i < r.length := by simpa using hi
      have hl := hs.head _ (List.getElem_mem hi')
      simp only [List.getElem_cons_succ]
      rw [putT, if_neg (by show ¬ ltB (ky r[i]) (ky p) = true; rw [ltB_asym hl]; decide), if_neg (ltB_ne hl), ih hs.tail hi']
theorem take_lt {T : List KV} (hs : Srt T) {i : Nat} (hi : i < T.length) : ∀ p ∈ T.take i, ltB (ky p) (T[i]).1.data.toList = true := by
  intro p hp
  obtain ⟨j, hj⟩ := List.getElem?_of_mem hp
  have hjl := (List.getElem?_eq_some_iff.1 hj).1
  have hji : j < i := by rw [List.length_take] at hjl; omega
  rw [List.getElem?_take_of_lt hji, List.getElem?_eq_getElem (by omega)] at hj
  injection hj with hj
  rw [← hj]
  exact List.pairwise_iff_getElem.1 hs j i (by omega) hi hji
/-- what a new table has, the first time at record i, and the second time -/
def At2 (n : Nat) (i : Nat) (T : List KV) : List KV := if n = 0 then T.take i else T
theorem at2_step {m : Int} {T : List KV} (hg : Good m T) (hm : May T) (n : Nat) {i : Nat} (hi : i < T.length) :
    doE m (At2 n i T) (putRecB (T[i]).1 (T[i]).2) = 0 ∧ doT m (At2 n i T) (putRecB (T[i]).1 (T[i]).2) = At2 n (i + 1) T := by
  have hp := pRec_put (hm _ (List.getElem_mem hi))
  have hmi := hm _ (List.getElem_mem hi)
  obtain ⟨h1, h2, _⟩ := hg
  have e0 : putE m (T[i]).1 (T[i]).2 (At2 n i T) = 0 := by
    rw [putE, if_neg (by rw [hmi]; decide), if_neg]
    rintro ⟨h3, h4⟩
    unfold At2 at h3 h4
    by_cases hn : n = 0
    · rw [if_pos hn] at h4
      rw [List.length_take] at h4
      omega
    · rw [if_neg hn, getT_at h1 hi] at h3
      cases h3
  have e1 : putR m (T[i]).1 (T[i]).2 (At2 n i T) = At2 n (i + 1) T := by
    rw [putR_ok e0]
    unfold At2
    by_cases hn : n = 0
    · rw [if_pos hn, if_pos hn, putT_end (take_lt h1 hi), List.take_succ_eq_append_getElem hi]
    · rw [if_neg hn, if_neg hn]; exact putT_same h1 hi
  constructor
  · rw [doE, hp]
    rw [if_neg (fun h => h rfl)]
    show (if (80 : Int) = 80 then putE m (T[i]).1 (T[i]).2 (At2 n i T) else _) = 0
    rw [if_pos rfl]; exact e0
  · rw [doT, hp]
    rw [if_neg (fun h => h rfl)]
    show (if (80 : Int) = 80 then putR m (T[i]).1 (T[i]).2 (At2 n i T) else _) = _
    rw [if_pos rfl]; exact e1
theorem May.del {T : List KV} (h : May T) (k : ByteArray) : May (delT k T) := fun p hp => h p (List.mem_filter.1 hp).1
theorem May.put {m : Int} {T : List KV} (h : May T) (k v : ByteArray) : May (putR m k v T) := by
  unfold putR
  split
  · next he =>
    intro p hp
    rcases putT_mem hp with rfl | hp
    · unfold putE at he
      split at he
      · cases he
      · next hm => simpa using hm
    · exact h p hp
  · exact h
end Go.Proofs.Ythmkoehocjfjgaa
