/- table.Copy. -/
import Derived.Test.YthmkoehocjfjgaaShelfC
import Derived.Test.YthmkoehocjfjgaaTabX

import Derived.Deep.RegionHeld3
import Derived.Lib.OwnKind
namespace Go.Proofs.Ythmkoehocjfjgaa
open Go.RowKit Go.Maps Go.WideMaps Go.Shelf

theorem clone_any (mb : Nat) (T : List KV) (w : World) (h : Mp w mb T) :
    Calls Try.prog 47 #[.map (some mb)] w fun e w' => e = .returned (.map (some w.heap.size)) ∧ Mp w' w.heap.size T ∧ Below w.heap.size w w' :=
  (AnyW.maps_Clone_owns Try.cloneM 9 elS mb T.length (dm T) w h).mono fun _ _ ⟨he, h1, _, h3⟩ => ⟨he, h1, h3⟩
set_option maxRecDepth 100000 in
set_option maxHeartbeats 1000000 in
theorem copy_any (tb mb : Nat) (most : Int) (T : List KV) (w : World) (h : TabAt w tb mb most T) :
    Calls Try.prog 29 #[.pointer (some ⟨tb, 0, none⟩)] w fun e w' => ∃ tb' mb', e = .returned (.pointer (some ⟨tb', 0, none⟩)) ∧ TabAt w' tb' mb' most T ∧ w.heap.size ≤ tb' ∧ w.heap.size ≤ mb' ∧ Below w.heap.size w w' := by
  have c0 : w.cell? ⟨tb, 0, none⟩ = some (.map (some mb)) := h.1.cell 0
  have c1 : w.cell? ⟨tb, 1, none⟩ = some (.int .i64 most) := h.1.cell 1
  have HM := Lib.hid h.2
  have HB := Lib.hid h.1
  clear h
  go_enter Try.func29, Try.ntmps29
  have hlt := HB.out.lt
  go_wp2_with fail
  go_region_held3 (fun w' => w'.cell? ⟨tb, 0, none⟩ = some (.map (some mb)) ∧ w'.cell? ⟨tb, 1, none⟩ = some (.int .i64 most))
    (first
      | go_keep
      | (go_split_ands
         refine ⟨?_, ?_⟩
         · (rw [hX.cell (by simp <;> omega)]; assumption)
         · (rw [hX.cell (by simp <;> omega)]; assumption)))
    ((go_at_call 47; refine (clone_any mb T _ (by exact HM.out)).mono ?_; rintro e w1 ⟨rfl, hm, hX⟩; have HM1 := Lib.hid hm; have HX1 := Lib.hid hX; clear hm))
  have hz := HX1.out.size
  simp at hz
  go_wp2_with fail
  go_ret
  exact ⟨w1.heap.size, w.heap.size, rfl, ⟨Blk.new _ _ _, HM1.out.ch (Ch.alloc [] _ _) (by simp)⟩, hz, Nat.le_refl _, ((Below.refl _ w).drew.trans (HX1.out.mono (by simp))).alloc hz _⟩
/- the two tables side by side -/
theorem RT.ch_map {w w' : World} {tr mb : Nat} {most : Int} {T T' : List KV} (h : RT w tr most T) (hm : Mp w mb T') (hc : Ch [mb] w w') : RT w' tr most T := by
  obtain ⟨A, c, hb, ho⟩ := h
  refine ⟨A, c, Blk.ch hb hc (by have := hm.ne_blk hb; simp; omega), Ch.owns hc ho (fun b hb' hmem => ?_)⟩
  simp at hmem
  subst hmem
  obtain ⟨cs, fz, hk⟩ := Lib.ownsRow_kind ho b hb'
  obtain ⟨es, clock, he, _⟩ := hm
  rw [he] at hk
  cases hk
theorem TabAt.ne_tr {w : World} {tb mb tr : Nat} {m m' : Int} {T T' : List KV} (h : TabAt w tb mb m T) (hr : RT w tr m' T') : tb ≠ tr ∧ mb ≠ tr := by
  obtain ⟨A, c, hb, _⟩ := hr
  exact ⟨Blk.ne_ h.1 hb (by decide), h.2.ne_blk hb⟩
structure DS (B : Nat) (w : World) (x : Nat) (vx : Array Value) (tb mb tr : Nat) (m : Int) (T1 T2 : List KV) (W : World) : Prop where
  a : TabAt W tb mb m T1
  r : RT W tr m T2
  x : Blk W x 23 vx
  bl : Below B w W
section
variable {B : Nat} {w W W' : World} {x tb mb tr : Nat} {vx : Array Value} {m : Int} {T1 T2 T' : List KV}
theorem DS.bel (h : DS B w x vx tb mb tr m T1 T2 W) (hB : B ≤ w.heap.size) (hb : Below W.heap.size W W') : DS B w x vx tb mb tr m T1 T2 W' :=
  ⟨h.a.ch (Ch.of_below hb []) (by simp) (by simp), h.r.ch0 (Ch.of_below hb []), Blk.bel h.x hb, h.bl.trans (hb.mono (by have := h.bl.size; omega))⟩
theorem DS.pa (h : DS B w x vx tb mb tr m T1 T2 W) (hB : B ≤ w.heap.size) (hmb : B ≤ mb) (ht : TabAt W' tb mb m T') (hc : Ch [mb] W W') : DS B w x vx tb mb tr m T' T2 W' :=
  ⟨ht, h.r.ch_map h.a.2 hc, Blk.ch h.x hc (by have := h.a.2.ne_blk h.x; simp; omega), h.bl.trans (hc.below (by have := h.bl.size; omega) (by simp; omega))⟩
theorem DS.pr (h : DS B w x vx tb mb tr m T1 T2 W) (hB : B ≤ w.heap.size) (htr : B ≤ tr) (ht : RT W' tr m T') (hc : Ch [tr] W W') : DS B w x vx tb mb tr m T1 T' W' := by
  obtain ⟨n1, n2⟩ := h.a.ne_tr h.r
  refine ⟨h.a.ch hc (by simp; omega) (by simp; omega), ht, Blk.ch h.x hc ?_, h.bl.trans (hc.below (by have := h.bl.size; omega) (by simp; omega))⟩
  obtain ⟨A, c, hb, _⟩ := h.r
  have := Blk.ne_ hb h.x (by decide)
  simp; omega
end
structure DT (B : Nat) (w : World) (x : Nat) (vx : Array Value) (tb mb tr : Nat) (m : Int) (T : List KV) (Ar : Option Addr) (cr : Nat) (W : World) : Prop where
  d : DS B w x vx tb mb tr m T T W
  k : Blk W tr 57 #[.slice Ar T.length cr, .int .i64 m]
  s : Sl W W.heap.size 2 rowC Ar T
theorem DT.bel {B : Nat} {w W W' : World} {x tb mb tr : Nat} {vx : Array Value} {m : Int} {T : List KV} {Ar : Option Addr} {cr : Nat} (h : DT B w x vx tb mb tr m T Ar cr W) (hB : B ≤ w.heap.size) (hb : Below W.heap.size W W') : DT B w x vx tb mb tr m T Ar cr W' :=
  ⟨h.d.bel hB hb, Blk.bel h.k hb, (h.s.below hb).more hb.size⟩
theorem Good.okT {m : Int} {T : List KV} (h : Good m T) (hm : m ≤ 1000) : okT T := ⟨by have := h.2.1; omega, fun p hp => by have := h.2.2 p hp; unfold maxLen; omega⟩
theorem Good.doT {m : Int} {T : List KV} (h : Good m T) (s : ByteArray) : Good m (doT m T s) := by
  unfold Go.Proofs.Ythmkoehocjfjgaa.doT
  split
  · exact h
  · split
    · exact h.put _ _
    · exact h.del _
theorem rget_v (tr : Nat) (m : Int) (T : List KV) (k v : ByteArray) (z : Int) (w : World) (hk : k.size ≤ maxLen) (hT : okT T) (hs : Srt T) (h : RT w tr m T) (hv : (getT k T).getD ByteArray.empty = v) (hz : delE k T = z) :
    Calls Try.prog 31 #[.pointer (some ⟨tr, 0, none⟩), .string k] w fun e w' => e = .returned (.tuple #[.string v, .int .i64 z]) ∧ ∃ n, w' = w.drewN n := by
  have := rget_any tr m T k w hk hT hs h
  rwa [hv, hz] at this
end Go.Proofs.Ythmkoehocjfjgaa
