/- Proved here: parts of the walk and of the plain law of SearchSpec, put into one text (names and lines made short by a program). -/
import Derived.Test.YtcbpkdemcdikaaaProg
import Derived.Below
import Derived.Deep.Draws
import Derived.Deep.AppendLies
import Derived.Maps.AppendAt
import Derived.OwnWalk
import Derived.Laws.BytesArg
import Derived.Laws.MakeOwn
import Derived.Laws.OwnMore
import Derived.Deep.OwnRows
import Derived.Tactics
import Derived.Lib.ConvBytes
import Derived.Laws.Slices
import Derived.WalkKit
import Derived.KernelRfl
import Derived.RowKit3
import Derived.Deep.LoopGhost
import Derived.Deep.QuietTactic
import Derived.BigQuiet
import Derived.WideLaws
import Derived.Deep.DeepCutAuto
import Derived.Deep.CutBlock
import Derived.Deep.RegionHeld3
import Derived.Laws.Rows
import Derived.Lib.AppendStr
import Derived.ArgAppend
import Derived.Laws.IdiomCopy
import Derived.OrdersHeld
import Derived.Laws.BitsLemmas
import Derived.RowKit
import Derived.Test.YtcbpkdemcdikaaaSearchSpecC
import Derived.Test.YtcbpkdemcdikaaaSearchSpecB
namespace Go.Proofs.Ytcbpkdemcdikaaa.X
open Go.RowKit Go.Proofs.YtcbpkdemcdikaaaW.PrintWords Go.Proofs.YtcbpkdemcdikaaaW.PrintLast Go.Proofs.YtcbpkdemcdikaaaW.PrintMore
attribute [local go_sem] aT aM aZ bc aE aG aU aN   
set_option linter.unusedVariables false
set_option linter.unusedSimpArgs false
def errW : Option Int → Value
 | none => .nilIface
 | some c => .iface 0 (.int .i64 c)
theorem al : errW none = .nilIface := rfl
theorem ak (c : Int) : errW (some c) = .iface 0 (.int .i64 c) := rfl
theorem iT : (Try.prog.info? 3).map (fun i => (i.zero, i.size, i.bytes)) = some (some (.int .i64 0), 1, 8) := by kernel_rfl
theorem info39 : (Try.prog.info? 39).map (fun i => (i.zero, i.size, i.bytes)) = some (some (.agg #[(.int .i64 0), (.slice none 0 0)]), 2, 32) := by kernel_rfl
theorem info49 : (Try.prog.info? 49).map (fun i => (i.zero, i.size, i.bytes)) = some (some (.agg #[(.int .i64 0), (.int .i64 0), (.slice none 0 0), (.slice none 0 0)]), 4, 64) := by kernel_rfl
def ax (xs : List (List Int)) (i : Int) : (List Int) := xs.getD i.toNat ([] : List Int)
theorem dD {w : World} {A : Option Addr} {n : Nat} {xs : List (List Int)} (h : Kd.C (Kd.slice 3 (Kd.int .i64)) w A n xs) (i : Int) (h0 : 0 ≤ i) (h1 : i < n) : ∃ ad A0 c0, A = some ad ∧ w.cell? (ad.add i.toNat) = some (.slice A0 (ax xs i).length c0) ∧ (ax xs i).length ≤ c0 ∧ (Kd.int .i64).C w A0 (ax xs i).length (ax xs i) := by
 obtain ⟨ad, c, e, _, hK, hc0⟩ := Kd.C_get h ([] : List Int) i h0 h1
 have hc : ∀ j u, c[j]? = some u → w.cell? (ad.add (i.toNat * 1 + j)) = some u := hc0
 obtain ⟨A0, c0, rfl, l0, g0⟩ := hK
 exact ⟨ad, A0, c0, e, by have hq := hc 0 _ rfl; rwa [Nat.mul_one, Nat.add_zero] at hq, l0, g0⟩
structure S49 where
 f0 : Int
 f1 : Int
 f2 : (List Int)
 f3 : (List (List Int))
def z49 : S49 := ⟨(0 : Int), (0 : Int), ([] : List Int), ([] : List (List Int))⟩
def k49 : Kd S49 := Kd.iso (Kd.pair (Kd.int .i64) (Kd.pair (Kd.int .i64) (Kd.pair (Kd.slice 3 (Kd.int .i64)) (Kd.slice 26 (Kd.slice 3 (Kd.int .i64)))))) (fun x : S49 => (x.f0, x.f1, x.f2, x.f3))
theorem k49_heap : Kd.Heap k49 := Kd.heap_iso _ (Kd.heap_pair (Kd.heap_int .i64) (Kd.heap_pair (Kd.heap_int .i64) (Kd.heap_pair (Kd.heap_slice 3 (Kd.heap_int .i64)) (Kd.heap_slice 26 (Kd.heap_slice 3 (Kd.heap_int .i64))))))
theorem k49_open {w : World} {x : S49} {cs : List Value} (h : k49.K w x cs) : ∃ A2 c2 A3 c3, cs = [.int .i64 x.f0, .int .i64 x.f1, .slice A2 x.f2.length c2, .slice A3 x.f3.length c3] ∧ x.f2.length ≤ c2 ∧ (Kd.int .i64).C w A2 x.f2.length x.f2 ∧ x.f3.length ≤ c3 ∧ (Kd.slice 3 (Kd.int .i64)).C w A3 x.f3.length x.f3 := by
 obtain ⟨_, _, rfl, rfl, ⟨_, _, rfl, rfl, ⟨_, _, rfl, ⟨A2, c2, rfl, l2, g2⟩, ⟨A3, c3, rfl, l3, g3⟩⟩⟩⟩ := h
 exact ⟨A2, c2, A3, c3, rfl, l2, g2, l3, g3⟩
theorem k49_mk (w : World) (x : S49) {A2 : Option Addr} {c2 : Nat} (l2 : x.f2.length ≤ c2) (g2 : (Kd.int .i64).C w A2 x.f2.length x.f2) {A3 : Option Addr} {c3 : Nat} (l3 : x.f3.length ≤ c3) (g3 : (Kd.slice 3 (Kd.int .i64)).C w A3 x.f3.length x.f3) : k49.K w x [.int .i64 x.f0, .int .i64 x.f1, .slice A2 x.f2.length c2, .slice A3 x.f3.length c3] := ⟨[.int .i64 x.f0], [.int .i64 x.f1, .slice A2 x.f2.length c2, .slice A3 x.f3.length c3], rfl, rfl, ⟨[.int .i64 x.f1], [.slice A2 x.f2.length c2, .slice A3 x.f3.length c3], rfl, rfl, ⟨[.slice A2 x.f2.length c2], [.slice A3 x.f3.length c3], rfl, ⟨A2, c2, rfl, l2, g2⟩, ⟨A3, c3, rfl, l3, g3⟩⟩⟩⟩
def aj (xs : List S49) (i : Int) : S49 := xs.getD i.toNat z49
theorem dv {w : World} {A : Option Addr} {n : Nat} {xs : List S49} (h : Kd.C k49 w A n xs) (i : Int) (h0 : 0 ≤ i) (h1 : i < n) : ∃ ad A2 c2 A3 c3, A = some ad ∧ w.cell? (ad.add (i.toNat * 4)) = some (.int .i64 (aj xs i).f0) ∧ w.cell? ⟨(ad.add (i.toNat * 4)).block, (ad.add (i.toNat * 4)).off + 1, none⟩ = some (.int .i64 (aj xs i).f1) ∧ w.cell? ⟨(ad.add (i.toNat * 4)).block, (ad.add (i.toNat * 4)).off + 2, none⟩ = some (.slice A2 (aj xs i).f2.length c2) ∧ w.cell? ⟨(ad.add (i.toNat * 4)).block, (ad.add (i.toNat * 4)).off + 3, none⟩ = some (.slice A3 (aj xs i).f3.length c3) ∧ (aj xs i).f2.length ≤ c2 ∧ (Kd.int .i64).C w A2 (aj xs i).f2.length (aj xs i).f2 ∧ (aj xs i).f3.length ≤ c3 ∧ (Kd.slice 3 (Kd.int .i64)).C w A3 (aj xs i).f3.length (aj xs i).f3 := by
 obtain ⟨ad, c, e, _, hK, hc0⟩ := Kd.C_get h z49 i h0 h1
 have hc : ∀ j u, c[j]? = some u → w.cell? (ad.add (i.toNat * 4 + j)) = some u := hc0
 obtain ⟨A2, c2, A3, c3, rfl, l2, g2, l3, g3⟩ := k49_open hK
 exact ⟨ad, A2, c2, A3, c3, e, hc 0 _ rfl, by rw [← gJ _ _ 1 (by omega)]; exact hc 1 _ rfl, by rw [← gJ _ _ 2 (by omega)]; exact hc 2 _ rfl, by rw [← gJ _ _ 3 (by omega)]; exact hc 3 _ rfl, l2, g2, l3, g3⟩
structure S39 where
 f0 : Int
 f1 : (List S39)
def z39 : S39 := ⟨(0 : Int), ([] : List S39)⟩
def F39 (d : Kd S39) : Kd S39 := Kd.iso (Kd.pair (Kd.int .i64) (Kd.slice 39 d)) (fun x : S39 => (x.f0, x.f1))
theorem mono39 : Kd.Mono F39 := Kd.mono_iso _ (Kd.mono_pair (Kd.mono_const _) (Kd.mono_slice 39 Kd.mono_id))
theorem sub39 : Kd.Sub F39 [39] := Kd.sub_iso _ (Kd.sub_pair (Kd.sub_const _ (by decide)) (Kd.sub_slice 39 (by decide) Kd.sub_id))
theorem sz39 : ∀ n, (Kd.upto F39 2 [39] n).sz = 2 := Kd.upto_sz (fun _ => rfl)
def k39 : Kd S39 := Kd.fix F39 2 [39] sz39 (Kd.upto_E sub39)
theorem k39_open {w : World} {x : S39} {cs : List Value} (h : k39.K w x cs) : ∃ A1 c1, cs = [.int .i64 x.f0, .slice A1 x.f1.length c1] ∧ x.f1.length ≤ c1 ∧ k39.C w A1 x.f1.length x.f1 := by
 obtain ⟨n, h⟩ := h
 cases n with
 | zero => exact h.elim
 | succ n =>
  obtain ⟨_, _, rfl, rfl, ⟨A1, c1, rfl, l1, g1⟩⟩ := h
  exact ⟨A1, c1, rfl, l1, Kd.fix_C g1⟩
theorem k39_mk (w : World) (x : S39) {A1 : Option Addr} {c1 : Nat} (l1 : x.f1.length ≤ c1) (g1 : k39.C w A1 x.f1.length x.f1) : k39.K w x [.int .i64 x.f0, .slice A1 x.f1.length c1] := by
 obtain ⟨n1, q1⟩ := Kd.fix_C_back mono39 g1
 have r1 := Kd.upto_C_le mono39 sz39 (show n1 ≤ n1 by omega) q1
 exact ⟨n1 + 1, ⟨[.int .i64 x.f0], [.slice A1 x.f1.length c1], rfl, rfl, ⟨A1, c1, rfl, l1, r1⟩⟩⟩
theorem k39_mkM (w : World) (base : Nat) (ok : Nat → Prop) (x : S39) {v1 : Value} (g1 : k39.R 39 w base ok v1 x.f1) : k39.M w base ok x [.int .i64 x.f0, v1] := by
 obtain ⟨n1, q1⟩ := Kd.fix_R_back mono39 g1
 have r1 := Kd.upto_R_le mono39 sz39 (show n1 ≤ n1 by omega) q1
 exact ⟨n1 + 1, ⟨[.int .i64 x.f0], [v1], rfl, rfl, ⟨v1, rfl, r1⟩⟩⟩
def bE (xs : List S39) (i : Int) : S39 := xs.getD i.toNat z39
theorem at_T39 {w : World} {A : Option Addr} {n : Nat} {xs : List S39} (h : Kd.C k39 w A n xs) (i : Int) (h0 : 0 ≤ i) (h1 : i < n) : ∃ ad A1 c1, A = some ad ∧ w.cell? (ad.add (i.toNat * 2)) = some (.int .i64 (bE xs i).f0) ∧ w.cell? ⟨(ad.add (i.toNat * 2)).block, (ad.add (i.toNat * 2)).off + 1, none⟩ = some (.slice A1 (bE xs i).f1.length c1) ∧ (bE xs i).f1.length ≤ c1 ∧ k39.C w A1 (bE xs i).f1.length (bE xs i).f1 := by
 obtain ⟨ad, c, e, _, hK, hc0⟩ := Kd.C_get h z39 i h0 h1
 have hc : ∀ j u, c[j]? = some u → w.cell? (ad.add (i.toNat * 2 + j)) = some u := hc0
 obtain ⟨A1, c1, rfl, l1, g1⟩ := k39_open hK
 exact ⟨ad, A1, c1, e, hc 0 _ rfl, by rw [← gJ _ _ 1 (by omega)]; exact hc 1 _ rfl, l1, g1⟩
end Go.Proofs.Ytcbpkdemcdikaaa.X
namespace Go.Proofs.Ytcbpkdemcdikaaa.X
open Go.RowKit Go.Proofs.YtcbpkdemcdikaaaW.PrintWords Go.Proofs.YtcbpkdemcdikaaaW.PrintLast Go.Proofs.YtcbpkdemcdikaaaW.PrintMore
attribute [local go_sem] aT aM aZ bc aE aG aU aN   
set_option linter.unusedVariables false
set_option linter.unusedSimpArgs false
def slices_Index_int_int.l0 : Nat → List Int → Int → Int → Int → Option (Int)
 | 0, _, _, _, _ => none
 | k + 1, x0, x1, x7, x8 => if x8 < x7 then (if 0 ≤ x8 then (if x8 < (x0.length : Int) then (if x1 = (rd x0 x8) then (some x8) else (slices_Index_int_int.l0 k x0 x1 x7 (wrap64 (x8 + 1)))) else (none)) else (none)) else (some (-1))
def slices_Index_int_int.f (k : Nat) (l0 : List Int) (a1 : Int) : Option (Int) := slices_Index_int_int.l0 k l0 a1 (l0.length : Int) 0
set_option maxHeartbeats 8000000 in
set_option maxRecDepth 100000 in
theorem slices_Index_int_int.calls (k : Nat) (A0 : Option Addr) (c0 : Nat) (l0 : List Int) (a1 : Int) (r : Int) (w : World) (hr0 : Kd.C (Kd.int .i64) w A0 l0.length l0) (hc0 : l0.length ≤ c0) (h : slices_Index_int_int.f k l0 a1 = some r) :
  Calls Try.prog 70 #[.slice A0 l0.length c0, .int .i64 a1] w fun e w' => e = .returned (.int .i64 r) ∧ Drawn0 w w' := by
 have HR0 := Aside0.mk hr0
 have HC0 := Aside0.mk hc0
 clear hr0 hc0
 have H : (slices_Index_int_int.l0 k l0 a1 (l0.length : Int) 0) = some r := h
 clear h
 have H' := Aside0.mk H
 clear H
 go_enter Try.func70, Try.ntmps70
 go_wp2
 go_loopg [8] k (fun kq v8 w' => ∃ (x8_1 : Int), v8 = .int .i64 x8_1 ∧ Aside0 (slices_Index_int_int.l0 kq l0 a1 (l0.length : Int) x8_1 = some r) ∧ Aside0 (kq ≤ k) ∧ Drawn0 w w')
 case atStart => exact ⟨(0), (by first | rfl | (simp; done) | (simp [*]; done)), H', ⟨Nat.le_refl _⟩, by repeat (first | exact Drawn0.refl _ | apply Drawn0.step)⟩
 case round =>
  clear H'
  try clear p2
  obtain ⟨x8_1, rfl, HA, HK1, ⟨m1, rfl⟩⟩ := hrel
  cases gk with
  | zero => exact absurd HA.out (by simp [slices_Index_int_int.l0])
  | succ k1 =>
   have H := HA.out
   clear HA
   simp only [slices_Index_int_int.l0] at H
   by_cases c3 : x8_1 < (l0.length : Int)
   ·rw [if_pos c3] at H
    have iE : decide (x8_1 < (l0.length : Int)) = true := decide_eq_true c3
    clear c3
    by_cases c4 : 0 ≤ x8_1
    ·rw [if_pos c4] at H
     have el : decide (0 ≤ x8_1) = true := decide_eq_true c4
     clear c4
     by_cases c5 : x8_1 < (l0.length : Int)
     ·rw [if_pos c5] at H
      have c5b0 : decide (x8_1 < (l0.length : Int)) = true := decide_eq_true c5
      clear c5
      by_cases c6 : a1 = (rd l0 x8_1)
      ·rw [if_pos c6] at H
       have c6b0 : (a1 == (rd l0 x8_1)) = true := beq_iff_eq.mpr c6
       have c6b1 : (a1 != (rd l0 x8_1)) = false := bne_eq_false_iff_eq.mpr c6
       clear c6
       obtain rfl := Option.some.inj H
       have p101 : 0 ≤ (x8_1 : Int) := of_decide_eq_true (by first | (with_reducible assumption) | assumption)
       have q101 : x8_1 < (l0.length : Int) := of_decide_eq_true (by first | (with_reducible assumption) | assumption)
       obtain ⟨ad101, e101, hx101_0⟩ := Kd.at_int HR0.out x8_1 p101 q101
       cases e101
       replace p101 := eq_true p101
       replace q101 := eq_true q101
       go_wp2
       go_ret
       exact ⟨by first | rfl | (simp; done) | (simp [*]; done), by repeat (first | exact Drawn0.refl _ | apply Drawn0.step)⟩
      ·rw [if_neg c6] at H
       have c6b0 : (a1 == (rd l0 x8_1)) = false := beq_eq_false_iff_ne.mpr c6
       have c6b1 : (a1 != (rd l0 x8_1)) = true := bne_iff_ne.mpr c6
       have H' := Aside0.mk H
       clear H
       have p101 : 0 ≤ (x8_1 : Int) := of_decide_eq_true (by first | (with_reducible assumption) | assumption)
       have q101 : x8_1 < (l0.length : Int) := of_decide_eq_true (by first | (with_reducible assumption) | assumption)
       obtain ⟨ad101, e101, hx101_0⟩ := Kd.at_int HR0.out x8_1 p101 q101
       cases e101
       replace p101 := eq_true p101
       replace q101 := eq_true q101
       go_wp2
       go_roundg k1
       case measure => have := HK1.out; omega
       case rel => exact ⟨(wrap64 (x8_1 + 1)), (by first | rfl | (simp; done) | (simp [*]; done)), H', ⟨by have := HK1.out; omega⟩, by repeat (first | exact Drawn0.refl _ | apply Drawn0.step)⟩
     ·rw [if_neg c5] at H
      exact absurd H (by simp)
    ·rw [if_neg c4] at H
     exact absurd H (by simp)
   ·rw [if_neg c3] at H
    have iE : decide (x8_1 < (l0.length : Int)) = false := decide_eq_false c3
    clear c3
    obtain rfl := Option.some.inj H
    go_wp2
    go_ret
    exact ⟨by first | rfl | (simp; done) | (simp [*]; done), by repeat (first | exact Drawn0.refl _ | apply Drawn0.step)⟩
def slices_Contains_int_int.f (k : Nat) (l0 : List Int) (a1 : Int) : Option (Bool) := (slices_Index_int_int.f k l0 a1).bind fun t102 => (some (decide (t102 ≥ 0)))
set_option maxHeartbeats 8000000 in
set_option maxRecDepth 100000 in
theorem slices_Contains_int_int.calls (k : Nat) (A0 : Option Addr) (c0 : Nat) (l0 : List Int) (a1 : Int) (r : Bool) (w : World) (hr0 : Kd.C (Kd.int .i64) w A0 l0.length l0) (hc0 : l0.length ≤ c0) (h : slices_Contains_int_int.f k l0 a1 = some r) :
  Calls Try.prog 57 #[.slice A0 l0.length c0, .int .i64 a1] w fun e w' => e = .returned (.bool r) ∧ Drawn0 w w' := by
 have HR0 := Aside0.mk hr0
 have HC0 := Aside0.mk hc0
 clear hr0 hc0
 have H : ((slices_Index_int_int.f k l0 a1).bind fun t102 => (some (decide (t102 ≥ 0)))) = some r := h
 clear h
 replace H := Option.bind_eq_some_iff.mp H
 obtain ⟨t102, A30, H⟩ := H
 replace H : (some (decide (t102 ≥ 0))) = some r := H
 have A3 := Aside0.mk A30
 clear A30
 obtain rfl := Option.some.inj H
 go_enter Try.func57, Try.ntmps57
 go_wp2_with (first | ((with_reducible refine am (f := 70) rfl ?_); refine aY (some 7) rfl rfl Try.func70 (by kernel_rfl) rfl #[.slice A0 l0.length c0, .int .i64 a1] rfl (by (try simp only [List.map_toArray, List.map_cons, List.map_nil]); first | done | rfl | (simp only [List.length_drop, List.length_take]; rfl)) ?_; (with_reducible refine (slices_Index_int_int.calls k _ _ l0 a1 t102 _ ?side1 ?side2 A3.out).mono ?_); (case side1 => repeat (first | exact HR0.out | (with_reducible refine Kd.C_alloc ?_ _) | (with_reducible refine Kd.C_drewN ?_ _) | (with_reducible refine Kd.C_drew ?_))); (case side2 => exact HC0.out); rintro e w' ⟨rfl, ⟨nd, rfl⟩⟩; refine ⟨_, rfl, ?_⟩))
 go_ret
 exact ⟨by first | rfl | (simp; done) | (simp [*]; done), by repeat (first | exact Drawn0.refl _ | apply Drawn0.step)⟩
end Go.Proofs.Ytcbpkdemcdikaaa.X
namespace Go.Proofs.Ytcbpkdemcdikaaa.X
open Go.RowKit Go.Proofs.YtcbpkdemcdikaaaW.PrintWords Go.Proofs.YtcbpkdemcdikaaaW.PrintLast Go.Proofs.YtcbpkdemcdikaaaW.PrintMore
attribute [local go_sem] aT aM aZ bc aE aG aU aN   
set_option linter.unusedVariables false
set_option linter.unusedSimpArgs false
mutual
def fastiref15_short.j0 : Nat → Bool → List (List Int) → List (S49) → Option (Bool)
 | 0, _, _, _ => none
 | k + 1, x16, cY, bU => if x16 = true then (some false) else (fastiref15_short.l0 k 0 cY bU)
def fastiref15_short.l0 : Nat → Int → List (List Int) → List (S49) → Option (Bool)
 | 0, _, _, _ => none
 | k + 1, x3, cY, bU => if x3 < (cY.length : Int) then (if 0 ≤ x3 then (if ((ax cY x3).length : Int) > 16 then (some false) else (fastiref15_short.l0 k (wrap64 (x3 + 1)) cY bU)) else (none)) else (fastiref15_short.l1 k 0 cY bU)
def fastiref15_short.l1 : Nat → Int → List (List Int) → List (S49) → Option (Bool)
 | 0, _, _, _ => none
 | k + 1, x4, cY, bU => if x4 < (bU.length : Int) then (if 0 ≤ x4 then (if (((aj bU x4).f2).length : Int) > 12 then (fastiref15_short.j3 k x4 true cY bU ((aj bU x4).f0) ((aj bU x4).f1) ((aj bU x4).f2) ((aj bU x4).f3)) else (fastiref15_short.j3 k x4 (decide ((((aj bU x4).f3).length : Int) > 256)) cY bU ((aj bU x4).f0) ((aj bU x4).f1) ((aj bU x4).f2) ((aj bU x4).f3))) else (none)) else (some true)
def fastiref15_short.j3 : Nat → Int → Bool → List (List Int) → List (S49) → Int → Int → List Int → List (List Int) → Option (Bool)
 | 0, _, _, _, _, _, _, _, _ => none
 | k + 1, x4, x52, cY, bU, x165000, x165001, x165002, jg => if x52 = true then (some false) else (fastiref15_short.l2 k x4 0 cY bU x165000 x165001 x165002 jg)
def fastiref15_short.l2 : Nat → Int → Int → List (List Int) → List (S49) → Int → Int → List Int → List (List Int) → Option (Bool)
 | 0, _, _, _, _, _, _, _, _ => none
 | k + 1, x4, x6, cY, bU, x165000, x165001, x165002, jg => if x6 < (jg.length : Int) then (if 0 ≤ x6 then (if ((ax jg x6).length : Int) > 12 then (some false) else (fastiref15_short.l2 k x4 (wrap64 (x6 + 1)) cY bU x165000 x165001 x165002 jg)) else (none)) else (fastiref15_short.l1 k (wrap64 (x4 + 1)) cY bU)
end
def fastiref15_short.f (k : Nat) (ai : List (List Int)) (af : List (S49)) : Option (Bool) := if (ai.length : Int) > 12 then (fastiref15_short.j0 k true ai af) else (fastiref15_short.j0 k (decide ((af.length : Int) > 64)) ai af)
set_option maxHeartbeats 8000000 in
set_option maxRecDepth 100000 in
theorem fastiref15_short.calls (k : Nat) (au : Option Addr) (aq : Nat) (ai : List (List Int)) (aw : Option Addr) (ao : Nat) (af : List (S49)) (r : Bool) (w : World) (bG : Kd.C (Kd.slice 3 (Kd.int .i64)) w au ai.length ai) (bO : ai.length ≤ aq) (bB : Kd.C k49 w aw af.length af) (bF : af.length ≤ ao) (h : fastiref15_short.f k ai af = some r) :
  Calls Try.prog 29 #[.agg #[.slice au ai.length aq, .slice aw af.length ao]] w fun e w' => e = .returned (.bool r) ∧ Below w.heap.size w w' := by
 have hu25 := Try.underlying25
 have hu49 := Try.underlying49
 have bf := Aside0.mk bG
 have bo := Aside0.mk bO
 clear bG bO
 have bd := Aside0.mk bB
 have bn := Aside0.mk bF
 clear bB bF
 have HB := Aside0.mk (Below.refl w.heap.size w)
 have H : (if (ai.length : Int) > 12 then (fastiref15_short.j0 k true ai af) else (fastiref15_short.j0 k (decide ((af.length : Int) > 64)) ai af)) = some r := h
 clear h
 have HC2 := Aside0.mk H
 clear H
 go_enter Try.func29, Try.ntmps29
 go_upto_region 1 with (first | ((with_reducible refine az (N := 1) rfl ?_); (try (refine aJ (by rfl) ?_; dsimp only)); refine ap ?hg (N := 1) ?hd (cs := #[.slice au ai.length aq, .slice aw af.length ao]) (t := 25) ?hr ?_; (case hd => rfl); (case hg => rfl); (case hr => first | (go_simp; done) | (go_simp; rfl)); intro dc hg w3 hbox hb; have n0_ := Aside0.mk (ah (by repeat (first | (with_reducible first | exact HB.out | apply a6 | apply a4 | apply a5) | exact HB.out)) hb); have n1_ := Aside0.mk (hbox); have n2_ := Aside0.mk ((by rw [hg]; exact (ae (by repeat (first | (with_reducible first | exact HB.out | apply a6 | apply a4 | apply a5) | exact HB.out))) : w.heap.size ≤ dc)); have n3_ := Aside0.mk ((by rw [hg]; exact (ae (by repeat (first | (with_reducible first | exact HB.out | apply a6 | apply a4 | apply a5) | exact HB.out))) : w.heap.size ≤ dc)); clear HB; have HB := n0_; have bS := n1_; have GW161 := n2_; have eL := n3_; clear n0_ n1_ n2_ n3_; clear hb hbox hg))
 (try simp only [Act.put, List.setIfInBounds_toArray, List.set_cons_zero, List.set_cons_succ])
 go_cut [16] (fun v16 wc => ∃ (kq : Nat) (x16_1 : Bool), v16 = .bool x16_1 ∧ Aside0 (fastiref15_short.j0 kq x16_1 ai af = some r) ∧ Aside0 (kq ≤ k) ∧ Aside0 (wc.heap[dc]? = some (.cells #[(.slice au ai.length aq), (.slice aw af.length ao)] 25 (0, 0))) ∧ Aside0 (Below w.heap.size w wc))
 case first =>
  have H := HC2.out
  clear HC2
  by_cases c4 : (ai.length : Int) > 12
  ·rw [if_pos c4] at H
   have el : decide (12 < (ai.length : Int)) = true := decide_eq_true c4
   have c4b1 : decide (12 < ai.length) = true := decide_eq_true (by omega)
   clear c4
   (first | rw [el] | (simp only [ar, av]; rw [el]) | skip)
   have H' := Aside0.mk H
   clear H
   have dw : w3.cell? ⟨dc, 0, none⟩ = some (.slice au ai.length aq) := (a7 bS.out 0).trans rfl
   have dx : w3.cell? ⟨dc, 1, none⟩ = some (.slice aw af.length ao) := (a7 bS.out 1).trans rfl
   have dy := a8 bS.out 0
   have dz := a8 bS.out 1
   go_wp2
   go_meet
   case rel => exact ⟨_, (true), (by first | rfl | (simp; done) | (simp [*]; done)), H', ⟨by first | omega | exact Nat.le_refl _⟩, ⟨by (with_reducible repeat (first | refine ab ?_ _ | refine ac ?_ | refine aa ?_ _)); exact bS.out⟩, ⟨by repeat (first | (with_reducible first | exact HB.out | apply a6 | apply a4 | apply a5 | refine a9 ?_ eL.out) | exact HB.out)⟩⟩
  ·rw [if_neg c4] at H
   have el : decide (12 < (ai.length : Int)) = false := decide_eq_false c4
   have c4b1 : decide (12 < ai.length) = false := decide_eq_false (by omega)
   clear c4
   (first | rw [el] | (simp only [ar, av]; rw [el]) | skip)
   have H' := Aside0.mk H
   clear H
   have dG : w3.cell? ⟨dc, 0, none⟩ = some (.slice au ai.length aq) := (a7 bS.out 0).trans rfl
   have dH : w3.cell? ⟨dc, 1, none⟩ = some (.slice aw af.length ao) := (a7 bS.out 1).trans rfl
   have dI := a8 bS.out 0
   have dJ := a8 bS.out 1
   go_wp2
   go_meet
   case rel => exact ⟨_, (decide ((af.length : Int) > 64)), (by first | rfl | (simp; done) | (simp [*]; done)), H', ⟨by first | omega | exact Nat.le_refl _⟩, ⟨by (with_reducible repeat (first | refine ab ?_ _ | refine ac ?_ | refine aa ?_ _)); exact bS.out⟩, ⟨by repeat (first | (with_reducible first | exact HB.out | apply a6 | apply a4 | apply a5 | refine a9 ?_ eL.out) | exact HB.out)⟩⟩
 case rest =>
  clear HC2
  try clear c2; try clear p2; try clear c4; try clear el; try clear c4b1; try clear dw; try clear dx; try clear dG; try clear dH; try clear dy; try clear dz; try clear dI; try clear dJ
  obtain ⟨kq, x16_1, rfl, HA, HJ1, bS, HB⟩ := hcut
  cases kq with
  | zero => exact absurd HA.out (by simp [fastiref15_short.j0])
  | succ kj1 =>
   have H := HA.out
   clear HA
   simp only [fastiref15_short.j0] at H
   by_cases c7 : x16_1 = true
   ·subst c7
    have H1 : (some false) = some r := by rw [if_pos rfl] at H; exact H
    clear H
    have H := H1
    clear H1
    obtain rfl := Option.some.inj H
    go_wp2
    go_ret
    exact ⟨by first | rfl | (simp [al, ak] <;> rfl) | (simp [*, al, ak] <;> rfl), by repeat (first | (with_reducible first | exact HB.out | apply a6 | apply a4 | apply a5 | refine a9 ?_ eL.out) | exact HB.out)⟩
   ·replace c7 := Bool.eq_false_iff.mpr c7
    subst c7
    have H1 : (fastiref15_short.l0 kj1 0 ai af) = some r := by rw [if_neg (show ¬ (false = true) by decide)] at H; exact H
    clear H
    have H := H1
    clear H1
    have H' := Aside0.mk H
    clear H
    go_wp2
    go_loopg [3] kj1 (fun kq v3 w' => ∃ (x3_2 : Int), v3 = .int .i64 x3_2 ∧ Aside0 (fastiref15_short.l0 kq x3_2 ai af = some r) ∧ Aside0 (kq ≤ kj1) ∧ Aside0 (w'.heap[dc]? = some (.cells #[(.slice au ai.length aq), (.slice aw af.length ao)] 25 (0, 0))) ∧ Aside0 (Below w.heap.size w w'))
    case atStart => exact ⟨(0), (by first | rfl | (simp; done) | (simp [*]; done)), H', ⟨Nat.le_refl _⟩, ⟨by (with_reducible repeat (first | refine ab ?_ _ | refine ac ?_ | refine aa ?_ _)); exact bS.out⟩, ⟨by repeat (first | (with_reducible first | exact HB.out | apply a6 | apply a4 | apply a5 | refine a9 ?_ eL.out) | exact HB.out)⟩⟩
    case round =>
     clear H'
     try clear c2; try clear p2; try clear c4; try clear el; try clear c4b1; try clear c7; try clear dw; try clear dx; try clear dG; try clear dH; try clear dy; try clear dz; try clear dI; try clear dJ
     obtain ⟨x3_2, rfl, HA, HK2, bS, HB⟩ := hrel
     cases gk with
     | zero => exact absurd HA.out (by simp [fastiref15_short.l0])
     | succ k2 =>
      have H := HA.out
      clear HA
      simp only [fastiref15_short.l0] at H
      by_cases c8 : x3_2 < (ai.length : Int)
      ·rw [if_pos c8] at H
       have c8b0 : decide (x3_2 < (ai.length : Int)) = true := decide_eq_true c8
       clear c8
       by_cases c9 : 0 ≤ x3_2
       ·rw [if_pos c9] at H
        have c9b0 : decide (0 ≤ x3_2) = true := decide_eq_true c9
        clear c9
        by_cases c10 : ((ax ai x3_2).length : Int) > 16
        ·rw [if_pos c10] at H
         have gK : decide (16 < ((ax ai x3_2).length : Int)) = true := decide_eq_true c10
         have c10b1 : decide (16 < (ax ai x3_2).length) = true := decide_eq_true (by omega)
         clear c10
         obtain rfl := Option.some.inj H
         have bV : wr.cell? ⟨dc, 0, none⟩ = some (.slice au ai.length aq) := (a7 bS.out 0).trans rfl
         have bW : wr.cell? ⟨dc, 1, none⟩ = some (.slice aw af.length ao) := (a7 bS.out 1).trans rfl
         have bX := a8 bS.out 0
         have bY := a8 bS.out 1
         have p162 : 0 ≤ (x3_2 : Int) := of_decide_eq_true (by first | (with_reducible assumption) | assumption)
         have q162 : x3_2 < (ai.length : Int) := of_decide_eq_true (by first | (with_reducible assumption) | assumption)
         obtain ⟨ad162, A162_0, c162_0, e162, e8, jh, ji⟩ := dD bf.out x3_2 p162 q162
         cases e162
         replace e8 := (HB.out.cell (World.block_lt_of_cell? w _ e8)).trans e8
         have HR162_0 := Aside0.mk ji
         have HC162_0 := Aside0.mk jh
         clear ji jh
         replace p162 := eq_true p162
         replace q162 := eq_true q162
         go_wp2
         go_ret
         exact ⟨by first | rfl | (simp [al, ak] <;> rfl) | (simp [*, al, ak] <;> rfl), by repeat (first | (with_reducible first | exact HB.out | apply a6 | apply a4 | apply a5 | refine a9 ?_ eL.out) | exact HB.out)⟩
        ·rw [if_neg c10] at H
         have gK : decide (16 < ((ax ai x3_2).length : Int)) = false := decide_eq_false c10
         have c10b1 : decide (16 < (ax ai x3_2).length) = false := decide_eq_false (by omega)
         clear c10
         have H' := Aside0.mk H
         clear H
         have cJ : wr.cell? ⟨dc, 0, none⟩ = some (.slice au ai.length aq) := (a7 bS.out 0).trans rfl
         have cK : wr.cell? ⟨dc, 1, none⟩ = some (.slice aw af.length ao) := (a7 bS.out 1).trans rfl
         have cL := a8 bS.out 0
         have cM := a8 bS.out 1
         have p162 : 0 ≤ (x3_2 : Int) := of_decide_eq_true (by first | (with_reducible assumption) | assumption)
         have q162 : x3_2 < (ai.length : Int) := of_decide_eq_true (by first | (with_reducible assumption) | assumption)
         obtain ⟨ad162, A162_0, c162_0, e162, e8, jh, ji⟩ := dD bf.out x3_2 p162 q162
         cases e162
         replace e8 := (HB.out.cell (World.block_lt_of_cell? w _ e8)).trans e8
         have HR162_0 := Aside0.mk ji
         have HC162_0 := Aside0.mk jh
         clear ji jh
         replace p162 := eq_true p162
         replace q162 := eq_true q162
         go_wp2
         go_roundg k2
         case measure => have := HJ1.out; have := HK2.out; omega
         case rel => exact ⟨(wrap64 (x3_2 + 1)), (by first | rfl | (simp; done) | (simp [*]; done)), H', ⟨by have := HJ1.out; have := HK2.out; omega⟩, ⟨by (with_reducible repeat (first | refine ab ?_ _ | refine ac ?_ | refine aa ?_ _)); exact bS.out⟩, ⟨by repeat (first | (with_reducible first | exact HB.out | apply a6 | apply a4 | apply a5 | refine a9 ?_ eL.out) | exact HB.out)⟩⟩
       ·rw [if_neg c9] at H
        exact absurd H (by simp)
      ·rw [if_neg c8] at H
       have c8b0 : decide (x3_2 < (ai.length : Int)) = false := decide_eq_false c8
       clear c8
       have H' := Aside0.mk H
       clear H
       have dk : wr.cell? ⟨dc, 0, none⟩ = some (.slice au ai.length aq) := (a7 bS.out 0).trans rfl
       have dm : wr.cell? ⟨dc, 1, none⟩ = some (.slice aw af.length ao) := (a7 bS.out 1).trans rfl
       have dn := a8 bS.out 0
       have dp := a8 bS.out 1
       go_wp2
       go_loopg [4] k2 (fun kq v4 w' => ∃ (x4_3 : Int), v4 = .int .i64 x4_3 ∧ Aside0 (fastiref15_short.l1 kq x4_3 ai af = some r) ∧ Aside0 (kq ≤ k2) ∧ Aside0 (w'.heap[dc]? = some (.cells #[(.slice au ai.length aq), (.slice aw af.length ao)] 25 (0, 0))) ∧ Aside0 (Below w.heap.size w w'))
       case atStart => exact ⟨(0), (by first | rfl | (simp; done) | (simp [*]; done)), H', ⟨Nat.le_refl _⟩, ⟨by (with_reducible repeat (first | refine ab ?_ _ | refine ac ?_ | refine aa ?_ _)); exact bS.out⟩, ⟨by repeat (first | (with_reducible first | exact HB.out | apply a6 | apply a4 | apply a5 | refine a9 ?_ eL.out) | exact HB.out)⟩⟩
       case round =>
        clear H'
        try clear c1; try clear p1; try clear q1; try clear hx1; try clear c2; try clear p2; try clear c4; try clear el; try clear c4b1; try clear p6; try clear c7; try clear c8; try clear c8b0; try clear c9; try clear c9b0; try clear c10; try clear gK; try clear c10b1; try clear bV; try clear bW; try clear cJ; try clear cK; try clear dk; try clear dm; try clear dw; try clear dx; try clear dG; try clear dH; try clear bX; try clear bY; try clear cL; try clear cM; try clear dn; try clear dp; try clear dy; try clear dz; try clear dI; try clear dJ; try clear e8; try clear p162; try clear q162
        obtain ⟨x4_3, rfl, HA, HK3, bS, HB⟩ := hrel
        cases gk with
        | zero => exact absurd HA.out (by simp [fastiref15_short.l1])
        | succ k3 =>
         have H := HA.out
         clear HA
         simp only [fastiref15_short.l1] at H
         by_cases c14 : x4_3 < (af.length : Int)
         ·rw [if_pos c14] at H
          have c14b0 : decide (x4_3 < (af.length : Int)) = true := decide_eq_true c14
          clear c14
          by_cases c15 : 0 ≤ x4_3
          ·rw [if_pos c15] at H
           have c15b0 : decide (0 ≤ x4_3) = true := decide_eq_true c15
           clear c15
           have HC16 := Aside0.mk H
           clear H
           have eT : wr.cell? ⟨dc, 0, none⟩ = some (.slice au ai.length aq) := (a7 bS.out 0).trans rfl
           have eU : wr.cell? ⟨dc, 1, none⟩ = some (.slice aw af.length ao) := (a7 bS.out 1).trans rfl
           have eV := a8 bS.out 0
           have eW := a8 bS.out 1
           have p163 : 0 ≤ (x4_3 : Int) := of_decide_eq_true (by first | (with_reducible assumption) | assumption)
           have q163 : x4_3 < (af.length : Int) := of_decide_eq_true (by first | (with_reducible assumption) | assumption)
           obtain ⟨ad163, jk, jl, A163_3, c163_3, e163, jm, jn, jo, jp, hl163_2, hi163_2, hl163_3, hi163_3⟩ := dv bd.out x4_3 p163 q163
           cases e163
           replace jm := (HB.out.cell (World.block_lt_of_cell? w _ jm)).trans jm
           replace jn := (HB.out.cell (World.block_lt_of_cell? w _ jn)).trans jn
           replace jo := (HB.out.cell (World.block_lt_of_cell? w _ jo)).trans jo
           replace jp := (HB.out.cell (World.block_lt_of_cell? w _ jp)).trans jp
           have HR163_2 := Aside0.mk hi163_2
           have HC163_2 := Aside0.mk hl163_2
           clear hi163_2 hl163_2
           have HR163_3 := Aside0.mk hi163_3
           have HC163_3 := Aside0.mk hl163_3
           clear hi163_3 hl163_3
           replace p163 := eq_true p163
           replace q163 := eq_true q163
           go_upto_region 12 with (first | ((with_reducible refine az (N := 5) rfl ?_); (try (refine aJ (by rfl) ?_; dsimp only)); refine ap ?hg (N := 5) ?hd (cs := #[.int .i64 0, .int .i64 0, .slice none 0 0, .slice none 0 0]) (t := 49) ?hr ?_; (case hd => rfl); (case hg => rfl); (case hr => first | (go_simp; done) | (go_simp; rfl)); intro cT hg w18 hbox hb; have n0_ := Aside0.mk (ag (g := dc) (o := .cells #[.slice au ai.length aq, .slice (some ad163) af.length ao] 25 (0, 0)) (by (with_reducible repeat (first | refine ab ?_ _ | refine ac ?_ | refine aa ?_ _)); exact bS.out) hb); have n1_ := Aside0.mk (ah (by repeat (first | (with_reducible first | exact HB.out | apply a6 | apply a4 | apply a5 | refine a9 ?_ eL.out) | exact HB.out)) hb); have n2_ := Aside0.mk (hbox); have n3_ := Aside0.mk ((by rw [hg]; exact (ae (by repeat (first | (with_reducible first | exact HB.out | apply a6 | apply a4 | apply a5 | refine a9 ?_ eL.out) | exact HB.out))) : w.heap.size ≤ cT)); have n4_ := Aside0.mk ((by rw [hg]; exact (ae (by repeat (first | (with_reducible first | exact HB.out | apply a6 | apply a4 | apply a5 | refine a9 ?_ eL.out) | exact HB.out))) : w.heap.size ≤ cT)); have n5_ := Aside0.mk ((by rw [hg]; exact Nat.ne_of_lt (bj (g := dc) (o := .cells #[.slice au ai.length aq, .slice (some ad163) af.length ao] 25 (0, 0)) (by (with_reducible repeat (first | refine ab ?_ _ | refine ac ?_ | refine aa ?_ _)); exact bS.out)) : dc ≠ cT)); have n6_ := Aside0.mk ((by rw [hg]; exact Nat.ne_of_gt (bj (g := dc) (o := .cells #[.slice au ai.length aq, .slice (some ad163) af.length ao] 25 (0, 0)) (by (with_reducible repeat (first | refine ab ?_ _ | refine ac ?_ | refine aa ?_ _)); exact bS.out)) : cT ≠ dc)); clear bS; clear HB; have bS := n0_; have HB := n1_; have bK := n2_; have GW164 := n3_; have GE164 := n4_; have NB161_164 := n5_; have NB164_161 := n6_; clear n0_ n1_ n2_ n3_ n4_ n5_ n6_; clear hb hbox hg; have hnb19 := NB164_161.out; have hnc19 := NB161_164.out; have i2 : w18.cell? ⟨cT, 0, none⟩ = some (.int .i64 0) := (a7 bK.out 0).trans rfl; have i4 : w18.cell? ⟨cT, 1, none⟩ = some (.int .i64 0) := (a7 bK.out 1).trans rfl; have hcz20_2 : w18.cell? ⟨cT, 2, none⟩ = some (.slice none 0 0) := (a7 bK.out 2).trans rfl; have hcz20_3 : w18.cell? ⟨cT, 3, none⟩ = some (.slice none 0 0) := (a7 bK.out 3).trans rfl; have i5 := a8 bK.out 0; have i7 := a8 bK.out 1; have hfz20_2 := a8 bK.out 2; have hfz20_3 := a8 bK.out 3))
           (try simp only [Act.put, List.setIfInBounds_toArray, List.set_cons_zero, List.set_cons_succ])
           go_cut [52] (fun v52 wc => ∃ (kq : Nat) (x52_15 : Bool), v52 = .bool x52_15 ∧ Aside0 (fastiref15_short.j3 kq x4_3 x52_15 ai af ((aj af x4_3).f0) ((aj af x4_3).f1) ((aj af x4_3).f2) ((aj af x4_3).f3) = some r) ∧ Aside0 (kq ≤ k3) ∧ Aside0 (wc.heap[dc]? = some (.cells #[(.slice au ai.length aq), (.slice (some ad163) af.length ao)] 25 (0, 0))) ∧ Aside0 (wc.heap[cT]? = some (.cells #[.int .i64 ((aj af x4_3).f0), .int .i64 ((aj af x4_3).f1), (.slice jk ((aj af x4_3).f2).length jl), (.slice A163_3 ((aj af x4_3).f3).length c163_3)] 49 (0, 0))) ∧ Aside0 (Below w.heap.size w wc))
           case first =>
            have H := HC16.out
            clear HC16
            by_cases c21 : (((aj af x4_3).f2).length : Int) > 12
            ·rw [if_pos c21] at H
             have iM : decide (12 < (((aj af x4_3).f2).length : Int)) = true := decide_eq_true c21
             have c21b1 : decide (12 < ((aj af x4_3).f2).length) = true := decide_eq_true (by omega)
             clear c21
             (first | rw [iM] | (simp only [ar, av]; rw [iM]) | skip)
             have H' := Aside0.mk H
             clear H
             have hnb22 := NB164_161.out
             have hnc22 := NB161_164.out
             have hcz23_0 : w18.cell? ⟨cT, 0, none⟩ = some (.int .i64 0) := (a7 bK.out 0).trans rfl
             have hcz23_1 : w18.cell? ⟨cT, 1, none⟩ = some (.int .i64 0) := (a7 bK.out 1).trans rfl
             have hcz23_2 : w18.cell? ⟨cT, 2, none⟩ = some (.slice none 0 0) := (a7 bK.out 2).trans rfl
             have hcz23_3 : w18.cell? ⟨cT, 3, none⟩ = some (.slice none 0 0) := (a7 bK.out 3).trans rfl
             have hfz23_0 := a8 bK.out 0
             have hfz23_1 := a8 bK.out 1
             have hfz23_2 := a8 bK.out 2
             have hfz23_3 := a8 bK.out 3
             go_wp2
             go_meet
             case rel => exact ⟨_, (true), (by first | rfl | (simp; done) | (simp [*]; done)), H', ⟨by have := HJ1.out; have := HK2.out; have := HK3.out; first | omega | exact Nat.le_refl _⟩, ⟨by (with_reducible repeat (first | refine ab ?_ _ | refine ac ?_ | refine aa ?_ _)); refine be ?_ NB161_164.out _; (with_reducible repeat (first | refine ab ?_ _ | refine ac ?_ | refine aa ?_ _)); refine be ?_ NB161_164.out _; (with_reducible repeat (first | refine ab ?_ _ | refine ac ?_ | refine aa ?_ _)); refine be ?_ NB161_164.out _; (with_reducible repeat (first | refine ab ?_ _ | refine ac ?_ | refine aa ?_ _)); refine be ?_ NB161_164.out _; (with_reducible repeat (first | refine ab ?_ _ | refine ac ?_ | refine aa ?_ _)); exact bS.out⟩, ⟨by (with_reducible repeat (first | refine ab ?_ _ | refine ac ?_ | refine aa ?_ _)); refine aW (cs := #[.int .i64 ((aj af x4_3).f0), .int .i64 ((aj af x4_3).f1), .slice jk ((aj af x4_3).f2).length jl, .slice none 0 0]) ?_ 3 _ rfl; (with_reducible repeat (first | refine ab ?_ _ | refine ac ?_ | refine aa ?_ _)); refine aW (cs := #[.int .i64 ((aj af x4_3).f0), .int .i64 ((aj af x4_3).f1), .slice none 0 0, .slice none 0 0]) ?_ 2 _ rfl; (with_reducible repeat (first | refine ab ?_ _ | refine ac ?_ | refine aa ?_ _)); refine aW (cs := #[.int .i64 ((aj af x4_3).f0), .int .i64 0, .slice none 0 0, .slice none 0 0]) ?_ 1 _ rfl; (with_reducible repeat (first | refine ab ?_ _ | refine ac ?_ | refine aa ?_ _)); refine aW (cs := #[.int .i64 0, .int .i64 0, .slice none 0 0, .slice none 0 0]) ?_ 0 _ rfl; (with_reducible repeat (first | refine ab ?_ _ | refine ac ?_ | refine aa ?_ _)); exact bK.out⟩, ⟨by repeat (first | (with_reducible first | exact HB.out | apply a6 | apply a4 | apply a5 | refine a9 ?_ eL.out | refine a9 ?_ GE164.out) | exact HB.out)⟩⟩
            ·rw [if_neg c21] at H
             have iM : decide (12 < (((aj af x4_3).f2).length : Int)) = false := decide_eq_false c21
             have c21b1 : decide (12 < ((aj af x4_3).f2).length) = false := decide_eq_false (by omega)
             clear c21
             (first | rw [iM] | (simp only [ar, av]; rw [iM]) | skip)
             have H' := Aside0.mk H
             clear H
             have hnb24 := NB164_161.out
             have hnc24 := NB161_164.out
             have jq : w18.cell? ⟨cT, 0, none⟩ = some (.int .i64 0) := (a7 bK.out 0).trans rfl
             have jr : w18.cell? ⟨cT, 1, none⟩ = some (.int .i64 0) := (a7 bK.out 1).trans rfl
             have hcz25_2 : w18.cell? ⟨cT, 2, none⟩ = some (.slice none 0 0) := (a7 bK.out 2).trans rfl
             have hcz25_3 : w18.cell? ⟨cT, 3, none⟩ = some (.slice none 0 0) := (a7 bK.out 3).trans rfl
             have js := a8 bK.out 0
             have jt := a8 bK.out 1
             have hfz25_2 := a8 bK.out 2
             have hfz25_3 := a8 bK.out 3
             go_wp2
             go_meet
             case rel => exact ⟨_, (decide ((((aj af x4_3).f3).length : Int) > 256)), (by first | rfl | (simp; done) | (simp [*]; done)), H', ⟨by have := HJ1.out; have := HK2.out; have := HK3.out; first | omega | exact Nat.le_refl _⟩, ⟨by (with_reducible repeat (first | refine ab ?_ _ | refine ac ?_ | refine aa ?_ _)); refine be ?_ NB161_164.out _; (with_reducible repeat (first | refine ab ?_ _ | refine ac ?_ | refine aa ?_ _)); refine be ?_ NB161_164.out _; (with_reducible repeat (first | refine ab ?_ _ | refine ac ?_ | refine aa ?_ _)); refine be ?_ NB161_164.out _; (with_reducible repeat (first | refine ab ?_ _ | refine ac ?_ | refine aa ?_ _)); refine be ?_ NB161_164.out _; (with_reducible repeat (first | refine ab ?_ _ | refine ac ?_ | refine aa ?_ _)); exact bS.out⟩, ⟨by (with_reducible repeat (first | refine ab ?_ _ | refine ac ?_ | refine aa ?_ _)); refine aW (cs := #[.int .i64 ((aj af x4_3).f0), .int .i64 ((aj af x4_3).f1), .slice jk ((aj af x4_3).f2).length jl, .slice none 0 0]) ?_ 3 _ rfl; (with_reducible repeat (first | refine ab ?_ _ | refine ac ?_ | refine aa ?_ _)); refine aW (cs := #[.int .i64 ((aj af x4_3).f0), .int .i64 ((aj af x4_3).f1), .slice none 0 0, .slice none 0 0]) ?_ 2 _ rfl; (with_reducible repeat (first | refine ab ?_ _ | refine ac ?_ | refine aa ?_ _)); refine aW (cs := #[.int .i64 ((aj af x4_3).f0), .int .i64 0, .slice none 0 0, .slice none 0 0]) ?_ 1 _ rfl; (with_reducible repeat (first | refine ab ?_ _ | refine ac ?_ | refine aa ?_ _)); refine aW (cs := #[.int .i64 0, .int .i64 0, .slice none 0 0, .slice none 0 0]) ?_ 0 _ rfl; (with_reducible repeat (first | refine ab ?_ _ | refine ac ?_ | refine aa ?_ _)); exact bK.out⟩, ⟨by repeat (first | (with_reducible first | exact HB.out | apply a6 | apply a4 | apply a5 | refine a9 ?_ eL.out | refine a9 ?_ GE164.out) | exact HB.out)⟩⟩
           case rest =>
            clear HC16
            try clear c1; try clear p1; try clear q1; try clear hx1; try clear c2; try clear p2; try clear c4; try clear el; try clear c4b1; try clear p6; try clear c7; try clear c8; try clear c8b0; try clear c9; try clear c9b0; try clear c10; try clear gK; try clear c10b1; try clear c14; try clear c14b0; try clear c15; try clear c15b0; try clear c16; try clear p16; try clear q16; try clear hx16; try clear c19; try clear c21; try clear iM; try clear c21b1; try clear c22; try clear c24; try clear bV; try clear bW; try clear cJ; try clear cK; try clear dk; try clear dm; try clear eT; try clear eU; try clear i2; try clear i4; try clear hcz20_2; try clear hcz20_3; try clear hcz23_0; try clear hcz23_1; try clear hcz23_2; try clear hcz23_3; try clear jq; try clear jr; try clear hcz25_2; try clear hcz25_3; try clear dw; try clear dx; try clear dG; try clear dH; try clear bX; try clear bY; try clear cL; try clear cM; try clear dn; try clear dp; try clear eV; try clear eW; try clear i5; try clear i7; try clear hfz20_2; try clear hfz20_3; try clear hfz23_0; try clear hfz23_1; try clear hfz23_2; try clear hfz23_3; try clear js; try clear jt; try clear hfz25_2; try clear hfz25_3; try clear dy; try clear dz; try clear dI; try clear dJ; try clear e8; try clear jm; try clear jn; try clear jo; try clear jp; try clear p162; try clear p163; try clear q162; try clear q163
            obtain ⟨kq, x52_15, rfl, HA, HJ15, bS, bK, HB⟩ := hcut
            cases kq with
            | zero => exact absurd HA.out (by simp [fastiref15_short.j3])
            | succ kj15 =>
             have H := HA.out
             clear HA
             simp only [fastiref15_short.j3] at H
             by_cases c26 : x52_15 = true
             ·subst c26
              have H1 : (some false) = some r := by rw [if_pos rfl] at H; exact H
              clear H
              have H := H1
              clear H1
              obtain rfl := Option.some.inj H
              go_wp2
              go_ret
              exact ⟨by first | rfl | (simp [al, ak] <;> rfl) | (simp [*, al, ak] <;> rfl), by repeat (first | (with_reducible first | exact HB.out | apply a6 | apply a4 | apply a5 | refine a9 ?_ eL.out | refine a9 ?_ GE164.out) | exact HB.out)⟩
             ·replace c26 := Bool.eq_false_iff.mpr c26
              subst c26
              have H1 : (fastiref15_short.l2 kj15 x4_3 0 ai af ((aj af x4_3).f0) ((aj af x4_3).f1) ((aj af x4_3).f2) ((aj af x4_3).f3)) = some r := by rw [if_neg (show ¬ (false = true) by decide)] at H; exact H
              clear H
              have H := H1
              clear H1
              have H' := Aside0.mk H
              clear H
              go_wp2
              go_loopg [6] kj15 (fun kq v6 w' => ∃ (x6_5 : Int), v6 = .int .i64 x6_5 ∧ Aside0 (fastiref15_short.l2 kq x4_3 x6_5 ai af ((aj af x4_3).f0) ((aj af x4_3).f1) ((aj af x4_3).f2) ((aj af x4_3).f3) = some r) ∧ Aside0 (kq ≤ kj15) ∧ Aside0 (w'.heap[dc]? = some (.cells #[(.slice au ai.length aq), (.slice (some ad163) af.length ao)] 25 (0, 0))) ∧ Aside0 (w'.heap[cT]? = some (.cells #[.int .i64 ((aj af x4_3).f0), .int .i64 ((aj af x4_3).f1), (.slice jk ((aj af x4_3).f2).length jl), (.slice A163_3 ((aj af x4_3).f3).length c163_3)] 49 (0, 0))) ∧ Aside0 (Below w.heap.size w w'))
              case atStart => exact ⟨(0), (by first | rfl | (simp; done) | (simp [*]; done)), H', ⟨Nat.le_refl _⟩, ⟨by (with_reducible repeat (first | refine ab ?_ _ | refine ac ?_ | refine aa ?_ _)); exact bS.out⟩, ⟨by (with_reducible repeat (first | refine ab ?_ _ | refine ac ?_ | refine aa ?_ _)); exact bK.out⟩, ⟨by repeat (first | (with_reducible first | exact HB.out | apply a6 | apply a4 | apply a5 | refine a9 ?_ eL.out | refine a9 ?_ GE164.out) | exact HB.out)⟩⟩
              case round =>
               clear H'
               try clear c1; try clear p1; try clear q1; try clear hx1; try clear c2; try clear p2; try clear c4; try clear el; try clear c4b1; try clear p6; try clear c7; try clear c8; try clear c8b0; try clear c9; try clear c9b0; try clear c10; try clear gK; try clear c10b1; try clear c14; try clear c14b0; try clear c15; try clear c15b0; try clear c16; try clear p16; try clear q16; try clear hx16; try clear c19; try clear c21; try clear iM; try clear c21b1; try clear c22; try clear c24; try clear c26; try clear bV; try clear bW; try clear cJ; try clear cK; try clear dk; try clear dm; try clear eT; try clear eU; try clear i2; try clear i4; try clear hcz20_2; try clear hcz20_3; try clear hcz23_0; try clear hcz23_1; try clear hcz23_2; try clear hcz23_3; try clear jq; try clear jr; try clear hcz25_2; try clear hcz25_3; try clear dw; try clear dx; try clear dG; try clear dH; try clear bX; try clear bY; try clear cL; try clear cM; try clear dn; try clear dp; try clear eV; try clear eW; try clear i5; try clear i7; try clear hfz20_2; try clear hfz20_3; try clear hfz23_0; try clear hfz23_1; try clear hfz23_2; try clear hfz23_3; try clear js; try clear jt; try clear hfz25_2; try clear hfz25_3; try clear dy; try clear dz; try clear dI; try clear dJ; try clear e8; try clear jm; try clear jn; try clear jo; try clear jp; try clear p162; try clear p163; try clear q162; try clear q163
               obtain ⟨x6_5, rfl, HA, HK5, bS, bK, HB⟩ := hrel
               cases gk with
               | zero => exact absurd HA.out (by simp [fastiref15_short.l2])
               | succ k5 =>
                have H := HA.out
                clear HA
                simp only [fastiref15_short.l2] at H
                by_cases c27 : x6_5 < (((aj af x4_3).f3).length : Int)
                ·rw [if_pos c27] at H
                 have c27b0 : decide (x6_5 < (((aj af x4_3).f3).length : Int)) = true := decide_eq_true c27
                 clear c27
                 by_cases c28 : 0 ≤ x6_5
                 ·rw [if_pos c28] at H
                  have c28b0 : decide (0 ≤ x6_5) = true := decide_eq_true c28
                  clear c28
                  by_cases c29 : ((ax ((aj af x4_3).f3) x6_5).length : Int) > 12
                  ·rw [if_pos c29] at H
                   have c29b0 : decide (12 < ((ax ((aj af x4_3).f3) x6_5).length : Int)) = true := decide_eq_true c29
                   have c29b1 : decide (12 < (ax ((aj af x4_3).f3) x6_5).length) = true := decide_eq_true (by omega)
                   clear c29
                   obtain rfl := Option.some.inj H
                   have hnb30 := NB164_161.out
                   have hnc30 := NB161_164.out
                   have hcz31_0 : wr.cell? ⟨cT, 0, none⟩ = some (.int .i64 ((aj af x4_3).f0)) := (a7 bK.out 0).trans rfl
                   have hcz31_1 : wr.cell? ⟨cT, 1, none⟩ = some (.int .i64 ((aj af x4_3).f1)) := (a7 bK.out 1).trans rfl
                   have hcz31_2 : wr.cell? ⟨cT, 2, none⟩ = some (.slice jk ((aj af x4_3).f2).length jl) := (a7 bK.out 2).trans rfl
                   have hcz31_3 : wr.cell? ⟨cT, 3, none⟩ = some (.slice A163_3 ((aj af x4_3).f3).length c163_3) := (a7 bK.out 3).trans rfl
                   have hfz31_0 := a8 bK.out 0
                   have hfz31_1 := a8 bK.out 1
                   have hfz31_2 := a8 bK.out 2
                   have hfz31_3 := a8 bK.out 3
                   have p165 : 0 ≤ (x6_5 : Int) := of_decide_eq_true (by first | (with_reducible assumption) | assumption)
                   have q165 : x6_5 < (((aj af x4_3).f3).length : Int) := of_decide_eq_true (by first | (with_reducible assumption) | assumption)
                   obtain ⟨ad165, A165_0, c165_0, e165, fH, ju, jv⟩ := dD HR163_3.out x6_5 p165 q165
                   cases e165
                   replace fH := (HB.out.cell (World.block_lt_of_cell? w _ fH)).trans fH
                   have HR165_0 := Aside0.mk jv
                   have HC165_0 := Aside0.mk ju
                   clear jv ju
                   replace p165 := eq_true p165
                   replace q165 := eq_true q165
                   go_wp2
                   go_ret
                   exact ⟨by first | rfl | (simp [al, ak] <;> rfl) | (simp [*, al, ak] <;> rfl), by repeat (first | (with_reducible first | exact HB.out | apply a6 | apply a4 | apply a5 | refine a9 ?_ eL.out | refine a9 ?_ GE164.out) | exact HB.out)⟩
                  ·rw [if_neg c29] at H
                   have c29b0 : decide (12 < ((ax ((aj af x4_3).f3) x6_5).length : Int)) = false := decide_eq_false c29
                   have c29b1 : decide (12 < (ax ((aj af x4_3).f3) x6_5).length) = false := decide_eq_false (by omega)
                   clear c29
                   have H' := Aside0.mk H
                   clear H
                   have hnb32 := NB164_161.out
                   have hnc32 := NB161_164.out
                   have hcz33_0 : wr.cell? ⟨cT, 0, none⟩ = some (.int .i64 ((aj af x4_3).f0)) := (a7 bK.out 0).trans rfl
                   have hcz33_1 : wr.cell? ⟨cT, 1, none⟩ = some (.int .i64 ((aj af x4_3).f1)) := (a7 bK.out 1).trans rfl
                   have hcz33_2 : wr.cell? ⟨cT, 2, none⟩ = some (.slice jk ((aj af x4_3).f2).length jl) := (a7 bK.out 2).trans rfl
                   have hcz33_3 : wr.cell? ⟨cT, 3, none⟩ = some (.slice A163_3 ((aj af x4_3).f3).length c163_3) := (a7 bK.out 3).trans rfl
                   have hfz33_0 := a8 bK.out 0
                   have hfz33_1 := a8 bK.out 1
                   have hfz33_2 := a8 bK.out 2
                   have hfz33_3 := a8 bK.out 3
                   have p165 : 0 ≤ (x6_5 : Int) := of_decide_eq_true (by first | (with_reducible assumption) | assumption)
                   have q165 : x6_5 < (((aj af x4_3).f3).length : Int) := of_decide_eq_true (by first | (with_reducible assumption) | assumption)
                   obtain ⟨ad165, A165_0, c165_0, e165, fH, ju, jv⟩ := dD HR163_3.out x6_5 p165 q165
                   cases e165
                   replace fH := (HB.out.cell (World.block_lt_of_cell? w _ fH)).trans fH
                   have HR165_0 := Aside0.mk jv
                   have HC165_0 := Aside0.mk ju
                   clear jv ju
                   replace p165 := eq_true p165
                   replace q165 := eq_true q165
                   go_wp2
                   go_roundg k5
                   case measure => have := HJ1.out; have := HK2.out; have := HK3.out; have := HJ15.out; have := HK5.out; omega
                   case rel => exact ⟨(wrap64 (x6_5 + 1)), (by first | rfl | (simp; done) | (simp [*]; done)), H', ⟨by have := HJ1.out; have := HK2.out; have := HK3.out; have := HJ15.out; have := HK5.out; omega⟩, ⟨by (with_reducible repeat (first | refine ab ?_ _ | refine ac ?_ | refine aa ?_ _)); exact bS.out⟩, ⟨by (with_reducible repeat (first | refine ab ?_ _ | refine ac ?_ | refine aa ?_ _)); exact bK.out⟩, ⟨by repeat (first | (with_reducible first | exact HB.out | apply a6 | apply a4 | apply a5 | refine a9 ?_ eL.out | refine a9 ?_ GE164.out) | exact HB.out)⟩⟩
                 ·rw [if_neg c28] at H
                  exact absurd H (by simp)
                ·rw [if_neg c27] at H
                 have c27b0 : decide (x6_5 < (((aj af x4_3).f3).length : Int)) = false := decide_eq_false c27
                 clear c27
                 have H' := Aside0.mk H
                 clear H
                 have hnb34 := NB164_161.out
                 have hnc34 := NB161_164.out
                 have hcz35_0 : wr.cell? ⟨cT, 0, none⟩ = some (.int .i64 ((aj af x4_3).f0)) := (a7 bK.out 0).trans rfl
                 have hcz35_1 : wr.cell? ⟨cT, 1, none⟩ = some (.int .i64 ((aj af x4_3).f1)) := (a7 bK.out 1).trans rfl
                 have hcz35_2 : wr.cell? ⟨cT, 2, none⟩ = some (.slice jk ((aj af x4_3).f2).length jl) := (a7 bK.out 2).trans rfl
                 have hcz35_3 : wr.cell? ⟨cT, 3, none⟩ = some (.slice A163_3 ((aj af x4_3).f3).length c163_3) := (a7 bK.out 3).trans rfl
                 have hfz35_0 := a8 bK.out 0
                 have hfz35_1 := a8 bK.out 1
                 have hfz35_2 := a8 bK.out 2
                 have hfz35_3 := a8 bK.out 3
                 go_wp2
                 go_roundg k5
                 case measure => have := HJ1.out; have := HK2.out; have := HK3.out; have := HJ15.out; have := HK5.out; omega
                 case rel => exact ⟨(wrap64 (x4_3 + 1)), (by first | rfl | (simp; done) | (simp [*]; done)), H', ⟨by have := HJ1.out; have := HK2.out; have := HK3.out; have := HJ15.out; have := HK5.out; omega⟩, ⟨by (with_reducible repeat (first | refine ab ?_ _ | refine ac ?_ | refine aa ?_ _)); exact bS.out⟩, ⟨by repeat (first | (with_reducible first | exact HB.out | apply a6 | apply a4 | apply a5 | refine a9 ?_ eL.out | refine a9 ?_ GE164.out) | exact HB.out)⟩⟩
          ·rw [if_neg c15] at H
           exact absurd H (by simp)
         ·rw [if_neg c14] at H
          have c14b0 : decide (x4_3 < (af.length : Int)) = false := decide_eq_false c14
          clear c14
          obtain rfl := Option.some.inj H
          have hcz36_0 : wr.cell? ⟨dc, 0, none⟩ = some (.slice au ai.length aq) := (a7 bS.out 0).trans rfl
          have hcz36_1 : wr.cell? ⟨dc, 1, none⟩ = some (.slice aw af.length ao) := (a7 bS.out 1).trans rfl
          have hfz36_0 := a8 bS.out 0
          have hfz36_1 := a8 bS.out 1
          go_wp2
          go_ret
          exact ⟨by first | rfl | (simp [al, ak] <;> rfl) | (simp [*, al, ak] <;> rfl), by repeat (first | (with_reducible first | exact HB.out | apply a6 | apply a4 | apply a5 | refine a9 ?_ eL.out) | exact HB.out)⟩
end Go.Proofs.Ytcbpkdemcdikaaa.X
namespace Go.Proofs.Ytcbpkdemcdikaaa.X
open Go.RowKit Go.Proofs.YtcbpkdemcdikaaaW.PrintWords Go.Proofs.YtcbpkdemcdikaaaW.PrintLast Go.Proofs.YtcbpkdemcdikaaaW.PrintMore
attribute [local go_sem] aT aM aZ bc aE aG aU aN   
set_option linter.unusedVariables false
set_option linter.unusedSimpArgs false
def fastiref15_Tries.l0 : Nat → Int → Int → List (List Int) → List (S49) → Option (Int)
 | 0, _, _, _, _ => none
 | k + 1, x3, x4, x167000, x167001 => if x4 < (x167000.length : Int) then (if x3 ≤ 65536 then (if 0 ≤ x4 then (fastiref15_Tries.l0 k (wrap64 (x3 * ((ax x167000 x4).length : Int))) (wrap64 (x4 + 1)) x167000 x167001) else (none)) else (some x3)) else (some x3)
def fastiref15_Tries.f (k : Nat) (ai : List (List Int)) (af : List (S49)) : Option (Int) := fastiref15_Tries.l0 k 1 0 ai af
set_option maxHeartbeats 8000000 in
set_option maxRecDepth 100000 in
theorem fastiref15_Tries.calls (k : Nat) (au : Option Addr) (aq : Nat) (ai : List (List Int)) (aw : Option Addr) (ao : Nat) (af : List (S49)) (r : Int) (w : World) (bG : Kd.C (Kd.slice 3 (Kd.int .i64)) w au ai.length ai) (bO : ai.length ≤ aq) (bB : Kd.C k49 w aw af.length af) (bF : af.length ≤ ao) (h : fastiref15_Tries.f k ai af = some r) :
  Calls Try.prog 30 #[.agg #[.slice au ai.length aq, .slice aw af.length ao]] w fun e w' => e = .returned (.int .i64 r) ∧ Below w.heap.size w w' := by
 have hu25 := Try.underlying25
 have bf := Aside0.mk bG
 have bo := Aside0.mk bO
 clear bG bO
 have bd := Aside0.mk bB
 have bn := Aside0.mk bF
 clear bB bF
 have HB := Aside0.mk (Below.refl w.heap.size w)
 have H : (fastiref15_Tries.l0 k 1 0 ai af) = some r := h
 clear h
 have H' := Aside0.mk H
 clear H
 go_enter Try.func30, Try.ntmps30
 go_wp2_with (first | ((with_reducible refine az (N := 1) rfl ?_); refine ap ?hg (N := 1) ?hd (cs := #[.slice au ai.length aq, .slice aw af.length ao]) (t := 25) ?hr ?_; (case hd => rfl); (case hg => rfl); (case hr => first | (go_simp; done) | (go_simp; rfl)); intro gb166 hg w2 hbox hb; have n0_ := Aside0.mk (ah (by repeat (first | (with_reducible first | exact HB.out | apply a6 | apply a4 | apply a5) | exact HB.out)) hb); have n1_ := Aside0.mk (hbox); have n2_ := Aside0.mk ((by rw [hg]; exact (ae (by repeat (first | (with_reducible first | exact HB.out | apply a6 | apply a4 | apply a5) | exact HB.out))) : w.heap.size ≤ gb166)); have n3_ := Aside0.mk ((by rw [hg]; exact (ae (by repeat (first | (with_reducible first | exact HB.out | apply a6 | apply a4 | apply a5) | exact HB.out))) : w.heap.size ≤ gb166)); clear HB; have HB := n0_; have fJ := n1_; have GW166 := n2_; have GE166 := n3_; clear n0_ n1_ n2_ n3_; clear hb hbox hg))
 go_loopg [3, 4] k (fun kq v3 v4 w' => ∃ (x3_1 : Int) (x4_1 : Int), v3 = .int .i64 x3_1 ∧ v4 = .int .i64 x4_1 ∧ Aside0 (fastiref15_Tries.l0 kq x3_1 x4_1 ai af = some r) ∧ Aside0 (kq ≤ k) ∧ Aside0 (w'.heap[gb166]? = some (.cells #[(.slice au ai.length aq), (.slice aw af.length ao)] 25 (0, 0))) ∧ Aside0 (Below w.heap.size w w'))
 case atStart => exact ⟨(1), (0), (by first | rfl | (simp; done) | (simp [*]; done)), (by first | rfl | (simp; done) | (simp [*]; done)), H', ⟨Nat.le_refl _⟩, ⟨by (with_reducible repeat (first | refine ab ?_ _ | refine ac ?_ | refine aa ?_ _)); exact fJ.out⟩, ⟨by repeat (first | (with_reducible first | exact HB.out | apply a6 | apply a4 | apply a5 | refine a9 ?_ GE166.out) | exact HB.out)⟩⟩
 case round =>
  clear H'
  try clear p2
  obtain ⟨x3_1, x4_1, rfl, rfl, HA, HK1, fJ, HB⟩ := hrel
  cases gk with
  | zero => exact absurd HA.out (by simp [fastiref15_Tries.l0])
  | succ k1 =>
   have H := HA.out
   clear HA
   simp only [fastiref15_Tries.l0] at H
   by_cases c3 : x4_1 < (ai.length : Int)
   ·rw [if_pos c3] at H
    have iE : decide (x4_1 < (ai.length : Int)) = true := decide_eq_true c3
    clear c3
    by_cases c4 : x3_1 ≤ 65536
    ·rw [if_pos c4] at H
     have el : decide (x3_1 ≤ 65536) = true := decide_eq_true c4
     clear c4
     by_cases c5 : 0 ≤ x4_1
     ·rw [if_pos c5] at H
      have c5b0 : decide (0 ≤ x4_1) = true := decide_eq_true c5
      clear c5
      have H' := Aside0.mk H
      clear H
      have dG : wr.cell? ⟨gb166, 0, none⟩ = some (.slice au ai.length aq) := (a7 fJ.out 0).trans rfl
      have dH : wr.cell? ⟨gb166, 1, none⟩ = some (.slice aw af.length ao) := (a7 fJ.out 1).trans rfl
      have dI := a8 fJ.out 0
      have dJ := a8 fJ.out 1
      have p167 : 0 ≤ (x4_1 : Int) := of_decide_eq_true (by first | (with_reducible assumption) | assumption)
      have q167 : x4_1 < (ai.length : Int) := of_decide_eq_true (by first | (with_reducible assumption) | assumption)
      obtain ⟨ad167, A167_0, c167_0, e167, hx167_0, hl167_0, hi167_0⟩ := dD bf.out x4_1 p167 q167
      cases e167
      replace hx167_0 := (HB.out.cell (World.block_lt_of_cell? w _ hx167_0)).trans hx167_0
      have HR167_0 := Aside0.mk hi167_0
      have HC167_0 := Aside0.mk hl167_0
      clear hi167_0 hl167_0
      replace p167 := eq_true p167
      replace q167 := eq_true q167
      go_wp2
      go_roundg k1
      case measure => have := HK1.out; omega
      case rel => exact ⟨(wrap64 (x3_1 * ((ax ai x4_1).length : Int))), (wrap64 (x4_1 + 1)), (by first | rfl | (simp; done) | (simp [*]; done)), (by first | rfl | (simp; done) | (simp [*]; done)), H', ⟨by have := HK1.out; omega⟩, ⟨by (with_reducible repeat (first | refine ab ?_ _ | refine ac ?_ | refine aa ?_ _)); exact fJ.out⟩, ⟨by repeat (first | (with_reducible first | exact HB.out | apply a6 | apply a4 | apply a5 | refine a9 ?_ GE166.out) | exact HB.out)⟩⟩
     ·rw [if_neg c5] at H
      exact absurd H (by simp)
    ·rw [if_neg c4] at H
     have el : decide (x3_1 ≤ 65536) = false := decide_eq_false c4
     clear c4
     obtain rfl := Option.some.inj H
     have gL : wr.cell? ⟨gb166, 0, none⟩ = some (.slice au ai.length aq) := (a7 fJ.out 0).trans rfl
     have gM : wr.cell? ⟨gb166, 1, none⟩ = some (.slice aw af.length ao) := (a7 fJ.out 1).trans rfl
     have gN := a8 fJ.out 0
     have gO := a8 fJ.out 1
     go_wp2
     go_ret
     exact ⟨by first | rfl | (simp [al, ak] <;> rfl) | (simp [*, al, ak] <;> rfl), by repeat (first | (with_reducible first | exact HB.out | apply a6 | apply a4 | apply a5 | refine a9 ?_ GE166.out) | exact HB.out)⟩
   ·rw [if_neg c3] at H
    have iE : decide (x4_1 < (ai.length : Int)) = false := decide_eq_false c3
    clear c3
    obtain rfl := Option.some.inj H
    have dX : wr.cell? ⟨gb166, 0, none⟩ = some (.slice au ai.length aq) := (a7 fJ.out 0).trans rfl
    have dY : wr.cell? ⟨gb166, 1, none⟩ = some (.slice aw af.length ao) := (a7 fJ.out 1).trans rfl
    have dZ := a8 fJ.out 0
    have e6 := a8 fJ.out 1
    go_wp2
    go_ret
    exact ⟨by first | rfl | (simp [al, ak] <;> rfl) | (simp [*, al, ak] <;> rfl), by repeat (first | (with_reducible first | exact HB.out | apply a6 | apply a4 | apply a5 | refine a9 ?_ GE166.out) | exact HB.out)⟩
def fastiref15_Few.l0 : Nat → Int → List (List Int) → List (S49) → Option (Bool)
 | 0, _, _, _ => none
 | k + 1, x3, x169000, jw => if x3 < (jw.length : Int) then (if 0 ≤ x3 then (if (((aj jw x3).f3).length : Int) > 20 then (some false) else (fastiref15_Few.l0 k (wrap64 (x3 + 1)) x169000 jw)) else (none)) else ((fastiref15_Tries.f k x169000 jw).bind fun t171 => (if t171 ≤ 256 then (some true) else ((fastiref15_Tries.f k x169000 jw).bind fun t172 => (some (decide (t172 > 65536))))))
def fastiref15_Few.f (k : Nat) (ai : List (List Int)) (af : List (S49)) : Option (Bool) := (fastiref15_short.f k ai af).bind fun t169 => (if t169 = true then (if (af.length : Int) > 8 then (some false) else (fastiref15_Few.l0 k 0 ai af)) else (if (ai.length : Int) ≤ 100 then (some (decide ((af.length : Int) ≤ 100))) else (some false)))
set_option maxHeartbeats 8000000 in
set_option maxRecDepth 100000 in
theorem fastiref15_Few.calls (k : Nat) (au : Option Addr) (aq : Nat) (ai : List (List Int)) (aw : Option Addr) (ao : Nat) (af : List (S49)) (r : Bool) (w : World) (bG : Kd.C (Kd.slice 3 (Kd.int .i64)) w au ai.length ai) (bO : ai.length ≤ aq) (bB : Kd.C k49 w aw af.length af) (bF : af.length ≤ ao) (h : fastiref15_Few.f k ai af = some r) :
  Calls Try.prog 12 #[.agg #[.slice au ai.length aq, .slice aw af.length ao]] w fun e w' => e = .returned (.bool r) ∧ Below w.heap.size w w' := by
 have hu25 := Try.underlying25
 have bf := Aside0.mk bG
 have bo := Aside0.mk bO
 clear bG bO
 have bd := Aside0.mk bB
 have bn := Aside0.mk bF
 clear bB bF
 have HB := Aside0.mk (Below.refl w.heap.size w)
 have H : ((fastiref15_short.f k ai af).bind fun t169 => (if t169 = true then (if (af.length : Int) > 8 then (some false) else (fastiref15_Few.l0 k 0 ai af)) else (if (ai.length : Int) ≤ 100 then (some (decide ((af.length : Int) ≤ 100))) else (some false)))) = some r := h
 clear h
 replace H := Option.bind_eq_some_iff.mp H
 obtain ⟨t169, A20, H⟩ := H
 replace H : (if t169 = true then (if (af.length : Int) > 8 then (some false) else (fastiref15_Few.l0 k 0 ai af)) else (if (ai.length : Int) ≤ 100 then (some (decide ((af.length : Int) ≤ 100))) else (some false))) = some r := H
 have A2 := Aside0.mk A20
 clear A20
 by_cases c3 : t169 = true
 ·subst c3
  have H1 : (if (af.length : Int) > 8 then (some false) else (fastiref15_Few.l0 k 0 ai af)) = some r := by rw [if_pos rfl] at H; exact H
  clear H
  have H := H1
  clear H1
  by_cases c4 : (af.length : Int) > 8
  ·rw [if_pos c4] at H
   have el : decide (8 < (af.length : Int)) = true := decide_eq_true c4
   have c4b1 : decide (8 < af.length) = true := decide_eq_true (by omega)
   clear c4
   obtain rfl := Option.some.inj H
   go_enter Try.func12, Try.ntmps12
   go_wp2_with (first | ((with_reducible refine az (N := 1) rfl ?_); (try (refine aJ (by rfl) ?_; dsimp only)); refine ap ?hg (N := 1) ?hd (cs := #[.slice au ai.length aq, .slice aw af.length ao]) (t := 25) ?hr ?_; (case hd => rfl); (case hg => rfl); (case hr => first | (go_simp; done) | (go_simp; rfl)); intro bZ hg w5 hbox hb; have n0_ := Aside0.mk (ah (by repeat (first | (with_reducible first | exact HB.out | apply a6 | apply a4 | apply a5) | exact HB.out)) hb); have n1_ := Aside0.mk (hbox); have n2_ := Aside0.mk ((by rw [hg]; exact (ae (by repeat (first | (with_reducible first | exact HB.out | apply a6 | apply a4 | apply a5) | exact HB.out))) : w.heap.size ≤ bZ)); have n3_ := Aside0.mk ((by rw [hg]; exact (ae (by repeat (first | (with_reducible first | exact HB.out | apply a6 | apply a4 | apply a5) | exact HB.out))) : w.heap.size ≤ bZ)); clear HB; have HB := n0_; have bi := n1_; have GW168 := n2_; have eM := n3_; clear n0_ n1_ n2_ n3_; clear hb hbox hg; have dG : w5.cell? ⟨bZ, 0, none⟩ = some (.slice au ai.length aq) := (a7 bi.out 0).trans rfl; have dH : w5.cell? ⟨bZ, 1, none⟩ = some (.slice aw af.length ao) := (a7 bi.out 1).trans rfl; have dI := a8 bi.out 0; have dJ := a8 bi.out 1) | ((with_reducible refine am (f := 29) rfl ?_); refine aY (some 5) rfl rfl Try.func29 (by kernel_rfl) rfl #[.agg #[.slice au ai.length aq, .slice aw af.length ao]] rfl (by (try simp only [List.map_toArray, List.map_cons, List.map_nil]); first | done | rfl | (simp only [List.length_drop, List.length_take]; rfl)) ?_; (with_reducible refine (fastiref15_short.calls k _ _ ai _ _ af true _ ?side1 ?side2 ?side3 ?side4 A2.out).mono ?_); (case side1 => repeat (first | exact (Kd.C_below bf.out HB.out) | (with_reducible refine Kd.C_alloc ?_ _) | (with_reducible refine Kd.C_drewN ?_ _) | (with_reducible refine Kd.C_drew ?_))); (case side2 => exact bo.out); (case side3 => repeat (first | exact (Kd.C_below bd.out HB.out) | (with_reducible refine Kd.C_alloc ?_ _) | (with_reducible refine Kd.C_drewN ?_ _) | (with_reducible refine Kd.C_drew ?_))); (case side4 => exact bn.out); rintro e w7 ⟨rfl, hb⟩; refine ⟨_, rfl, ?_⟩; have n0_ := Aside0.mk (ag (g := bZ) (o := .cells #[.slice au ai.length aq, .slice aw af.length ao] 25 (0, 0)) (by (with_reducible repeat (first | refine ab ?_ _ | refine ac ?_ | refine aa ?_ _)); exact bi.out) hb); have n1_ := Aside0.mk (ah (by repeat (first | (with_reducible first | exact HB.out | apply a6 | apply a4 | apply a5 | refine a9 ?_ eM.out) | exact HB.out)) hb); clear bi; clear HB; have bi := n0_; have HB := n1_; clear n0_ n1_; (try clear hb); (try clear hb2); (try clear hk); (try clear hi); have dX : w7.cell? ⟨bZ, 0, none⟩ = some (.slice au ai.length aq) := (a7 bi.out 0).trans rfl; have dY : w7.cell? ⟨bZ, 1, none⟩ = some (.slice aw af.length ao) := (a7 bi.out 1).trans rfl; have dZ := a8 bi.out 0; have e6 := a8 bi.out 1))
   go_ret
   exact ⟨by first | rfl | (simp [al, ak] <;> rfl) | (simp [*, al, ak] <;> rfl), by repeat (first | (with_reducible first | exact HB.out | apply a6 | apply a4 | apply a5 | refine a9 ?_ eM.out) | exact HB.out)⟩
  ·rw [if_neg c4] at H
   have el : decide (8 < (af.length : Int)) = false := decide_eq_false c4
   have c4b1 : decide (8 < af.length) = false := decide_eq_false (by omega)
   clear c4
   have H' := Aside0.mk H
   clear H
   go_enter Try.func12, Try.ntmps12
   go_wp2_with (first | ((with_reducible refine az (N := 1) rfl ?_); (try (refine aJ (by rfl) ?_; dsimp only)); refine ap ?hg (N := 1) ?hd (cs := #[.slice au ai.length aq, .slice aw af.length ao]) (t := 25) ?hr ?_; (case hd => rfl); (case hg => rfl); (case hr => first | (go_simp; done) | (go_simp; rfl)); intro bZ hg w9 hbox hb; have n0_ := Aside0.mk (ah (by repeat (first | (with_reducible first | exact HB.out | apply a6 | apply a4 | apply a5) | exact HB.out)) hb); have n1_ := Aside0.mk (hbox); have n2_ := Aside0.mk ((by rw [hg]; exact (ae (by repeat (first | (with_reducible first | exact HB.out | apply a6 | apply a4 | apply a5) | exact HB.out))) : w.heap.size ≤ bZ)); have n3_ := Aside0.mk ((by rw [hg]; exact (ae (by repeat (first | (with_reducible first | exact HB.out | apply a6 | apply a4 | apply a5) | exact HB.out))) : w.heap.size ≤ bZ)); clear HB; have HB := n0_; have bi := n1_; have GW168 := n2_; have eM := n3_; clear n0_ n1_ n2_ n3_; clear hb hbox hg; have eX : w9.cell? ⟨bZ, 0, none⟩ = some (.slice au ai.length aq) := (a7 bi.out 0).trans rfl; have eY : w9.cell? ⟨bZ, 1, none⟩ = some (.slice aw af.length ao) := (a7 bi.out 1).trans rfl; have eZ := a8 bi.out 0; have f4 := a8 bi.out 1) | ((with_reducible refine am (f := 29) rfl ?_); refine aY (some 5) rfl rfl Try.func29 (by kernel_rfl) rfl #[.agg #[.slice au ai.length aq, .slice aw af.length ao]] rfl (by (try simp only [List.map_toArray, List.map_cons, List.map_nil]); first | done | rfl | (simp only [List.length_drop, List.length_take]; rfl)) ?_; (with_reducible refine (fastiref15_short.calls k _ _ ai _ _ af true _ ?side1 ?side2 ?side3 ?side4 A2.out).mono ?_); (case side1 => repeat (first | exact (Kd.C_below bf.out HB.out) | (with_reducible refine Kd.C_alloc ?_ _) | (with_reducible refine Kd.C_drewN ?_ _) | (with_reducible refine Kd.C_drew ?_))); (case side2 => exact bo.out); (case side3 => repeat (first | exact (Kd.C_below bd.out HB.out) | (with_reducible refine Kd.C_alloc ?_ _) | (with_reducible refine Kd.C_drewN ?_ _) | (with_reducible refine Kd.C_drew ?_))); (case side4 => exact bn.out); rintro e w11 ⟨rfl, hb⟩; refine ⟨_, rfl, ?_⟩; have n0_ := Aside0.mk (ag (g := bZ) (o := .cells #[.slice au ai.length aq, .slice aw af.length ao] 25 (0, 0)) (by (with_reducible repeat (first | refine ab ?_ _ | refine ac ?_ | refine aa ?_ _)); exact bi.out) hb); have n1_ := Aside0.mk (ah (by repeat (first | (with_reducible first | exact HB.out | apply a6 | apply a4 | apply a5 | refine a9 ?_ eM.out) | exact HB.out)) hb); clear bi; clear HB; have bi := n0_; have HB := n1_; clear n0_ n1_; (try clear hb); (try clear hb2); (try clear hk); (try clear hi); have cJ : w11.cell? ⟨bZ, 0, none⟩ = some (.slice au ai.length aq) := (a7 bi.out 0).trans rfl; have cK : w11.cell? ⟨bZ, 1, none⟩ = some (.slice aw af.length ao) := (a7 bi.out 1).trans rfl; have cL := a8 bi.out 0; have cM := a8 bi.out 1))
   go_loopg [3] k (fun kq v3 w' => ∃ (x3_1 : Int), v3 = .int .i64 x3_1 ∧ Aside0 (fastiref15_Few.l0 kq x3_1 ai af = some r) ∧ Aside0 (kq ≤ k) ∧ Aside0 (w'.heap[bZ]? = some (.cells #[(.slice au ai.length aq), (.slice aw af.length ao)] 25 (0, 0))) ∧ Aside0 (Below w.heap.size w w'))
   case atStart => exact ⟨(0), (by first | rfl | (simp; done) | (simp [*]; done)), H', ⟨Nat.le_refl _⟩, ⟨by (with_reducible repeat (first | refine ab ?_ _ | refine ac ?_ | refine aa ?_ _)); exact bi.out⟩, ⟨by repeat (first | (with_reducible first | exact HB.out | apply a6 | apply a4 | apply a5 | refine a9 ?_ eM.out) | exact HB.out)⟩⟩
   case round =>
    clear H'
    try clear c1; try clear c2; try clear p2; try clear c3; try clear c4; try clear el; try clear c4b1; try clear c12; try clear eX; try clear eY; try clear cJ; try clear cK; try clear dG; try clear dH; try clear dX; try clear dY; try clear eZ; try clear f4; try clear cL; try clear cM; try clear dI; try clear dJ; try clear dZ; try clear e6
    obtain ⟨x3_1, rfl, HA, HK1, bi, HB⟩ := hrel
    cases gk with
    | zero => exact absurd HA.out (by simp [fastiref15_Few.l0])
    | succ k1 =>
     have H := HA.out
     clear HA
     simp only [fastiref15_Few.l0] at H
     by_cases c13 : x3_1 < (af.length : Int)
     ·rw [if_pos c13] at H
      have jx : decide (x3_1 < (af.length : Int)) = true := decide_eq_true c13
      clear c13
      by_cases c14 : 0 ≤ x3_1
      ·rw [if_pos c14] at H
       have c14b0 : decide (0 ≤ x3_1) = true := decide_eq_true c14
       clear c14
       by_cases c15 : (((aj af x3_1).f3).length : Int) > 20
       ·rw [if_pos c15] at H
        have c15b0 : decide (20 < (((aj af x3_1).f3).length : Int)) = true := decide_eq_true c15
        have c15b1 : decide (20 < ((aj af x3_1).f3).length) = true := decide_eq_true (by omega)
        clear c15
        obtain rfl := Option.some.inj H
        have ib : wr.cell? ⟨bZ, 0, none⟩ = some (.slice au ai.length aq) := (a7 bi.out 0).trans rfl
        have ic : wr.cell? ⟨bZ, 1, none⟩ = some (.slice aw af.length ao) := (a7 bi.out 1).trans rfl
        have ie := a8 bi.out 0
        have ig := a8 bi.out 1
        have p170 : 0 ≤ (x3_1 : Int) := of_decide_eq_true (by first | (with_reducible assumption) | assumption)
        have q170 : x3_1 < (af.length : Int) := of_decide_eq_true (by first | (with_reducible assumption) | assumption)
        obtain ⟨ad170, A170_2, c170_2, A170_3, c170_3, e170, fK, fL, fM, fN, jy, jz, jA, jB⟩ := dv bd.out x3_1 p170 q170
        cases e170
        replace fK := (HB.out.cell (World.block_lt_of_cell? w _ fK)).trans fK
        replace fL := (HB.out.cell (World.block_lt_of_cell? w _ fL)).trans fL
        replace fM := (HB.out.cell (World.block_lt_of_cell? w _ fM)).trans fM
        replace fN := (HB.out.cell (World.block_lt_of_cell? w _ fN)).trans fN
        have HR170_2 := Aside0.mk jz
        have HC170_2 := Aside0.mk jy
        clear jz jy
        have HR170_3 := Aside0.mk jB
        have HC170_3 := Aside0.mk jA
        clear jB jA
        replace p170 := eq_true p170
        replace q170 := eq_true q170
        go_wp2
        go_ret
        exact ⟨by first | rfl | (simp [al, ak] <;> rfl) | (simp [*, al, ak] <;> rfl), by repeat (first | (with_reducible first | exact HB.out | apply a6 | apply a4 | apply a5 | refine a9 ?_ eM.out) | exact HB.out)⟩
       ·rw [if_neg c15] at H
        have c15b0 : decide (20 < (((aj af x3_1).f3).length : Int)) = false := decide_eq_false c15
        have c15b1 : decide (20 < ((aj af x3_1).f3).length) = false := decide_eq_false (by omega)
        clear c15
        have H' := Aside0.mk H
        clear H
        have eT : wr.cell? ⟨bZ, 0, none⟩ = some (.slice au ai.length aq) := (a7 bi.out 0).trans rfl
        have eU : wr.cell? ⟨bZ, 1, none⟩ = some (.slice aw af.length ao) := (a7 bi.out 1).trans rfl
        have eV := a8 bi.out 0
        have eW := a8 bi.out 1
        have p170 : 0 ≤ (x3_1 : Int) := of_decide_eq_true (by first | (with_reducible assumption) | assumption)
        have q170 : x3_1 < (af.length : Int) := of_decide_eq_true (by first | (with_reducible assumption) | assumption)
        obtain ⟨ad170, A170_2, c170_2, A170_3, c170_3, e170, fK, fL, fM, fN, jy, jz, jA, jB⟩ := dv bd.out x3_1 p170 q170
        cases e170
        replace fK := (HB.out.cell (World.block_lt_of_cell? w _ fK)).trans fK
        replace fL := (HB.out.cell (World.block_lt_of_cell? w _ fL)).trans fL
        replace fM := (HB.out.cell (World.block_lt_of_cell? w _ fM)).trans fM
        replace fN := (HB.out.cell (World.block_lt_of_cell? w _ fN)).trans fN
        have HR170_2 := Aside0.mk jz
        have HC170_2 := Aside0.mk jy
        clear jz jy
        have HR170_3 := Aside0.mk jB
        have HC170_3 := Aside0.mk jA
        clear jB jA
        replace p170 := eq_true p170
        replace q170 := eq_true q170
        go_wp2
        go_roundg k1
        case measure => have := HK1.out; omega
        case rel => exact ⟨(wrap64 (x3_1 + 1)), (by first | rfl | (simp; done) | (simp [*]; done)), H', ⟨by have := HK1.out; omega⟩, ⟨by (with_reducible repeat (first | refine ab ?_ _ | refine ac ?_ | refine aa ?_ _)); exact bi.out⟩, ⟨by repeat (first | (with_reducible first | exact HB.out | apply a6 | apply a4 | apply a5 | refine a9 ?_ eM.out) | exact HB.out)⟩⟩
      ·rw [if_neg c14] at H
       exact absurd H (by simp)
     ·rw [if_neg c13] at H
      have jx : decide (x3_1 < (af.length : Int)) = false := decide_eq_false c13
      clear c13
      replace H := Option.bind_eq_some_iff.mp H
      obtain ⟨t171, A180, H⟩ := H
      replace H : (if t171 ≤ 256 then (some true) else ((fastiref15_Tries.f k1 ai af).bind fun t172 => (some (decide (t172 > 65536))))) = some r := H
      have A18 := Aside0.mk A180
      clear A180
      by_cases c19 : t171 ≤ 256
      ·rw [if_pos c19] at H
       have c19b0 : decide (t171 ≤ 256) = true := decide_eq_true c19
       clear c19
       obtain rfl := Option.some.inj H
       have i2 : wr.cell? ⟨bZ, 0, none⟩ = some (.slice au ai.length aq) := (a7 bi.out 0).trans rfl
       have i4 : wr.cell? ⟨bZ, 1, none⟩ = some (.slice aw af.length ao) := (a7 bi.out 1).trans rfl
       have i5 := a8 bi.out 0
       have i7 := a8 bi.out 1
       go_wp2_with (first | ((with_reducible refine am (f := 30) rfl ?_); refine aY (some 37) rfl rfl Try.func30 (by kernel_rfl) rfl #[.agg #[.slice au ai.length aq, .slice aw af.length ao]] rfl (by (try simp only [List.map_toArray, List.map_cons, List.map_nil]); first | done | rfl | (simp only [List.length_drop, List.length_take]; rfl)) ?_; (with_reducible refine (fastiref15_Tries.calls k1 _ _ ai _ _ af t171 _ ?side1 ?side2 ?side3 ?side4 A18.out).mono ?_); (case side1 => repeat (first | exact (Kd.C_below bf.out HB.out) | (with_reducible refine Kd.C_alloc ?_ _) | (with_reducible refine Kd.C_drewN ?_ _) | (with_reducible refine Kd.C_drew ?_))); (case side2 => exact bo.out); (case side3 => repeat (first | exact (Kd.C_below bd.out HB.out) | (with_reducible refine Kd.C_alloc ?_ _) | (with_reducible refine Kd.C_drewN ?_ _) | (with_reducible refine Kd.C_drew ?_))); (case side4 => exact bn.out); rintro e w21 ⟨rfl, hb⟩; refine ⟨_, rfl, ?_⟩; have n0_ := Aside0.mk (ag (g := bZ) (o := .cells #[.slice au ai.length aq, .slice aw af.length ao] 25 (0, 0)) (by (with_reducible repeat (first | refine ab ?_ _ | refine ac ?_ | refine aa ?_ _)); exact bi.out) hb); have n1_ := Aside0.mk (ah (by repeat (first | (with_reducible first | exact HB.out | apply a6 | apply a4 | apply a5 | refine a9 ?_ eM.out) | exact HB.out)) hb); clear bi; clear HB; have bi := n0_; have HB := n1_; clear n0_ n1_; (try clear hb); (try clear hb2); (try clear hk); (try clear hi)))
       go_ret
       exact ⟨by first | rfl | (simp [al, ak] <;> rfl) | (simp [*, al, ak] <;> rfl), by repeat (first | (with_reducible first | exact HB.out | apply a6 | apply a4 | apply a5 | refine a9 ?_ eM.out) | exact HB.out)⟩
      ·rw [if_neg c19] at H
       have c19b0 : decide (t171 ≤ 256) = false := decide_eq_false c19
       clear c19
       replace H := Option.bind_eq_some_iff.mp H
       obtain ⟨t172, A220, H⟩ := H
       replace H : (some (decide (t172 > 65536))) = some r := H
       have A22 := Aside0.mk A220
       clear A220
       obtain rfl := Option.some.inj H
       have hcz23_0 : wr.cell? ⟨bZ, 0, none⟩ = some (.slice au ai.length aq) := (a7 bi.out 0).trans rfl
       have hcz23_1 : wr.cell? ⟨bZ, 1, none⟩ = some (.slice aw af.length ao) := (a7 bi.out 1).trans rfl
       have hfz23_0 := a8 bi.out 0
       have hfz23_1 := a8 bi.out 1
       go_wp2_with (first | ((with_reducible refine am (f := 30) rfl ?_); refine aY (some 37) rfl rfl Try.func30 (by kernel_rfl) rfl #[.agg #[.slice au ai.length aq, .slice aw af.length ao]] rfl (by (try simp only [List.map_toArray, List.map_cons, List.map_nil]); first | done | rfl | (simp only [List.length_drop, List.length_take]; rfl)) ?_; (with_reducible refine (fastiref15_Tries.calls k1 _ _ ai _ _ af t171 _ ?side1 ?side2 ?side3 ?side4 A18.out).mono ?_); (case side1 => repeat (first | exact (Kd.C_below bf.out HB.out) | (with_reducible refine Kd.C_alloc ?_ _) | (with_reducible refine Kd.C_drewN ?_ _) | (with_reducible refine Kd.C_drew ?_))); (case side2 => exact bo.out); (case side3 => repeat (first | exact (Kd.C_below bd.out HB.out) | (with_reducible refine Kd.C_alloc ?_ _) | (with_reducible refine Kd.C_drewN ?_ _) | (with_reducible refine Kd.C_drew ?_))); (case side4 => exact bn.out); rintro e w24 ⟨rfl, hb⟩; refine ⟨_, rfl, ?_⟩; have n0_ := Aside0.mk (ag (g := bZ) (o := .cells #[.slice au ai.length aq, .slice aw af.length ao] 25 (0, 0)) (by (with_reducible repeat (first | refine ab ?_ _ | refine ac ?_ | refine aa ?_ _)); exact bi.out) hb); have n1_ := Aside0.mk (ah (by repeat (first | (with_reducible first | exact HB.out | apply a6 | apply a4 | apply a5 | refine a9 ?_ eM.out) | exact HB.out)) hb); clear bi; clear HB; have bi := n0_; have HB := n1_; clear n0_ n1_; (try clear hb); (try clear hb2); (try clear hk); (try clear hi); have jq : w24.cell? ⟨bZ, 0, none⟩ = some (.slice au ai.length aq) := (a7 bi.out 0).trans rfl; have jr : w24.cell? ⟨bZ, 1, none⟩ = some (.slice aw af.length ao) := (a7 bi.out 1).trans rfl; have js := a8 bi.out 0; have jt := a8 bi.out 1) | (go_at_call 30; (with_reducible refine (fastiref15_Tries.calls k1 _ _ ai _ _ af t172 _ ?side1 ?side2 ?side3 ?side4 A22.out).mono ?_); (case side1 => repeat (first | exact (Kd.C_below bf.out HB.out) | (with_reducible refine Kd.C_alloc ?_ _) | (with_reducible refine Kd.C_drewN ?_ _) | (with_reducible refine Kd.C_drew ?_))); (case side2 => exact bo.out); (case side3 => repeat (first | exact (Kd.C_below bd.out HB.out) | (with_reducible refine Kd.C_alloc ?_ _) | (with_reducible refine Kd.C_drewN ?_ _) | (with_reducible refine Kd.C_drew ?_))); (case side4 => exact bn.out); rintro e w26 ⟨rfl, hb⟩; have n0_ := Aside0.mk (ag (g := bZ) (o := .cells #[.slice au ai.length aq, .slice aw af.length ao] 25 (0, 0)) (by (with_reducible repeat (first | refine ab ?_ _ | refine ac ?_ | refine aa ?_ _)); exact bi.out) hb); have n1_ := Aside0.mk (ah (by repeat (first | (with_reducible first | exact HB.out | apply a6 | apply a4 | apply a5 | refine a9 ?_ eM.out) | exact HB.out)) hb); clear bi; clear HB; have bi := n0_; have HB := n1_; clear n0_ n1_; (try clear hb); (try clear hb2); (try clear hk); (try clear hi)))
       go_ret
       exact ⟨by first | rfl | (simp [al, ak] <;> rfl) | (simp [*, al, ak] <;> rfl), by repeat (first | (with_reducible first | exact HB.out | apply a6 | apply a4 | apply a5 | refine a9 ?_ eM.out) | exact HB.out)⟩
 ·replace c3 := Bool.eq_false_iff.mpr c3
  subst c3
  have H1 : (if (ai.length : Int) ≤ 100 then (some (decide ((af.length : Int) ≤ 100))) else (some false)) = some r := by rw [if_neg (show ¬ (false = true) by decide)] at H; exact H
  clear H
  have H := H1
  clear H1
  by_cases c27 : (ai.length : Int) ≤ 100
  ·rw [if_pos c27] at H
   have c27b0 : decide ((ai.length : Int) ≤ 100) = true := decide_eq_true c27
   have c27b1 : decide (ai.length ≤ 100) = true := decide_eq_true (by omega)
   clear c27
   obtain rfl := Option.some.inj H
   go_enter Try.func12, Try.ntmps12
   go_wp2_with (first | ((with_reducible refine az (N := 1) rfl ?_); (try (refine aJ (by rfl) ?_; dsimp only)); refine ap ?hg (N := 1) ?hd (cs := #[.slice au ai.length aq, .slice aw af.length ao]) (t := 25) ?hr ?_; (case hd => rfl); (case hg => rfl); (case hr => first | (go_simp; done) | (go_simp; rfl)); intro bZ hg w28 hbox hb; have n0_ := Aside0.mk (ah (by repeat (first | (with_reducible first | exact HB.out | apply a6 | apply a4 | apply a5) | exact HB.out)) hb); have n1_ := Aside0.mk (hbox); have n2_ := Aside0.mk ((by rw [hg]; exact (ae (by repeat (first | (with_reducible first | exact HB.out | apply a6 | apply a4 | apply a5) | exact HB.out))) : w.heap.size ≤ bZ)); have n3_ := Aside0.mk ((by rw [hg]; exact (ae (by repeat (first | (with_reducible first | exact HB.out | apply a6 | apply a4 | apply a5) | exact HB.out))) : w.heap.size ≤ bZ)); clear HB; have HB := n0_; have bi := n1_; have GW168 := n2_; have eM := n3_; clear n0_ n1_ n2_ n3_; clear hb hbox hg; have hcz29_0 : w28.cell? ⟨bZ, 0, none⟩ = some (.slice au ai.length aq) := (a7 bi.out 0).trans rfl; have hcz29_1 : w28.cell? ⟨bZ, 1, none⟩ = some (.slice aw af.length ao) := (a7 bi.out 1).trans rfl; have hfz29_0 := a8 bi.out 0; have hfz29_1 := a8 bi.out 1) | ((with_reducible refine am (f := 29) rfl ?_); refine aY (some 5) rfl rfl Try.func29 (by kernel_rfl) rfl #[.agg #[.slice au ai.length aq, .slice aw af.length ao]] rfl (by (try simp only [List.map_toArray, List.map_cons, List.map_nil]); first | done | rfl | (simp only [List.length_drop, List.length_take]; rfl)) ?_; (with_reducible refine (fastiref15_short.calls k _ _ ai _ _ af false _ ?side1 ?side2 ?side3 ?side4 A2.out).mono ?_); (case side1 => repeat (first | exact (Kd.C_below bf.out HB.out) | (with_reducible refine Kd.C_alloc ?_ _) | (with_reducible refine Kd.C_drewN ?_ _) | (with_reducible refine Kd.C_drew ?_))); (case side2 => exact bo.out); (case side3 => repeat (first | exact (Kd.C_below bd.out HB.out) | (with_reducible refine Kd.C_alloc ?_ _) | (with_reducible refine Kd.C_drewN ?_ _) | (with_reducible refine Kd.C_drew ?_))); (case side4 => exact bn.out); rintro e w30 ⟨rfl, hb⟩; refine ⟨_, rfl, ?_⟩; have n0_ := Aside0.mk (ag (g := bZ) (o := .cells #[.slice au ai.length aq, .slice aw af.length ao] 25 (0, 0)) (by (with_reducible repeat (first | refine ab ?_ _ | refine ac ?_ | refine aa ?_ _)); exact bi.out) hb); have n1_ := Aside0.mk (ah (by repeat (first | (with_reducible first | exact HB.out | apply a6 | apply a4 | apply a5 | refine a9 ?_ eM.out) | exact HB.out)) hb); clear bi; clear HB; have bi := n0_; have HB := n1_; clear n0_ n1_; (try clear hb); (try clear hb2); (try clear hk); (try clear hi); have hcz31_0 : w30.cell? ⟨bZ, 0, none⟩ = some (.slice au ai.length aq) := (a7 bi.out 0).trans rfl; have hcz31_1 : w30.cell? ⟨bZ, 1, none⟩ = some (.slice aw af.length ao) := (a7 bi.out 1).trans rfl; have hfz31_0 := a8 bi.out 0; have hfz31_1 := a8 bi.out 1))
   go_ret
   exact ⟨by first | rfl | (simp [al, ak] <;> rfl) | (simp [*, al, ak] <;> rfl), by repeat (first | (with_reducible first | exact HB.out | apply a6 | apply a4 | apply a5 | refine a9 ?_ eM.out) | exact HB.out)⟩
  ·rw [if_neg c27] at H
   have c27b0 : decide ((ai.length : Int) ≤ 100) = false := decide_eq_false c27
   have c27b1 : decide (ai.length ≤ 100) = false := decide_eq_false (by omega)
   clear c27
   obtain rfl := Option.some.inj H
   go_enter Try.func12, Try.ntmps12
   go_wp2_with (first | ((with_reducible refine az (N := 1) rfl ?_); (try (refine aJ (by rfl) ?_; dsimp only)); refine ap ?hg (N := 1) ?hd (cs := #[.slice au ai.length aq, .slice aw af.length ao]) (t := 25) ?hr ?_; (case hd => rfl); (case hg => rfl); (case hr => first | (go_simp; done) | (go_simp; rfl)); intro bZ hg w32 hbox hb; have n0_ := Aside0.mk (ah (by repeat (first | (with_reducible first | exact HB.out | apply a6 | apply a4 | apply a5) | exact HB.out)) hb); have n1_ := Aside0.mk (hbox); have n2_ := Aside0.mk ((by rw [hg]; exact (ae (by repeat (first | (with_reducible first | exact HB.out | apply a6 | apply a4 | apply a5) | exact HB.out))) : w.heap.size ≤ bZ)); have n3_ := Aside0.mk ((by rw [hg]; exact (ae (by repeat (first | (with_reducible first | exact HB.out | apply a6 | apply a4 | apply a5) | exact HB.out))) : w.heap.size ≤ bZ)); clear HB; have HB := n0_; have bi := n1_; have GW168 := n2_; have eM := n3_; clear n0_ n1_ n2_ n3_; clear hb hbox hg; have hcz33_0 : w32.cell? ⟨bZ, 0, none⟩ = some (.slice au ai.length aq) := (a7 bi.out 0).trans rfl; have hcz33_1 : w32.cell? ⟨bZ, 1, none⟩ = some (.slice aw af.length ao) := (a7 bi.out 1).trans rfl; have hfz33_0 := a8 bi.out 0; have hfz33_1 := a8 bi.out 1) | ((with_reducible refine am (f := 29) rfl ?_); refine aY (some 5) rfl rfl Try.func29 (by kernel_rfl) rfl #[.agg #[.slice au ai.length aq, .slice aw af.length ao]] rfl (by (try simp only [List.map_toArray, List.map_cons, List.map_nil]); first | done | rfl | (simp only [List.length_drop, List.length_take]; rfl)) ?_; (with_reducible refine (fastiref15_short.calls k _ _ ai _ _ af false _ ?side1 ?side2 ?side3 ?side4 A2.out).mono ?_); (case side1 => repeat (first | exact (Kd.C_below bf.out HB.out) | (with_reducible refine Kd.C_alloc ?_ _) | (with_reducible refine Kd.C_drewN ?_ _) | (with_reducible refine Kd.C_drew ?_))); (case side2 => exact bo.out); (case side3 => repeat (first | exact (Kd.C_below bd.out HB.out) | (with_reducible refine Kd.C_alloc ?_ _) | (with_reducible refine Kd.C_drewN ?_ _) | (with_reducible refine Kd.C_drew ?_))); (case side4 => exact bn.out); rintro e w34 ⟨rfl, hb⟩; refine ⟨_, rfl, ?_⟩; have n0_ := Aside0.mk (ag (g := bZ) (o := .cells #[.slice au ai.length aq, .slice aw af.length ao] 25 (0, 0)) (by (with_reducible repeat (first | refine ab ?_ _ | refine ac ?_ | refine aa ?_ _)); exact bi.out) hb); have n1_ := Aside0.mk (ah (by repeat (first | (with_reducible first | exact HB.out | apply a6 | apply a4 | apply a5 | refine a9 ?_ eM.out) | exact HB.out)) hb); clear bi; clear HB; have bi := n0_; have HB := n1_; clear n0_ n1_; (try clear hb); (try clear hb2); (try clear hk); (try clear hi); have hcz35_0 : w34.cell? ⟨bZ, 0, none⟩ = some (.slice au ai.length aq) := (a7 bi.out 0).trans rfl; have hcz35_1 : w34.cell? ⟨bZ, 1, none⟩ = some (.slice aw af.length ao) := (a7 bi.out 1).trans rfl; have hfz35_0 := a8 bi.out 0; have hfz35_1 := a8 bi.out 1))
   go_ret
   exact ⟨by first | rfl | (simp [al, ak] <;> rfl) | (simp [*, al, ak] <;> rfl), by repeat (first | (with_reducible first | exact HB.out | apply a6 | apply a4 | apply a5 | refine a9 ?_ eM.out) | exact HB.out)⟩
def fastiref15_domain.l0 : Nat → List Int → Int → Option (Bool)
 | 0, _, _ => none
 | k + 1, x0, x3 => if x3 < (x0.length : Int) then (if 0 ≤ x3 then (if (rd x0 x3) < 0 then (some false) else (if (rd x0 x3) > 73048 then (some false) else (if x3 > 0 then (if 0 ≤ (wrap64 (x3 - 1)) then (if (wrap64 (x3 - 1)) < (x0.length : Int) then (if (rd x0 (wrap64 (x3 - 1))) ≥ (rd x0 x3) then (some false) else (fastiref15_domain.l0 k x0 (wrap64 (x3 + 1)))) else (none)) else (none)) else (fastiref15_domain.l0 k x0 (wrap64 (x3 + 1)))))) else (none)) else (some (decide ((x0.length : Int) > 0)))
def fastiref15_domain.f (k : Nat) (l0 : List Int) : Option (Bool) := fastiref15_domain.l0 k l0 0
set_option maxHeartbeats 8000000 in
set_option maxRecDepth 100000 in
theorem fastiref15_domain.calls (k : Nat) (A0 : Option Addr) (c0 : Nat) (l0 : List Int) (r : Bool) (w : World) (hr0 : Kd.C (Kd.int .i64) w A0 l0.length l0) (hc0 : l0.length ≤ c0) (h : fastiref15_domain.f k l0 = some r) :
  Calls Try.prog 39 #[.slice A0 l0.length c0] w fun e w' => e = .returned (.bool r) ∧ Drawn0 w w' := by
 have HR0 := Aside0.mk hr0
 have HC0 := Aside0.mk hc0
 clear hr0 hc0
 have H : (fastiref15_domain.l0 k l0 0) = some r := h
 clear h
 have H' := Aside0.mk H
 clear H
 go_enter Try.func39, Try.ntmps39
 go_wp2
 repeat (go_quiet (fail); try go_wp2)
 go_loopg [3] k (fun kq v3 w' => ∃ (x3_1 : Int), v3 = .int .i64 x3_1 ∧ Aside0 (fastiref15_domain.l0 kq l0 x3_1 = some r) ∧ Aside0 (kq ≤ k) ∧ Drawn0 w w')
 case atStart => exact ⟨(0), (by first | rfl | (simp; done) | (simp [*]; done)), H', ⟨Nat.le_refl _⟩, by repeat (first | exact Drawn0.refl _ | apply Drawn0.step)⟩
 case round =>
  clear H'
  obtain ⟨x3_1, rfl, HA, HK1, ⟨m1, rfl⟩⟩ := hrel
  cases gk with
  | zero => exact absurd HA.out (by simp [fastiref15_domain.l0])
  | succ k1 =>
   have H := HA.out
   clear HA
   simp only [fastiref15_domain.l0] at H
   by_cases c2 : x3_1 < (l0.length : Int)
   ·rw [if_pos c2] at H
    have c2b0 : decide (x3_1 < (l0.length : Int)) = true := decide_eq_true c2
    clear c2
    by_cases c3 : 0 ≤ x3_1
    ·rw [if_pos c3] at H
     have iE : decide (0 ≤ x3_1) = true := decide_eq_true c3
     clear c3
     by_cases c4 : (rd l0 x3_1) < 0
     ·rw [if_pos c4] at H
      have el : decide ((rd l0 x3_1) < 0) = true := decide_eq_true c4
      clear c4
      obtain rfl := Option.some.inj H
      have p173 : 0 ≤ (x3_1 : Int) := of_decide_eq_true (by first | (with_reducible assumption) | assumption)
      have q173 : x3_1 < (l0.length : Int) := of_decide_eq_true (by first | (with_reducible assumption) | assumption)
      obtain ⟨ad173, e173, hx173_0⟩ := Kd.at_int HR0.out x3_1 p173 q173
      cases e173
      replace p173 := eq_true p173
      replace q173 := eq_true q173
      go_wp2
      repeat (go_quiet (fail); try go_wp2)
      go_ret
      exact ⟨by first | rfl | (simp; done) | (simp [*]; done), by repeat (first | exact Drawn0.refl _ | apply Drawn0.step)⟩
     ·rw [if_neg c4] at H
      have el : decide ((rd l0 x3_1) < 0) = false := decide_eq_false c4
      clear c4
      by_cases c5 : (rd l0 x3_1) > 73048
      ·rw [if_pos c5] at H
       have c5b0 : decide (73048 < (rd l0 x3_1)) = true := decide_eq_true c5
       clear c5
       obtain rfl := Option.some.inj H
       have p173 : 0 ≤ (x3_1 : Int) := of_decide_eq_true (by first | (with_reducible assumption) | assumption)
       have q173 : x3_1 < (l0.length : Int) := of_decide_eq_true (by first | (with_reducible assumption) | assumption)
       obtain ⟨ad173, e173, hx173_0⟩ := Kd.at_int HR0.out x3_1 p173 q173
       cases e173
       replace p173 := eq_true p173
       replace q173 := eq_true q173
       have p174 : 0 ≤ (x3_1 : Int) := of_decide_eq_true (by first | (with_reducible assumption) | assumption)
       have q174 : x3_1 < (l0.length : Int) := of_decide_eq_true (by first | (with_reducible assumption) | assumption)
       obtain ⟨ad174, e174, hx174_0⟩ := Kd.at_int HR0.out x3_1 p174 q174
       obtain rfl : ad173 = ad174 := (by injection e174)
       replace p174 := eq_true p174
       replace q174 := eq_true q174
       go_wp2
       repeat (go_quiet (fail); try go_wp2)
       go_ret
       exact ⟨by first | rfl | (simp; done) | (simp [*]; done), by repeat (first | exact Drawn0.refl _ | apply Drawn0.step)⟩
      ·rw [if_neg c5] at H
       have c5b0 : decide (73048 < (rd l0 x3_1)) = false := decide_eq_false c5
       clear c5
       by_cases c6 : x3_1 > 0
       ·rw [if_pos c6] at H
        have c6b0 : decide (0 < x3_1) = true := decide_eq_true c6
        clear c6
        obtain ⟨ji7, hji7⟩ : ∃ j_ : Int, (wrap64 (x3_1 - 1)) = j_ := ⟨_, rfl⟩
        replace H : (if 0 ≤ (ji7) then (if (ji7) < (l0.length : Int) then (if (rd l0 (ji7)) ≥ (rd l0 x3_1) then (some false) else (fastiref15_domain.l0 k1 l0 (wrap64 (x3_1 + 1)))) else (none)) else (none)) = some r := by first | (rw [hji7] at H; exact H) | (simp only [hji7] at H ⊢; exact H)
        have hji7w : (IntKind.i64.wrap (x3_1 - 1)) = ji7 := (ar _).trans hji7
        by_cases c8 : 0 ≤ (ji7)
        ·rw [if_pos c8] at H
         have c8b0 : decide (0 ≤ (ji7)) = true := decide_eq_true c8
         clear c8
         by_cases c9 : (ji7) < (l0.length : Int)
         ·rw [if_pos c9] at H
          have c9b0 : decide ((ji7) < (l0.length : Int)) = true := decide_eq_true c9
          clear c9
          by_cases c10 : (rd l0 (ji7)) ≥ (rd l0 x3_1)
          ·rw [if_pos c10] at H
           have gK : decide ((rd l0 x3_1) ≤ (rd l0 (ji7))) = true := decide_eq_true c10
           clear c10
           obtain rfl := Option.some.inj H
           have p173 : 0 ≤ (x3_1 : Int) := of_decide_eq_true (by first | (with_reducible assumption) | assumption)
           have q173 : x3_1 < (l0.length : Int) := of_decide_eq_true (by first | (with_reducible assumption) | assumption)
           obtain ⟨ad173, e173, hx173_0⟩ := Kd.at_int HR0.out x3_1 p173 q173
           cases e173
           replace p173 := eq_true p173
           replace q173 := eq_true q173
           have p174 : 0 ≤ (x3_1 : Int) := of_decide_eq_true (by first | (with_reducible assumption) | assumption)
           have q174 : x3_1 < (l0.length : Int) := of_decide_eq_true (by first | (with_reducible assumption) | assumption)
           obtain ⟨ad174, e174, hx174_0⟩ := Kd.at_int HR0.out x3_1 p174 q174
           obtain rfl : ad173 = ad174 := (by injection e174)
           replace p174 := eq_true p174
           replace q174 := eq_true q174
           have p175 : 0 ≤ ((ji7) : Int) := of_decide_eq_true (by first | (with_reducible assumption) | assumption)
           have q175 : (ji7) < (l0.length : Int) := of_decide_eq_true (by first | (with_reducible assumption) | assumption)
           obtain ⟨ad175, e175, hx175_0⟩ := Kd.at_int HR0.out (ji7) p175 q175
           obtain rfl : ad173 = ad175 := (by injection e175)
           replace p175 := eq_true p175
           replace q175 := eq_true q175
           have p176 : 0 ≤ (x3_1 : Int) := of_decide_eq_true (by first | (with_reducible assumption) | assumption)
           have q176 : x3_1 < (l0.length : Int) := of_decide_eq_true (by first | (with_reducible assumption) | assumption)
           obtain ⟨ad176, e176, hx176_0⟩ := Kd.at_int HR0.out x3_1 p176 q176
           obtain rfl : ad173 = ad176 := (by injection e176)
           replace p176 := eq_true p176
           replace q176 := eq_true q176
           go_wp2
           repeat (go_quiet (fail); try go_wp2)
           go_ret
           exact ⟨by first | rfl | (simp; done) | (simp only [← hji7] <;> (first | rfl | simp)) | (simp [*]; done), by repeat (first | exact Drawn0.refl _ | apply Drawn0.step)⟩
          ·rw [if_neg c10] at H
           have gK : decide ((rd l0 x3_1) ≤ (rd l0 (ji7))) = false := decide_eq_false c10
           clear c10
           have H' := Aside0.mk H
           clear H
           have p173 : 0 ≤ (x3_1 : Int) := of_decide_eq_true (by first | (with_reducible assumption) | assumption)
           have q173 : x3_1 < (l0.length : Int) := of_decide_eq_true (by first | (with_reducible assumption) | assumption)
           obtain ⟨ad173, e173, hx173_0⟩ := Kd.at_int HR0.out x3_1 p173 q173
           cases e173
           replace p173 := eq_true p173
           replace q173 := eq_true q173
           have p174 : 0 ≤ (x3_1 : Int) := of_decide_eq_true (by first | (with_reducible assumption) | assumption)
           have q174 : x3_1 < (l0.length : Int) := of_decide_eq_true (by first | (with_reducible assumption) | assumption)
           obtain ⟨ad174, e174, hx174_0⟩ := Kd.at_int HR0.out x3_1 p174 q174
           obtain rfl : ad173 = ad174 := (by injection e174)
           replace p174 := eq_true p174
           replace q174 := eq_true q174
           have p175 : 0 ≤ ((ji7) : Int) := of_decide_eq_true (by first | (with_reducible assumption) | assumption)
           have q175 : (ji7) < (l0.length : Int) := of_decide_eq_true (by first | (with_reducible assumption) | assumption)
           obtain ⟨ad175, e175, hx175_0⟩ := Kd.at_int HR0.out (ji7) p175 q175
           obtain rfl : ad173 = ad175 := (by injection e175)
           replace p175 := eq_true p175
           replace q175 := eq_true q175
           have p176 : 0 ≤ (x3_1 : Int) := of_decide_eq_true (by first | (with_reducible assumption) | assumption)
           have q176 : x3_1 < (l0.length : Int) := of_decide_eq_true (by first | (with_reducible assumption) | assumption)
           obtain ⟨ad176, e176, hx176_0⟩ := Kd.at_int HR0.out x3_1 p176 q176
           obtain rfl : ad173 = ad176 := (by injection e176)
           replace p176 := eq_true p176
           replace q176 := eq_true q176
           go_wp2
           repeat (go_quiet (fail); try go_wp2)
           go_roundg k1
           case measure => have := HK1.out; omega
           case rel => exact ⟨(wrap64 (x3_1 + 1)), (by first | rfl | (simp; done) | (simp [*]; done)), H', ⟨by have := HK1.out; omega⟩, by repeat (first | exact Drawn0.refl _ | apply Drawn0.step)⟩
         ·rw [if_neg c9] at H
          exact absurd H (by simp)
        ·rw [if_neg c8] at H
         exact absurd H (by simp)
       ·rw [if_neg c6] at H
        have c6b0 : decide (0 < x3_1) = false := decide_eq_false c6
        clear c6
        have H' := Aside0.mk H
        clear H
        have p173 : 0 ≤ (x3_1 : Int) := of_decide_eq_true (by first | (with_reducible assumption) | assumption)
        have q173 : x3_1 < (l0.length : Int) := of_decide_eq_true (by first | (with_reducible assumption) | assumption)
        obtain ⟨ad173, e173, hx173_0⟩ := Kd.at_int HR0.out x3_1 p173 q173
        cases e173
        replace p173 := eq_true p173
        replace q173 := eq_true q173
        have p174 : 0 ≤ (x3_1 : Int) := of_decide_eq_true (by first | (with_reducible assumption) | assumption)
        have q174 : x3_1 < (l0.length : Int) := of_decide_eq_true (by first | (with_reducible assumption) | assumption)
        obtain ⟨ad174, e174, hx174_0⟩ := Kd.at_int HR0.out x3_1 p174 q174
        obtain rfl : ad173 = ad174 := (by injection e174)
        replace p174 := eq_true p174
        replace q174 := eq_true q174
        go_wp2
        repeat (go_quiet (fail); try go_wp2)
        go_roundg k1
        case measure => have := HK1.out; omega
        case rel => exact ⟨(wrap64 (x3_1 + 1)), (by first | rfl | (simp; done) | (simp [*]; done)), H', ⟨by have := HK1.out; omega⟩, by repeat (first | exact Drawn0.refl _ | apply Drawn0.step)⟩
    ·rw [if_neg c3] at H
     exact absurd H (by simp)
   ·rw [if_neg c2] at H
    have c2b0 : decide (x3_1 < (l0.length : Int)) = false := decide_eq_false c2
    clear c2
    obtain rfl := Option.some.inj H
    go_wp2
    repeat (go_quiet (fail); try go_wp2)
    go_ret
    exact ⟨by first | rfl | (simp; done) | (simp [*]; done), by repeat (first | exact Drawn0.refl _ | apply Drawn0.step)⟩
end Go.Proofs.Ytcbpkdemcdikaaa.X
namespace Go.Proofs.Ytcbpkdemcdikaaa.X
open Go.RowKit Go.Proofs.YtcbpkdemcdikaaaW.PrintWords Go.Proofs.YtcbpkdemcdikaaaW.PrintLast Go.Proofs.YtcbpkdemcdikaaaW.PrintMore
attribute [local go_sem] aT aM aZ bc aE aG aU aN   
set_option linter.unusedVariables false
set_option linter.unusedSimpArgs false
mutual
def fastiref15_vars.l0 : Nat → List Int → Int → Int → Option (Bool)
 | 0, _, _, _ => none
 | k + 1, x0, x1, x5 => if x5 < (x0.length : Int) then (if 0 ≤ x5 then (if (rd x0 x5) < 0 then (fastiref15_vars.j1 k x0 x1 x5 true) else (fastiref15_vars.j1 k x0 x1 x5 (decide ((rd x0 x5) ≥ x1)))) else (none)) else (some (decide ((x0.length : Int) > 0)))
def fastiref15_vars.j1 : Nat → List Int → Int → Int → Bool → Option (Bool)
 | 0, _, _, _, _ => none
 | k + 1, x0, x1, x5, x25 => if x25 = true then (some false) else (fastiref15_vars.l1 k x0 x1 x5 0)
def fastiref15_vars.l1 : Nat → List Int → Int → Int → Int → Option (Bool)
 | 0, _, _, _, _ => none
 | k + 1, x0, x1, x5, x6 => if x6 < x5 then (if 0 ≤ x6 then (if x6 < (x0.length : Int) then (if 0 ≤ x5 then (if x5 < (x0.length : Int) then (if (rd x0 x6) = (rd x0 x5) then (some false) else (fastiref15_vars.l1 k x0 x1 x5 (wrap64 (x6 + 1)))) else (none)) else (none)) else (none)) else (none)) else (fastiref15_vars.l0 k x0 x1 (wrap64 (x5 + 1)))
end
def fastiref15_vars.f (k : Nat) (l0 : List Int) (a1 : Int) : Option (Bool) := fastiref15_vars.l0 k l0 a1 0
set_option maxHeartbeats 8000000 in
set_option maxRecDepth 100000 in
theorem fastiref15_vars.calls (k : Nat) (A0 : Option Addr) (c0 : Nat) (l0 : List Int) (a1 : Int) (r : Bool) (w : World) (hr0 : Kd.C (Kd.int .i64) w A0 l0.length l0) (hc0 : l0.length ≤ c0) (h : fastiref15_vars.f k l0 a1 = some r) :
  Calls Try.prog 59 #[.slice A0 l0.length c0, .int .i64 a1] w fun e w' => e = .returned (.bool r) ∧ Drawn0 w w' := by
 have HR0 := Aside0.mk hr0
 have HC0 := Aside0.mk hc0
 clear hr0 hc0
 have H : (fastiref15_vars.l0 k l0 a1 0) = some r := h
 clear h
 have H' := Aside0.mk H
 clear H
 go_enter Try.func59, Try.ntmps59
 go_wp2
 repeat (go_quiet (fail); try go_wp2)
 go_loopg [5] k (fun kq v5 w' => ∃ (x5_1 : Int), v5 = .int .i64 x5_1 ∧ Aside0 (fastiref15_vars.l0 kq l0 a1 x5_1 = some r) ∧ Aside0 (kq ≤ k) ∧ Drawn0 w w')
 case atStart => exact ⟨(0), (by first | rfl | (simp; done) | (simp [*]; done)), H', ⟨Nat.le_refl _⟩, by repeat (first | exact Drawn0.refl _ | apply Drawn0.step)⟩
 case round =>
  clear H'
  try clear p2
  obtain ⟨x5_1, rfl, HA, HK1, ⟨m1, rfl⟩⟩ := hrel
  cases gk with
  | zero => exact absurd HA.out (by simp [fastiref15_vars.l0])
  | succ k1 =>
   have H := HA.out
   clear HA
   simp only [fastiref15_vars.l0] at H
   by_cases c3 : x5_1 < (l0.length : Int)
   ·rw [if_pos c3] at H
    have iE : decide (x5_1 < (l0.length : Int)) = true := decide_eq_true c3
    clear c3
    have HC4 := Aside0.mk H
    clear H
    go_upto_region 4 with (fail)
    repeat (go_quiet (fail); go_upto_region 4 with (fail))
    go_cut [25] (fun v25 wc => ∃ (kq : Nat) (x25_3 : Bool), v25 = .bool x25_3 ∧ Aside0 (fastiref15_vars.j1 kq l0 a1 x5_1 x25_3 = some r) ∧ Aside0 (kq ≤ k1) ∧ Drawn0 w wc)
    case first =>
     have H := HC4.out
     clear HC4
     by_cases c5 : 0 ≤ x5_1
     ·rw [if_pos c5] at H
      have c5b0 : decide (0 ≤ x5_1) = true := decide_eq_true c5
      clear c5
      (first | rw [c5b0] | (simp only [ar, av]; rw [c5b0]) | skip)
      by_cases c6 : (rd l0 x5_1) < 0
      ·rw [if_pos c6] at H
       have c6b0 : decide ((rd l0 x5_1) < 0) = true := decide_eq_true c6
       clear c6
       have H' := Aside0.mk H
       clear H
       have p177 : 0 ≤ (x5_1 : Int) := of_decide_eq_true (by first | (with_reducible assumption) | assumption)
       have q177 : x5_1 < (l0.length : Int) := of_decide_eq_true (by first | (with_reducible assumption) | assumption)
       obtain ⟨ad177, e177, hx177_0⟩ := Kd.at_int HR0.out x5_1 p177 q177
       cases e177
       replace p177 := eq_true p177
       replace q177 := eq_true q177
       go_wp2
       repeat (go_quiet (fail); try go_wp2)
       go_meet
       case rel => exact ⟨_, (true), (by first | rfl | (simp; done) | (simp [*]; done)), H', ⟨by have := HK1.out; first | omega | exact Nat.le_refl _⟩, by repeat (first | exact Drawn0.refl _ | apply Drawn0.step)⟩
      ·rw [if_neg c6] at H
       have c6b0 : decide ((rd l0 x5_1) < 0) = false := decide_eq_false c6
       clear c6
       have H' := Aside0.mk H
       clear H
       have p177 : 0 ≤ (x5_1 : Int) := of_decide_eq_true (by first | (with_reducible assumption) | assumption)
       have q177 : x5_1 < (l0.length : Int) := of_decide_eq_true (by first | (with_reducible assumption) | assumption)
       obtain ⟨ad177, e177, hx177_0⟩ := Kd.at_int HR0.out x5_1 p177 q177
       cases e177
       replace p177 := eq_true p177
       replace q177 := eq_true q177
       have p178 : 0 ≤ (x5_1 : Int) := of_decide_eq_true (by first | (with_reducible assumption) | assumption)
       have q178 : x5_1 < (l0.length : Int) := of_decide_eq_true (by first | (with_reducible assumption) | assumption)
       obtain ⟨ad178, e178, hx178_0⟩ := Kd.at_int HR0.out x5_1 p178 q178
       obtain rfl : ad177 = ad178 := (by injection e178)
       replace p178 := eq_true p178
       replace q178 := eq_true q178
       go_wp2
       repeat (go_quiet (fail); try go_wp2)
       go_meet
       case rel => exact ⟨_, (decide ((rd l0 x5_1) ≥ a1)), (by first | rfl | (simp; done) | (simp [*]; done)), H', ⟨by have := HK1.out; first | omega | exact Nat.le_refl _⟩, by repeat (first | exact Drawn0.refl _ | apply Drawn0.step)⟩
     ·rw [if_neg c5] at H
      exact absurd H (by simp)
    case rest =>
     clear HC4
     try clear p1; try clear q1; try clear hx1; try clear p2; try clear c3; try clear iE; try clear c5; try clear c5b0; try clear c6; try clear c6b0; try clear hx177_0; try clear hx178_0; try clear p177; try clear p178; try clear q177; try clear q178
     obtain ⟨kq, x25_3, rfl, HA, HJ3, ⟨mc3, rfl⟩⟩ := hcut
     cases kq with
     | zero => exact absurd HA.out (by simp [fastiref15_vars.j1])
     | succ kj3 =>
      have H := HA.out
      clear HA
      simp only [fastiref15_vars.j1] at H
      by_cases c7 : x25_3 = true
      ·subst c7
       have H1 : (some false) = some r := by rw [if_pos rfl] at H; exact H
       clear H
       have H := H1
       clear H1
       obtain rfl := Option.some.inj H
       go_wp2
       repeat (go_quiet (fail); try go_wp2)
       go_ret
       exact ⟨by first | rfl | (simp; done) | (simp [*]; done), by repeat (first | exact Drawn0.refl _ | apply Drawn0.step)⟩
      ·replace c7 := Bool.eq_false_iff.mpr c7
       subst c7
       have H1 : (fastiref15_vars.l1 kj3 l0 a1 x5_1 0) = some r := by rw [if_neg (show ¬ (false = true) by decide)] at H; exact H
       clear H
       have H := H1
       clear H1
       have H' := Aside0.mk H
       clear H
       go_wp2
       repeat (go_quiet (fail); try go_wp2)
       go_loopg [6] kj3 (fun kq v6 w' => ∃ (x6_3 : Int), v6 = .int .i64 x6_3 ∧ Aside0 (fastiref15_vars.l1 kq l0 a1 x5_1 x6_3 = some r) ∧ Aside0 (kq ≤ kj3) ∧ Drawn0 w w')
       case atStart => exact ⟨(0), (by first | rfl | (simp; done) | (simp [*]; done)), H', ⟨Nat.le_refl _⟩, by repeat (first | exact Drawn0.refl _ | apply Drawn0.step)⟩
       case round =>
        clear H'
        try clear p1; try clear q1; try clear hx1; try clear p2; try clear c3; try clear iE; try clear c5; try clear c5b0; try clear c6; try clear c6b0; try clear c7; try clear hx177_0; try clear hx178_0; try clear p177; try clear p178; try clear q177; try clear q178
        obtain ⟨x6_3, rfl, HA, HK3, ⟨m3, rfl⟩⟩ := hrel
        cases gk with
        | zero => exact absurd HA.out (by simp [fastiref15_vars.l1])
        | succ k3 =>
         have H := HA.out
         clear HA
         simp only [fastiref15_vars.l1] at H
         by_cases c8 : x6_3 < x5_1
         ·rw [if_pos c8] at H
          have c8b0 : decide (x6_3 < x5_1) = true := decide_eq_true c8
          clear c8
          by_cases c9 : 0 ≤ x6_3
          ·rw [if_pos c9] at H
           have c9b0 : decide (0 ≤ x6_3) = true := decide_eq_true c9
           clear c9
           by_cases c10 : x6_3 < (l0.length : Int)
           ·rw [if_pos c10] at H
            have gK : decide (x6_3 < (l0.length : Int)) = true := decide_eq_true c10
            clear c10
            by_cases c11 : 0 ≤ x5_1
            ·rw [if_pos c11] at H
             have c11b0 : decide (0 ≤ x5_1) = true := decide_eq_true c11
             clear c11
             by_cases c12 : x5_1 < (l0.length : Int)
             ·rw [if_pos c12] at H
              have c12b0 : decide (x5_1 < (l0.length : Int)) = true := decide_eq_true c12
              clear c12
              by_cases c13 : (rd l0 x6_3) = (rd l0 x5_1)
              ·rw [if_pos c13] at H
               have jx : ((rd l0 x6_3) == (rd l0 x5_1)) = true := beq_iff_eq.mpr c13
               have c13b1 : ((rd l0 x6_3) != (rd l0 x5_1)) = false := bne_eq_false_iff_eq.mpr c13
               clear c13
               obtain rfl := Option.some.inj H
               have p179 : 0 ≤ (x6_3 : Int) := of_decide_eq_true (by first | (with_reducible assumption) | assumption)
               have q179 : x6_3 < (l0.length : Int) := of_decide_eq_true (by first | (with_reducible assumption) | assumption)
               obtain ⟨ad179, e179, hx179_0⟩ := Kd.at_int HR0.out x6_3 p179 q179
               cases e179
               replace p179 := eq_true p179
               replace q179 := eq_true q179
               have p180 : 0 ≤ (x5_1 : Int) := of_decide_eq_true (by first | (with_reducible assumption) | assumption)
               have q180 : x5_1 < (l0.length : Int) := of_decide_eq_true (by first | (with_reducible assumption) | assumption)
               obtain ⟨ad180, e180, hx180_0⟩ := Kd.at_int HR0.out x5_1 p180 q180
               obtain rfl : ad179 = ad180 := (by injection e180)
               replace p180 := eq_true p180
               replace q180 := eq_true q180
               go_wp2
               repeat (go_quiet (fail); try go_wp2)
               go_ret
               exact ⟨by first | rfl | (simp; done) | (simp [*]; done), by repeat (first | exact Drawn0.refl _ | apply Drawn0.step)⟩
              ·rw [if_neg c13] at H
               have jx : ((rd l0 x6_3) == (rd l0 x5_1)) = false := beq_eq_false_iff_ne.mpr c13
               have c13b1 : ((rd l0 x6_3) != (rd l0 x5_1)) = true := bne_iff_ne.mpr c13
               have H' := Aside0.mk H
               clear H
               have p179 : 0 ≤ (x6_3 : Int) := of_decide_eq_true (by first | (with_reducible assumption) | assumption)
               have q179 : x6_3 < (l0.length : Int) := of_decide_eq_true (by first | (with_reducible assumption) | assumption)
               obtain ⟨ad179, e179, hx179_0⟩ := Kd.at_int HR0.out x6_3 p179 q179
               cases e179
               replace p179 := eq_true p179
               replace q179 := eq_true q179
               have p180 : 0 ≤ (x5_1 : Int) := of_decide_eq_true (by first | (with_reducible assumption) | assumption)
               have q180 : x5_1 < (l0.length : Int) := of_decide_eq_true (by first | (with_reducible assumption) | assumption)
               obtain ⟨ad180, e180, hx180_0⟩ := Kd.at_int HR0.out x5_1 p180 q180
               obtain rfl : ad179 = ad180 := (by injection e180)
               replace p180 := eq_true p180
               replace q180 := eq_true q180
               go_wp2
               repeat (go_quiet (fail); try go_wp2)
               go_roundg k3
               case measure => have := HK1.out; have := HJ3.out; have := HK3.out; omega
               case rel => exact ⟨(wrap64 (x6_3 + 1)), (by first | rfl | (simp; done) | (simp [*]; done)), H', ⟨by have := HK1.out; have := HJ3.out; have := HK3.out; omega⟩, by repeat (first | exact Drawn0.refl _ | apply Drawn0.step)⟩
             ·rw [if_neg c12] at H
              exact absurd H (by simp)
            ·rw [if_neg c11] at H
             exact absurd H (by simp)
           ·rw [if_neg c10] at H
            exact absurd H (by simp)
          ·rw [if_neg c9] at H
           exact absurd H (by simp)
         ·rw [if_neg c8] at H
          have c8b0 : decide (x6_3 < x5_1) = false := decide_eq_false c8
          clear c8
          have H' := Aside0.mk H
          clear H
          go_wp2
          repeat (go_quiet (fail); try go_wp2)
          go_roundg k3
          case measure => have := HK1.out; have := HJ3.out; have := HK3.out; omega
          case rel => exact ⟨(wrap64 (x5_1 + 1)), (by first | rfl | (simp; done) | (simp [*]; done)), H', ⟨by have := HK1.out; have := HJ3.out; have := HK3.out; omega⟩, by repeat (first | exact Drawn0.refl _ | apply Drawn0.step)⟩
   ·rw [if_neg c3] at H
    have iE : decide (x5_1 < (l0.length : Int)) = false := decide_eq_false c3
    clear c3
    obtain rfl := Option.some.inj H
    go_wp2
    repeat (go_quiet (fail); try go_wp2)
    go_ret
    exact ⟨by first | rfl | (simp; done) | (simp [*]; done), by repeat (first | exact Drawn0.refl _ | apply Drawn0.step)⟩
mutual
def fastiref15_rule.l0 : Nat → Int → Int → Int → List Int → List (List Int) → Option (Bool)
 | 0, _, _, _, _, _ => none
 | k + 1, x5, x182000, ii, x182002, ij => if x5 < (ij.length : Int) then (if 0 ≤ x5 then (if ((ax ij x5).length : Int) = (x182002.length : Int) then (fastiref15_rule.l0 k (wrap64 (x5 + 1)) x182000 ii x182002 ij) else (some false)) else (none)) else (some (ii == 0))
def fastiref15_rule.j1 : Nat → Int → Bool → Int → Int → List Int → List (List Int) → Option (Bool)
 | 0, _, _, _, _, _, _ => none
 | k + 1, x12, x35, x182000, ii, x182002, ij => if x35 = true then (if ii = 0 then (some ((ij.length : Int) == 0)) else (some false)) else (if x12 = 3 then (if ii ≥ 1 then (if ii ≤ 73048 then (some ((ij.length : Int) == 0)) else (some false)) else (some false)) else (some false))
end
def fastiref15_rule.f (k : Nat) (bg : Int) (bT : Int) (bv : List Int) (bI : List (List Int)) (a1 : Int) : Option (Bool) := (fastiref15_vars.f k bv a1).bind fun t182 => (if t182 = true then (if bg = 1 then (fastiref15_rule.l0 k 0 bg bT bv bI) else (if bg = 2 then (fastiref15_rule.j1 k bg (bg == 2) bg bT bv bI) else (fastiref15_rule.j1 k bg (bg == 4) bg bT bv bI))) else (some false))
set_option maxHeartbeats 8000000 in
set_option maxRecDepth 100000 in
theorem fastiref15_rule.calls (k : Nat) (bg : Int) (bT : Int) (dg : Option Addr) (dd : Nat) (bv : List Int) (de : Option Addr) (df : Nat) (bI : List (List Int)) (a1 : Int) (r : Bool) (w : World) (hr0_2 : Kd.C (Kd.int .i64) w dg bv.length bv) (hc0_2 : bv.length ≤ dd) (jC : Kd.C (Kd.slice 3 (Kd.int .i64)) w de bI.length bI) (hc0_3 : bI.length ≤ df) (h : fastiref15_rule.f k bg bT bv bI a1 = some r) :
  Calls Try.prog 40 #[.agg #[.int .i64 bg, .int .i64 bT, .slice dg bv.length dd, .slice de bI.length df], .int .i64 a1] w fun e w' => e = .returned (.bool r) ∧ Below w.heap.size w w' := by
 have hu49 := Try.underlying49
 have gP := Aside0.mk hr0_2
 have jD := Aside0.mk hc0_2
 clear hr0_2 hc0_2
 have HR0_3 := Aside0.mk jC
 have HC0_3 := Aside0.mk hc0_3
 clear jC hc0_3
 have HB := Aside0.mk (Below.refl w.heap.size w)
 have H : ((fastiref15_vars.f k bv a1).bind fun t182 => (if t182 = true then (if bg = 1 then (fastiref15_rule.l0 k 0 bg bT bv bI) else (if bg = 2 then (fastiref15_rule.j1 k bg (bg == 2) bg bT bv bI) else (fastiref15_rule.j1 k bg (bg == 4) bg bT bv bI))) else (some false))) = some r := h
 clear h
 replace H := Option.bind_eq_some_iff.mp H
 obtain ⟨t182, A30, H⟩ := H
 replace H : (if t182 = true then (if bg = 1 then (fastiref15_rule.l0 k 0 bg bT bv bI) else (if bg = 2 then (fastiref15_rule.j1 k bg (bg == 2) bg bT bv bI) else (fastiref15_rule.j1 k bg (bg == 4) bg bT bv bI))) else (some false)) = some r := H
 have A3 := Aside0.mk A30
 clear A30
 by_cases c4 : t182 = true
 ·subst c4
  have H1 : (if bg = 1 then (fastiref15_rule.l0 k 0 bg bT bv bI) else (if bg = 2 then (fastiref15_rule.j1 k bg (bg == 2) bg bT bv bI) else (fastiref15_rule.j1 k bg (bg == 4) bg bT bv bI))) = some r := by rw [if_pos rfl] at H; exact H
  clear H
  have H := H1
  clear H1
  by_cases c5 : bg = 1
  ·rw [if_pos c5] at H
   have c5b0 : (bg == 1) = true := beq_iff_eq.mpr c5
   have c5b1 : (bg != 1) = false := bne_eq_false_iff_eq.mpr c5
   clear c5
   have H' := Aside0.mk H
   clear H
   go_enter Try.func40, Try.ntmps40
   go_wp2_with (first | ((with_reducible refine az (N := 2) rfl ?_); (try (refine aJ (by rfl) ?_; dsimp only)); refine ap ?hg (N := 2) ?hd (cs := #[.int .i64 bg, .int .i64 bT, .slice dg bv.length dd, .slice de bI.length df]) (t := 49) ?hr ?_; (case hd => rfl); (case hg => rfl); (case hr => first | (go_simp; done) | (go_simp; rfl)); intro aV hg w6 hbox hb; have n0_ := Aside0.mk (ah (by repeat (first | (with_reducible first | exact HB.out | apply a6 | apply a4 | apply a5) | exact HB.out)) hb); have n1_ := Aside0.mk (hbox); have n2_ := Aside0.mk ((by rw [hg]; exact (ae (by repeat (first | (with_reducible first | exact HB.out | apply a6 | apply a4 | apply a5) | exact HB.out))) : w.heap.size ≤ aV)); have n3_ := Aside0.mk ((by rw [hg]; exact (ae (by repeat (first | (with_reducible first | exact HB.out | apply a6 | apply a4 | apply a5) | exact HB.out))) : w.heap.size ≤ aV)); clear HB; have HB := n0_; have aD := n1_; have GW181 := n2_; have ec := n3_; clear n0_ n1_ n2_ n3_; clear hb hbox hg; have gL : w6.cell? ⟨aV, 0, none⟩ = some (.int .i64 bg) := (a7 aD.out 0).trans rfl; have gM : w6.cell? ⟨aV, 1, none⟩ = some (.int .i64 bT) := (a7 aD.out 1).trans rfl; have hcz7_2 : w6.cell? ⟨aV, 2, none⟩ = some (.slice dg bv.length dd) := (a7 aD.out 2).trans rfl; have hcz7_3 : w6.cell? ⟨aV, 3, none⟩ = some (.slice de bI.length df) := (a7 aD.out 3).trans rfl; have gN := a8 aD.out 0; have gO := a8 aD.out 1; have hfz7_2 := a8 aD.out 2; have hfz7_3 := a8 aD.out 3) | (go_at_call 59; (with_reducible refine (fastiref15_vars.calls k _ _ bv a1 true _ ?side1 ?side2 A3.out).mono ?_); (case side1 => repeat (first | exact (Kd.C_below gP.out HB.out) | (with_reducible refine Kd.C_alloc ?_ _) | (with_reducible refine Kd.C_drewN ?_ _) | (with_reducible refine Kd.C_drew ?_))); (case side2 => exact jD.out); rintro e w' ⟨rfl, ⟨nd, rfl⟩⟩; (try first | exact ⟨rfl, _, World.drewN_drewN _ _ _⟩ | exact ⟨rfl, _, Eq.trans (World.drewN_drewN _ _ _) (congrArg (World.drewN _) (Nat.add_assoc _ _ _))⟩)))
   repeat (go_quiet (first | ((with_reducible refine az (N := 2) rfl ?_); (try (refine aJ (by rfl) ?_; dsimp only)); refine ap ?hg (N := 2) ?hd (cs := #[.int .i64 bg, .int .i64 bT, .slice dg bv.length dd, .slice de bI.length df]) (t := 49) ?hr ?_; (case hd => rfl); (case hg => rfl); (case hr => first | (go_simp; done) | (go_simp; rfl)); intro aV hg w6 hbox hb; have n0_ := Aside0.mk (ah (by repeat (first | (with_reducible first | exact HB.out | apply a6 | apply a4 | apply a5) | exact HB.out)) hb); have n1_ := Aside0.mk (hbox); have n2_ := Aside0.mk ((by rw [hg]; exact (ae (by repeat (first | (with_reducible first | exact HB.out | apply a6 | apply a4 | apply a5) | exact HB.out))) : w.heap.size ≤ aV)); have n3_ := Aside0.mk ((by rw [hg]; exact (ae (by repeat (first | (with_reducible first | exact HB.out | apply a6 | apply a4 | apply a5) | exact HB.out))) : w.heap.size ≤ aV)); clear HB; have HB := n0_; have aD := n1_; have GW181 := n2_; have ec := n3_; clear n0_ n1_ n2_ n3_; clear hb hbox hg; have gL : w6.cell? ⟨aV, 0, none⟩ = some (.int .i64 bg) := (a7 aD.out 0).trans rfl; have gM : w6.cell? ⟨aV, 1, none⟩ = some (.int .i64 bT) := (a7 aD.out 1).trans rfl; have hcz7_2 : w6.cell? ⟨aV, 2, none⟩ = some (.slice dg bv.length dd) := (a7 aD.out 2).trans rfl; have hcz7_3 : w6.cell? ⟨aV, 3, none⟩ = some (.slice de bI.length df) := (a7 aD.out 3).trans rfl; have gN := a8 aD.out 0; have gO := a8 aD.out 1; have hfz7_2 := a8 aD.out 2; have hfz7_3 := a8 aD.out 3) | (go_at_call 59; (with_reducible refine (fastiref15_vars.calls k _ _ bv a1 true _ ?side1 ?side2 A3.out).mono ?_); (case side1 => repeat (first | exact (Kd.C_below gP.out HB.out) | (with_reducible refine Kd.C_alloc ?_ _) | (with_reducible refine Kd.C_drewN ?_ _) | (with_reducible refine Kd.C_drew ?_))); (case side2 => exact jD.out); rintro e w' ⟨rfl, ⟨nd, rfl⟩⟩; (try first | exact ⟨rfl, _, World.drewN_drewN _ _ _⟩ | exact ⟨rfl, _, Eq.trans (World.drewN_drewN _ _ _) (congrArg (World.drewN _) (Nat.add_assoc _ _ _))⟩))); try go_wp2_with (first | ((with_reducible refine az (N := 2) rfl ?_); (try (refine aJ (by rfl) ?_; dsimp only)); refine ap ?hg (N := 2) ?hd (cs := #[.int .i64 bg, .int .i64 bT, .slice dg bv.length dd, .slice de bI.length df]) (t := 49) ?hr ?_; (case hd => rfl); (case hg => rfl); (case hr => first | (go_simp; done) | (go_simp; rfl)); intro aV hg w6 hbox hb; have n0_ := Aside0.mk (ah (by repeat (first | (with_reducible first | exact HB.out | apply a6 | apply a4 | apply a5) | exact HB.out)) hb); have n1_ := Aside0.mk (hbox); have n2_ := Aside0.mk ((by rw [hg]; exact (ae (by repeat (first | (with_reducible first | exact HB.out | apply a6 | apply a4 | apply a5) | exact HB.out))) : w.heap.size ≤ aV)); have n3_ := Aside0.mk ((by rw [hg]; exact (ae (by repeat (first | (with_reducible first | exact HB.out | apply a6 | apply a4 | apply a5) | exact HB.out))) : w.heap.size ≤ aV)); clear HB; have HB := n0_; have aD := n1_; have GW181 := n2_; have ec := n3_; clear n0_ n1_ n2_ n3_; clear hb hbox hg; have gL : w6.cell? ⟨aV, 0, none⟩ = some (.int .i64 bg) := (a7 aD.out 0).trans rfl; have gM : w6.cell? ⟨aV, 1, none⟩ = some (.int .i64 bT) := (a7 aD.out 1).trans rfl; have hcz7_2 : w6.cell? ⟨aV, 2, none⟩ = some (.slice dg bv.length dd) := (a7 aD.out 2).trans rfl; have hcz7_3 : w6.cell? ⟨aV, 3, none⟩ = some (.slice de bI.length df) := (a7 aD.out 3).trans rfl; have gN := a8 aD.out 0; have gO := a8 aD.out 1; have hfz7_2 := a8 aD.out 2; have hfz7_3 := a8 aD.out 3) | (go_at_call 59; (with_reducible refine (fastiref15_vars.calls k _ _ bv a1 true _ ?side1 ?side2 A3.out).mono ?_); (case side1 => repeat (first | exact (Kd.C_below gP.out HB.out) | (with_reducible refine Kd.C_alloc ?_ _) | (with_reducible refine Kd.C_drewN ?_ _) | (with_reducible refine Kd.C_drew ?_))); (case side2 => exact jD.out); rintro e w' ⟨rfl, ⟨nd, rfl⟩⟩; (try first | exact ⟨rfl, _, World.drewN_drewN _ _ _⟩ | exact ⟨rfl, _, Eq.trans (World.drewN_drewN _ _ _) (congrArg (World.drewN _) (Nat.add_assoc _ _ _))⟩))))
   go_loopg [5] k (fun kq v5 w' => ∃ (x5_1 : Int), v5 = .int .i64 x5_1 ∧ Aside0 (fastiref15_rule.l0 kq x5_1 bg bT bv bI = some r) ∧ Aside0 (kq ≤ k) ∧ Aside0 (w'.heap[aV]? = some (.cells #[.int .i64 bg, .int .i64 bT, (.slice dg bv.length dd), (.slice de bI.length df)] 49 (0, 0))) ∧ Aside0 (Below w.heap.size w w'))
   case atStart => exact ⟨(0), (by first | rfl | (simp; done) | (simp [*]; done)), H', ⟨Nat.le_refl _⟩, ⟨by (with_reducible repeat (first | refine ab ?_ _ | refine ac ?_ | refine aa ?_ _)); exact aD.out⟩, ⟨by repeat (first | (with_reducible first | exact HB.out | apply a6 | apply a4 | apply a5 | refine a9 ?_ ec.out) | exact HB.out)⟩⟩
   case round =>
    clear H'
    try clear p2; try clear c4; try clear c5; try clear c5b0; try clear c5b1; try clear gL; try clear gM; try clear hcz7_2; try clear hcz7_3; try clear gN; try clear gO; try clear hfz7_2; try clear hfz7_3
    obtain ⟨x5_1, rfl, HA, HK1, aD, HB⟩ := hrel
    cases gk with
    | zero => exact absurd HA.out (by simp [fastiref15_rule.l0])
    | succ k1 =>
     have H := HA.out
     clear HA
     simp only [fastiref15_rule.l0] at H
     by_cases c8 : x5_1 < (bI.length : Int)
     ·rw [if_pos c8] at H
      have c8b0 : decide (x5_1 < (bI.length : Int)) = true := decide_eq_true c8
      clear c8
      by_cases c9 : 0 ≤ x5_1
      ·rw [if_pos c9] at H
       have c9b0 : decide (0 ≤ x5_1) = true := decide_eq_true c9
       clear c9
       by_cases c10 : ((ax bI x5_1).length : Int) = (bv.length : Int)
       ·rw [if_pos c10] at H
        have gK : (((ax bI x5_1).length : Int) == (bv.length : Int)) = true := beq_iff_eq.mpr c10
        have c10b1 : (((ax bI x5_1).length : Int) != (bv.length : Int)) = false := bne_eq_false_iff_eq.mpr c10
        have c10b2 : ((ax bI x5_1).length == bv.length) = true := by first | simpa using c10 | (simp at c10 ⊢; omega)
        clear c10
        have H' := Aside0.mk H
        clear H
        have bV : wr.cell? ⟨aV, 0, none⟩ = some (.int .i64 bg) := (a7 aD.out 0).trans rfl
        have bW : wr.cell? ⟨aV, 1, none⟩ = some (.int .i64 bT) := (a7 aD.out 1).trans rfl
        have hcz11_2 : wr.cell? ⟨aV, 2, none⟩ = some (.slice dg bv.length dd) := (a7 aD.out 2).trans rfl
        have hcz11_3 : wr.cell? ⟨aV, 3, none⟩ = some (.slice de bI.length df) := (a7 aD.out 3).trans rfl
        have bX := a8 aD.out 0
        have bY := a8 aD.out 1
        have hfz11_2 := a8 aD.out 2
        have hfz11_3 := a8 aD.out 3
        have p183 : 0 ≤ (x5_1 : Int) := of_decide_eq_true (by first | (with_reducible assumption) | assumption)
        have q183 : x5_1 < (bI.length : Int) := of_decide_eq_true (by first | (with_reducible assumption) | assumption)
        obtain ⟨ad183, A183_0, c183_0, e183, f5, jE, jF⟩ := dD HR0_3.out x5_1 p183 q183
        cases e183
        replace f5 := (HB.out.cell (World.block_lt_of_cell? w _ f5)).trans f5
        have HR183_0 := Aside0.mk jF
        have HC183_0 := Aside0.mk jE
        clear jF jE
        replace p183 := eq_true p183
        replace q183 := eq_true q183
        go_wp2
        repeat (go_quiet (fail); try go_wp2)
        go_roundg k1
        case measure => have := HK1.out; omega
        case rel => exact ⟨(wrap64 (x5_1 + 1)), (by first | rfl | (simp; done) | (simp [*]; done)), H', ⟨by have := HK1.out; omega⟩, ⟨by (with_reducible repeat (first | refine ab ?_ _ | refine ac ?_ | refine aa ?_ _)); exact aD.out⟩, ⟨by repeat (first | (with_reducible first | exact HB.out | apply a6 | apply a4 | apply a5 | refine a9 ?_ ec.out) | exact HB.out)⟩⟩
       ·rw [if_neg c10] at H
        have gK : (((ax bI x5_1).length : Int) == (bv.length : Int)) = false := beq_eq_false_iff_ne.mpr c10
        have c10b1 : (((ax bI x5_1).length : Int) != (bv.length : Int)) = true := bne_iff_ne.mpr c10
        have c10b2 : ((ax bI x5_1).length == bv.length) = false := by first | simpa using c10 | (simp at c10 ⊢; omega)
        obtain rfl := Option.some.inj H
        have cJ : wr.cell? ⟨aV, 0, none⟩ = some (.int .i64 bg) := (a7 aD.out 0).trans rfl
        have cK : wr.cell? ⟨aV, 1, none⟩ = some (.int .i64 bT) := (a7 aD.out 1).trans rfl
        have hcz12_2 : wr.cell? ⟨aV, 2, none⟩ = some (.slice dg bv.length dd) := (a7 aD.out 2).trans rfl
        have hcz12_3 : wr.cell? ⟨aV, 3, none⟩ = some (.slice de bI.length df) := (a7 aD.out 3).trans rfl
        have cL := a8 aD.out 0
        have cM := a8 aD.out 1
        have hfz12_2 := a8 aD.out 2
        have hfz12_3 := a8 aD.out 3
        have p183 : 0 ≤ (x5_1 : Int) := of_decide_eq_true (by first | (with_reducible assumption) | assumption)
        have q183 : x5_1 < (bI.length : Int) := of_decide_eq_true (by first | (with_reducible assumption) | assumption)
        obtain ⟨ad183, A183_0, c183_0, e183, f5, jE, jF⟩ := dD HR0_3.out x5_1 p183 q183
        cases e183
        replace f5 := (HB.out.cell (World.block_lt_of_cell? w _ f5)).trans f5
        have HR183_0 := Aside0.mk jF
        have HC183_0 := Aside0.mk jE
        clear jF jE
        replace p183 := eq_true p183
        replace q183 := eq_true q183
        go_wp2
        repeat (go_quiet (fail); try go_wp2)
        go_ret
        exact ⟨by first | rfl | (simp [al, ak] <;> rfl) | (simp [*, al, ak] <;> rfl), by repeat (first | (with_reducible first | exact HB.out | apply a6 | apply a4 | apply a5 | refine a9 ?_ ec.out) | exact HB.out)⟩
      ·rw [if_neg c9] at H
       exact absurd H (by simp)
     ·rw [if_neg c8] at H
      have c8b0 : decide (x5_1 < (bI.length : Int)) = false := decide_eq_false c8
      clear c8
      obtain rfl := Option.some.inj H
      have dk : wr.cell? ⟨aV, 0, none⟩ = some (.int .i64 bg) := (a7 aD.out 0).trans rfl
      have dm : wr.cell? ⟨aV, 1, none⟩ = some (.int .i64 bT) := (a7 aD.out 1).trans rfl
      have hcz13_2 : wr.cell? ⟨aV, 2, none⟩ = some (.slice dg bv.length dd) := (a7 aD.out 2).trans rfl
      have hcz13_3 : wr.cell? ⟨aV, 3, none⟩ = some (.slice de bI.length df) := (a7 aD.out 3).trans rfl
      have dn := a8 aD.out 0
      have dp := a8 aD.out 1
      have hfz13_2 := a8 aD.out 2
      have hfz13_3 := a8 aD.out 3
      go_wp2
      repeat (go_quiet (fail); try go_wp2)
      go_ret
      exact ⟨by first | rfl | (simp [al, ak] <;> rfl) | (simp [*, al, ak] <;> rfl), by repeat (first | (with_reducible first | exact HB.out | apply a6 | apply a4 | apply a5 | refine a9 ?_ ec.out) | exact HB.out)⟩
  ·rw [if_neg c5] at H
   have c5b0 : (bg == 1) = false := beq_eq_false_iff_ne.mpr c5
   have c5b1 : (bg != 1) = true := bne_iff_ne.mpr c5
   have HC14 := Aside0.mk H
   clear H
   go_enter Try.func40, Try.ntmps40
   go_upto_if 35 with (first | ((with_reducible refine az (N := 2) rfl ?_); (try (refine aJ (by rfl) ?_; dsimp only)); refine ap ?hg (N := 2) ?hd (cs := #[.int .i64 bg, .int .i64 bT, .slice dg bv.length dd, .slice de bI.length df]) (t := 49) ?hr ?_; (case hd => rfl); (case hg => rfl); (case hr => first | (go_simp; done) | (go_simp; rfl)); intro aV hg w15 hbox hb; have n0_ := Aside0.mk (ah (by repeat (first | (with_reducible first | exact HB.out | apply a6 | apply a4 | apply a5) | exact HB.out)) hb); have n1_ := Aside0.mk (hbox); have n2_ := Aside0.mk ((by rw [hg]; exact (ae (by repeat (first | (with_reducible first | exact HB.out | apply a6 | apply a4 | apply a5) | exact HB.out))) : w.heap.size ≤ aV)); have n3_ := Aside0.mk ((by rw [hg]; exact (ae (by repeat (first | (with_reducible first | exact HB.out | apply a6 | apply a4 | apply a5) | exact HB.out))) : w.heap.size ≤ aV)); clear HB; have HB := n0_; have aD := n1_; have GW181 := n2_; have ec := n3_; clear n0_ n1_ n2_ n3_; clear hb hbox hg; have ib : w15.cell? ⟨aV, 0, none⟩ = some (.int .i64 bg) := (a7 aD.out 0).trans rfl; have ic : w15.cell? ⟨aV, 1, none⟩ = some (.int .i64 bT) := (a7 aD.out 1).trans rfl; have hcz16_2 : w15.cell? ⟨aV, 2, none⟩ = some (.slice dg bv.length dd) := (a7 aD.out 2).trans rfl; have hcz16_3 : w15.cell? ⟨aV, 3, none⟩ = some (.slice de bI.length df) := (a7 aD.out 3).trans rfl; have ie := a8 aD.out 0; have ig := a8 aD.out 1; have hfz16_2 := a8 aD.out 2; have hfz16_3 := a8 aD.out 3) | (go_at_call 59; (with_reducible refine (fastiref15_vars.calls k _ _ bv a1 true _ ?side1 ?side2 A3.out).mono ?_); (case side1 => repeat (first | exact (Kd.C_below gP.out HB.out) | (with_reducible refine Kd.C_alloc ?_ _) | (with_reducible refine Kd.C_drewN ?_ _) | (with_reducible refine Kd.C_drew ?_))); (case side2 => exact jD.out); rintro e w' ⟨rfl, ⟨nd, rfl⟩⟩; (try first | exact ⟨rfl, _, World.drewN_drewN _ _ _⟩ | exact ⟨rfl, _, Eq.trans (World.drewN_drewN _ _ _) (congrArg (World.drewN _) (Nat.add_assoc _ _ _))⟩)))
   repeat (go_quiet (first | ((with_reducible refine az (N := 2) rfl ?_); (try (refine aJ (by rfl) ?_; dsimp only)); refine ap ?hg (N := 2) ?hd (cs := #[.int .i64 bg, .int .i64 bT, .slice dg bv.length dd, .slice de bI.length df]) (t := 49) ?hr ?_; (case hd => rfl); (case hg => rfl); (case hr => first | (go_simp; done) | (go_simp; rfl)); intro aV hg w15 hbox hb; have n0_ := Aside0.mk (ah (by repeat (first | (with_reducible first | exact HB.out | apply a6 | apply a4 | apply a5) | exact HB.out)) hb); have n1_ := Aside0.mk (hbox); have n2_ := Aside0.mk ((by rw [hg]; exact (ae (by repeat (first | (with_reducible first | exact HB.out | apply a6 | apply a4 | apply a5) | exact HB.out))) : w.heap.size ≤ aV)); have n3_ := Aside0.mk ((by rw [hg]; exact (ae (by repeat (first | (with_reducible first | exact HB.out | apply a6 | apply a4 | apply a5) | exact HB.out))) : w.heap.size ≤ aV)); clear HB; have HB := n0_; have aD := n1_; have GW181 := n2_; have ec := n3_; clear n0_ n1_ n2_ n3_; clear hb hbox hg; have ib : w15.cell? ⟨aV, 0, none⟩ = some (.int .i64 bg) := (a7 aD.out 0).trans rfl; have ic : w15.cell? ⟨aV, 1, none⟩ = some (.int .i64 bT) := (a7 aD.out 1).trans rfl; have hcz16_2 : w15.cell? ⟨aV, 2, none⟩ = some (.slice dg bv.length dd) := (a7 aD.out 2).trans rfl; have hcz16_3 : w15.cell? ⟨aV, 3, none⟩ = some (.slice de bI.length df) := (a7 aD.out 3).trans rfl; have ie := a8 aD.out 0; have ig := a8 aD.out 1; have hfz16_2 := a8 aD.out 2; have hfz16_3 := a8 aD.out 3) | (go_at_call 59; (with_reducible refine (fastiref15_vars.calls k _ _ bv a1 true _ ?side1 ?side2 A3.out).mono ?_); (case side1 => repeat (first | exact (Kd.C_below gP.out HB.out) | (with_reducible refine Kd.C_alloc ?_ _) | (with_reducible refine Kd.C_drewN ?_ _) | (with_reducible refine Kd.C_drew ?_))); (case side2 => exact jD.out); rintro e w' ⟨rfl, ⟨nd, rfl⟩⟩; (try first | exact ⟨rfl, _, World.drewN_drewN _ _ _⟩ | exact ⟨rfl, _, Eq.trans (World.drewN_drewN _ _ _) (congrArg (World.drewN _) (Nat.add_assoc _ _ _))⟩))); go_upto_if 35 with (first | ((with_reducible refine az (N := 2) rfl ?_); (try (refine aJ (by rfl) ?_; dsimp only)); refine ap ?hg (N := 2) ?hd (cs := #[.int .i64 bg, .int .i64 bT, .slice dg bv.length dd, .slice de bI.length df]) (t := 49) ?hr ?_; (case hd => rfl); (case hg => rfl); (case hr => first | (go_simp; done) | (go_simp; rfl)); intro aV hg w15 hbox hb; have n0_ := Aside0.mk (ah (by repeat (first | (with_reducible first | exact HB.out | apply a6 | apply a4 | apply a5) | exact HB.out)) hb); have n1_ := Aside0.mk (hbox); have n2_ := Aside0.mk ((by rw [hg]; exact (ae (by repeat (first | (with_reducible first | exact HB.out | apply a6 | apply a4 | apply a5) | exact HB.out))) : w.heap.size ≤ aV)); have n3_ := Aside0.mk ((by rw [hg]; exact (ae (by repeat (first | (with_reducible first | exact HB.out | apply a6 | apply a4 | apply a5) | exact HB.out))) : w.heap.size ≤ aV)); clear HB; have HB := n0_; have aD := n1_; have GW181 := n2_; have ec := n3_; clear n0_ n1_ n2_ n3_; clear hb hbox hg; have ib : w15.cell? ⟨aV, 0, none⟩ = some (.int .i64 bg) := (a7 aD.out 0).trans rfl; have ic : w15.cell? ⟨aV, 1, none⟩ = some (.int .i64 bT) := (a7 aD.out 1).trans rfl; have hcz16_2 : w15.cell? ⟨aV, 2, none⟩ = some (.slice dg bv.length dd) := (a7 aD.out 2).trans rfl; have hcz16_3 : w15.cell? ⟨aV, 3, none⟩ = some (.slice de bI.length df) := (a7 aD.out 3).trans rfl; have ie := a8 aD.out 0; have ig := a8 aD.out 1; have hfz16_2 := a8 aD.out 2; have hfz16_3 := a8 aD.out 3) | (go_at_call 59; (with_reducible refine (fastiref15_vars.calls k _ _ bv a1 true _ ?side1 ?side2 A3.out).mono ?_); (case side1 => repeat (first | exact (Kd.C_below gP.out HB.out) | (with_reducible refine Kd.C_alloc ?_ _) | (with_reducible refine Kd.C_drewN ?_ _) | (with_reducible refine Kd.C_drew ?_))); (case side2 => exact jD.out); rintro e w' ⟨rfl, ⟨nd, rfl⟩⟩; (try first | exact ⟨rfl, _, World.drewN_drewN _ _ _⟩ | exact ⟨rfl, _, Eq.trans (World.drewN_drewN _ _ _) (congrArg (World.drewN _) (Nat.add_assoc _ _ _))⟩))))
   (try simp only [Act.put, List.setIfInBounds_toArray, List.set_cons_zero, List.set_cons_succ])
   go_cut [35] (fun v35 wc => ∃ (kq : Nat) (x35_13 : Bool), v35 = .bool x35_13 ∧ Aside0 (fastiref15_rule.j1 kq bg x35_13 bg bT bv bI = some r) ∧ Aside0 (kq ≤ k) ∧ Aside0 (wc.heap[aV]? = some (.cells #[.int .i64 bg, .int .i64 bT, (.slice dg bv.length dd), (.slice de bI.length df)] 49 (0, 0))) ∧ Aside0 (Below w.heap.size w wc))
   case first =>
    have H := HC14.out
    clear HC14
    by_cases c17 : bg = 2
    ·rw [if_pos c17] at H
     have iN : (bg == 2) = true := beq_iff_eq.mpr c17
     have c17b1 : (bg != 2) = false := bne_eq_false_iff_eq.mpr c17
     clear c17
     (first | rw [iN] | (simp only [ar, av]; rw [iN]) | skip)
     have H' := Aside0.mk H
     clear H
     go_wp2
     repeat (go_quiet (fail); try go_wp2)
     go_meet
     case rel => exact ⟨_, ((bg == 2)), (by first | rfl | (simp; done) | (simp [*]; done)), H', ⟨by first | omega | exact Nat.le_refl _⟩, ⟨by (with_reducible repeat (first | refine ab ?_ _ | refine ac ?_ | refine aa ?_ _)); exact aD.out⟩, ⟨by repeat (first | (with_reducible first | exact HB.out | apply a6 | apply a4 | apply a5 | refine a9 ?_ ec.out) | exact HB.out)⟩⟩
    ·rw [if_neg c17] at H
     have iN : (bg == 2) = false := beq_eq_false_iff_ne.mpr c17
     have c17b1 : (bg != 2) = true := bne_iff_ne.mpr c17
     (first | rw [iN] | (simp only [ar, av]; rw [iN]) | skip)
     have H' := Aside0.mk H
     clear H
     go_wp2
     repeat (go_quiet (fail); try go_wp2)
     go_meet
     case rel => exact ⟨_, ((bg == 4)), (by first | rfl | (simp; done) | (simp [*]; done)), H', ⟨by first | omega | exact Nat.le_refl _⟩, ⟨by (with_reducible repeat (first | refine ab ?_ _ | refine ac ?_ | refine aa ?_ _)); exact aD.out⟩, ⟨by repeat (first | (with_reducible first | exact HB.out | apply a6 | apply a4 | apply a5 | refine a9 ?_ ec.out) | exact HB.out)⟩⟩
   case rest =>
    clear HC14
    try clear c1; try clear p1; try clear q1; try clear hx1; try clear p2; try clear c4; try clear c5; try clear c5b0; try clear c5b1; try clear p6; try clear c8; try clear c8b0; try clear c9; try clear c9b0; try clear c10; try clear gK; try clear c10b1; try clear c10b2; try clear c17; try clear iN; try clear c17b1; try clear bV; try clear bW; try clear hcz11_2; try clear hcz11_3; try clear cJ; try clear cK; try clear hcz12_2; try clear hcz12_3; try clear dk; try clear dm; try clear hcz13_2; try clear hcz13_3; try clear ib; try clear ic; try clear hcz16_2; try clear hcz16_3; try clear gL; try clear gM; try clear hcz7_2; try clear hcz7_3; try clear bX; try clear bY; try clear hfz11_2; try clear hfz11_3; try clear cL; try clear cM; try clear hfz12_2; try clear hfz12_3; try clear dn; try clear dp; try clear hfz13_2; try clear hfz13_3; try clear ie; try clear ig; try clear hfz16_2; try clear hfz16_3; try clear gN; try clear gO; try clear hfz7_2; try clear hfz7_3; try clear f5; try clear p183; try clear q183
    obtain ⟨kq, x35_13, rfl, HA, HJ13, aD, HB⟩ := hcut
    cases kq with
    | zero => exact absurd HA.out (by simp [fastiref15_rule.j1])
    | succ kj13 =>
     have H := HA.out
     clear HA
     simp only [fastiref15_rule.j1] at H
     by_cases c18 : x35_13 = true
     ·subst c18
      have H1 : (if bT = 0 then (some ((bI.length : Int) == 0)) else (some false)) = some r := by rw [if_pos rfl] at H; exact H
      clear H
      have H := H1
      clear H1
      by_cases c19 : bT = 0
      ·rw [if_pos c19] at H
       have c19b0 : (bT == 0) = true := beq_iff_eq.mpr c19
       have c19b1 : (bT != 0) = false := bne_eq_false_iff_eq.mpr c19
       clear c19
       obtain rfl := Option.some.inj H
       have i2 : wc.cell? ⟨aV, 0, none⟩ = some (.int .i64 bg) := (a7 aD.out 0).trans rfl
       have i4 : wc.cell? ⟨aV, 1, none⟩ = some (.int .i64 bT) := (a7 aD.out 1).trans rfl
       have hcz20_2 : wc.cell? ⟨aV, 2, none⟩ = some (.slice dg bv.length dd) := (a7 aD.out 2).trans rfl
       have hcz20_3 : wc.cell? ⟨aV, 3, none⟩ = some (.slice de bI.length df) := (a7 aD.out 3).trans rfl
       have i5 := a8 aD.out 0
       have i7 := a8 aD.out 1
       have hfz20_2 := a8 aD.out 2
       have hfz20_3 := a8 aD.out 3
       go_wp2
       repeat (go_quiet (fail); try go_wp2)
       go_ret
       exact ⟨by first | rfl | (simp [al, ak] <;> rfl) | (simp [*, al, ak] <;> rfl), by repeat (first | (with_reducible first | exact HB.out | apply a6 | apply a4 | apply a5 | refine a9 ?_ ec.out) | exact HB.out)⟩
      ·rw [if_neg c19] at H
       have c19b0 : (bT == 0) = false := beq_eq_false_iff_ne.mpr c19
       have c19b1 : (bT != 0) = true := bne_iff_ne.mpr c19
       obtain rfl := Option.some.inj H
       have hcz21_0 : wc.cell? ⟨aV, 0, none⟩ = some (.int .i64 bg) := (a7 aD.out 0).trans rfl
       have hcz21_1 : wc.cell? ⟨aV, 1, none⟩ = some (.int .i64 bT) := (a7 aD.out 1).trans rfl
       have hcz21_2 : wc.cell? ⟨aV, 2, none⟩ = some (.slice dg bv.length dd) := (a7 aD.out 2).trans rfl
       have hcz21_3 : wc.cell? ⟨aV, 3, none⟩ = some (.slice de bI.length df) := (a7 aD.out 3).trans rfl
       have hfz21_0 := a8 aD.out 0
       have hfz21_1 := a8 aD.out 1
       have hfz21_2 := a8 aD.out 2
       have hfz21_3 := a8 aD.out 3
       go_wp2
       repeat (go_quiet (fail); try go_wp2)
       go_ret
       exact ⟨by first | rfl | (simp [al, ak] <;> rfl) | (simp [*, al, ak] <;> rfl), by repeat (first | (with_reducible first | exact HB.out | apply a6 | apply a4 | apply a5 | refine a9 ?_ ec.out) | exact HB.out)⟩
     ·replace c18 := Bool.eq_false_iff.mpr c18
      subst c18
      have H1 : (if bg = 3 then (if bT ≥ 1 then (if bT ≤ 73048 then (some ((bI.length : Int) == 0)) else (some false)) else (some false)) else (some false)) = some r := by rw [if_neg (show ¬ (false = true) by decide)] at H; exact H
      clear H
      have H := H1
      clear H1
      by_cases c22 : bg = 3
      ·rw [if_pos c22] at H
       have c22b0 : (bg == 3) = true := beq_iff_eq.mpr c22
       have c22b1 : (bg != 3) = false := bne_eq_false_iff_eq.mpr c22
       clear c22
       by_cases c23 : bT ≥ 1
       ·rw [if_pos c23] at H
        have c23b0 : decide (1 ≤ bT) = true := decide_eq_true c23
        clear c23
        by_cases c24 : bT ≤ 73048
        ·rw [if_pos c24] at H
         have c24b0 : decide (bT ≤ 73048) = true := decide_eq_true c24
         clear c24
         obtain rfl := Option.some.inj H
         have jq : wc.cell? ⟨aV, 0, none⟩ = some (.int .i64 bg) := (a7 aD.out 0).trans rfl
         have jr : wc.cell? ⟨aV, 1, none⟩ = some (.int .i64 bT) := (a7 aD.out 1).trans rfl
         have hcz25_2 : wc.cell? ⟨aV, 2, none⟩ = some (.slice dg bv.length dd) := (a7 aD.out 2).trans rfl
         have hcz25_3 : wc.cell? ⟨aV, 3, none⟩ = some (.slice de bI.length df) := (a7 aD.out 3).trans rfl
         have js := a8 aD.out 0
         have jt := a8 aD.out 1
         have hfz25_2 := a8 aD.out 2
         have hfz25_3 := a8 aD.out 3
         go_wp2
         repeat (go_quiet (fail); try go_wp2)
         go_ret
         exact ⟨by first | rfl | (simp [al, ak] <;> rfl) | (simp [*, al, ak] <;> rfl), by repeat (first | (with_reducible first | exact HB.out | apply a6 | apply a4 | apply a5 | refine a9 ?_ ec.out) | exact HB.out)⟩
        ·rw [if_neg c24] at H
         have c24b0 : decide (bT ≤ 73048) = false := decide_eq_false c24
         clear c24
         obtain rfl := Option.some.inj H
         have hcz26_0 : wc.cell? ⟨aV, 0, none⟩ = some (.int .i64 bg) := (a7 aD.out 0).trans rfl
         have hcz26_1 : wc.cell? ⟨aV, 1, none⟩ = some (.int .i64 bT) := (a7 aD.out 1).trans rfl
         have hcz26_2 : wc.cell? ⟨aV, 2, none⟩ = some (.slice dg bv.length dd) := (a7 aD.out 2).trans rfl
         have hcz26_3 : wc.cell? ⟨aV, 3, none⟩ = some (.slice de bI.length df) := (a7 aD.out 3).trans rfl
         have hfz26_0 := a8 aD.out 0
         have hfz26_1 := a8 aD.out 1
         have hfz26_2 := a8 aD.out 2
         have hfz26_3 := a8 aD.out 3
         go_wp2
         repeat (go_quiet (fail); try go_wp2)
         go_ret
         exact ⟨by first | rfl | (simp [al, ak] <;> rfl) | (simp [*, al, ak] <;> rfl), by repeat (first | (with_reducible first | exact HB.out | apply a6 | apply a4 | apply a5 | refine a9 ?_ ec.out) | exact HB.out)⟩
       ·rw [if_neg c23] at H
        have c23b0 : decide (1 ≤ bT) = false := decide_eq_false c23
        clear c23
        obtain rfl := Option.some.inj H
        have hcz27_0 : wc.cell? ⟨aV, 0, none⟩ = some (.int .i64 bg) := (a7 aD.out 0).trans rfl
        have hcz27_1 : wc.cell? ⟨aV, 1, none⟩ = some (.int .i64 bT) := (a7 aD.out 1).trans rfl
        have hcz27_2 : wc.cell? ⟨aV, 2, none⟩ = some (.slice dg bv.length dd) := (a7 aD.out 2).trans rfl
        have hcz27_3 : wc.cell? ⟨aV, 3, none⟩ = some (.slice de bI.length df) := (a7 aD.out 3).trans rfl
        have hfz27_0 := a8 aD.out 0
        have hfz27_1 := a8 aD.out 1
        have hfz27_2 := a8 aD.out 2
        have hfz27_3 := a8 aD.out 3
        go_wp2
        repeat (go_quiet (fail); try go_wp2)
        go_ret
        exact ⟨by first | rfl | (simp [al, ak] <;> rfl) | (simp [*, al, ak] <;> rfl), by repeat (first | (with_reducible first | exact HB.out | apply a6 | apply a4 | apply a5 | refine a9 ?_ ec.out) | exact HB.out)⟩
      ·rw [if_neg c22] at H
       have c22b0 : (bg == 3) = false := beq_eq_false_iff_ne.mpr c22
       have c22b1 : (bg != 3) = true := bne_iff_ne.mpr c22
       obtain rfl := Option.some.inj H
       go_wp2
       repeat (go_quiet (fail); try go_wp2)
       go_ret
       exact ⟨by first | rfl | (simp [al, ak] <;> rfl) | (simp [*, al, ak] <;> rfl), by repeat (first | (with_reducible first | exact HB.out | apply a6 | apply a4 | apply a5 | refine a9 ?_ ec.out) | exact HB.out)⟩
 ·replace c4 := Bool.eq_false_iff.mpr c4
  subst c4
  have H1 : (some false) = some r := by rw [if_neg (show ¬ (false = true) by decide)] at H; exact H
  clear H
  have H := H1
  clear H1
  obtain rfl := Option.some.inj H
  go_enter Try.func40, Try.ntmps40
  go_wp2_with (first | ((with_reducible refine az (N := 2) rfl ?_); (try (refine aJ (by rfl) ?_; dsimp only)); refine ap ?hg (N := 2) ?hd (cs := #[.int .i64 bg, .int .i64 bT, .slice dg bv.length dd, .slice de bI.length df]) (t := 49) ?hr ?_; (case hd => rfl); (case hg => rfl); (case hr => first | (go_simp; done) | (go_simp; rfl)); intro aV hg w28 hbox hb; have n0_ := Aside0.mk (ah (by repeat (first | (with_reducible first | exact HB.out | apply a6 | apply a4 | apply a5) | exact HB.out)) hb); have n1_ := Aside0.mk (hbox); have n2_ := Aside0.mk ((by rw [hg]; exact (ae (by repeat (first | (with_reducible first | exact HB.out | apply a6 | apply a4 | apply a5) | exact HB.out))) : w.heap.size ≤ aV)); have n3_ := Aside0.mk ((by rw [hg]; exact (ae (by repeat (first | (with_reducible first | exact HB.out | apply a6 | apply a4 | apply a5) | exact HB.out))) : w.heap.size ≤ aV)); clear HB; have HB := n0_; have aD := n1_; have GW181 := n2_; have ec := n3_; clear n0_ n1_ n2_ n3_; clear hb hbox hg; have hcz29_0 : w28.cell? ⟨aV, 0, none⟩ = some (.int .i64 bg) := (a7 aD.out 0).trans rfl; have hcz29_1 : w28.cell? ⟨aV, 1, none⟩ = some (.int .i64 bT) := (a7 aD.out 1).trans rfl; have hcz29_2 : w28.cell? ⟨aV, 2, none⟩ = some (.slice dg bv.length dd) := (a7 aD.out 2).trans rfl; have hcz29_3 : w28.cell? ⟨aV, 3, none⟩ = some (.slice de bI.length df) := (a7 aD.out 3).trans rfl; have hfz29_0 := a8 aD.out 0; have hfz29_1 := a8 aD.out 1; have hfz29_2 := a8 aD.out 2; have hfz29_3 := a8 aD.out 3) | (go_at_call 59; (with_reducible refine (fastiref15_vars.calls k _ _ bv a1 false _ ?side1 ?side2 A3.out).mono ?_); (case side1 => repeat (first | exact (Kd.C_below gP.out HB.out) | (with_reducible refine Kd.C_alloc ?_ _) | (with_reducible refine Kd.C_drewN ?_ _) | (with_reducible refine Kd.C_drew ?_))); (case side2 => exact jD.out); rintro e w' ⟨rfl, ⟨nd, rfl⟩⟩; (try first | exact ⟨rfl, _, World.drewN_drewN _ _ _⟩ | exact ⟨rfl, _, Eq.trans (World.drewN_drewN _ _ _) (congrArg (World.drewN _) (Nat.add_assoc _ _ _))⟩)))
  repeat (go_quiet (first | ((with_reducible refine az (N := 2) rfl ?_); (try (refine aJ (by rfl) ?_; dsimp only)); refine ap ?hg (N := 2) ?hd (cs := #[.int .i64 bg, .int .i64 bT, .slice dg bv.length dd, .slice de bI.length df]) (t := 49) ?hr ?_; (case hd => rfl); (case hg => rfl); (case hr => first | (go_simp; done) | (go_simp; rfl)); intro aV hg w28 hbox hb; have n0_ := Aside0.mk (ah (by repeat (first | (with_reducible first | exact HB.out | apply a6 | apply a4 | apply a5) | exact HB.out)) hb); have n1_ := Aside0.mk (hbox); have n2_ := Aside0.mk ((by rw [hg]; exact (ae (by repeat (first | (with_reducible first | exact HB.out | apply a6 | apply a4 | apply a5) | exact HB.out))) : w.heap.size ≤ aV)); have n3_ := Aside0.mk ((by rw [hg]; exact (ae (by repeat (first | (with_reducible first | exact HB.out | apply a6 | apply a4 | apply a5) | exact HB.out))) : w.heap.size ≤ aV)); clear HB; have HB := n0_; have aD := n1_; have GW181 := n2_; have ec := n3_; clear n0_ n1_ n2_ n3_; clear hb hbox hg; have hcz29_0 : w28.cell? ⟨aV, 0, none⟩ = some (.int .i64 bg) := (a7 aD.out 0).trans rfl; have hcz29_1 : w28.cell? ⟨aV, 1, none⟩ = some (.int .i64 bT) := (a7 aD.out 1).trans rfl; have hcz29_2 : w28.cell? ⟨aV, 2, none⟩ = some (.slice dg bv.length dd) := (a7 aD.out 2).trans rfl; have hcz29_3 : w28.cell? ⟨aV, 3, none⟩ = some (.slice de bI.length df) := (a7 aD.out 3).trans rfl; have hfz29_0 := a8 aD.out 0; have hfz29_1 := a8 aD.out 1; have hfz29_2 := a8 aD.out 2; have hfz29_3 := a8 aD.out 3) | (go_at_call 59; (with_reducible refine (fastiref15_vars.calls k _ _ bv a1 false _ ?side1 ?side2 A3.out).mono ?_); (case side1 => repeat (first | exact (Kd.C_below gP.out HB.out) | (with_reducible refine Kd.C_alloc ?_ _) | (with_reducible refine Kd.C_drewN ?_ _) | (with_reducible refine Kd.C_drew ?_))); (case side2 => exact jD.out); rintro e w' ⟨rfl, ⟨nd, rfl⟩⟩; (try first | exact ⟨rfl, _, World.drewN_drewN _ _ _⟩ | exact ⟨rfl, _, Eq.trans (World.drewN_drewN _ _ _) (congrArg (World.drewN _) (Nat.add_assoc _ _ _))⟩))); try go_wp2_with (first | ((with_reducible refine az (N := 2) rfl ?_); (try (refine aJ (by rfl) ?_; dsimp only)); refine ap ?hg (N := 2) ?hd (cs := #[.int .i64 bg, .int .i64 bT, .slice dg bv.length dd, .slice de bI.length df]) (t := 49) ?hr ?_; (case hd => rfl); (case hg => rfl); (case hr => first | (go_simp; done) | (go_simp; rfl)); intro aV hg w28 hbox hb; have n0_ := Aside0.mk (ah (by repeat (first | (with_reducible first | exact HB.out | apply a6 | apply a4 | apply a5) | exact HB.out)) hb); have n1_ := Aside0.mk (hbox); have n2_ := Aside0.mk ((by rw [hg]; exact (ae (by repeat (first | (with_reducible first | exact HB.out | apply a6 | apply a4 | apply a5) | exact HB.out))) : w.heap.size ≤ aV)); have n3_ := Aside0.mk ((by rw [hg]; exact (ae (by repeat (first | (with_reducible first | exact HB.out | apply a6 | apply a4 | apply a5) | exact HB.out))) : w.heap.size ≤ aV)); clear HB; have HB := n0_; have aD := n1_; have GW181 := n2_; have ec := n3_; clear n0_ n1_ n2_ n3_; clear hb hbox hg; have hcz29_0 : w28.cell? ⟨aV, 0, none⟩ = some (.int .i64 bg) := (a7 aD.out 0).trans rfl; have hcz29_1 : w28.cell? ⟨aV, 1, none⟩ = some (.int .i64 bT) := (a7 aD.out 1).trans rfl; have hcz29_2 : w28.cell? ⟨aV, 2, none⟩ = some (.slice dg bv.length dd) := (a7 aD.out 2).trans rfl; have hcz29_3 : w28.cell? ⟨aV, 3, none⟩ = some (.slice de bI.length df) := (a7 aD.out 3).trans rfl; have hfz29_0 := a8 aD.out 0; have hfz29_1 := a8 aD.out 1; have hfz29_2 := a8 aD.out 2; have hfz29_3 := a8 aD.out 3) | (go_at_call 59; (with_reducible refine (fastiref15_vars.calls k _ _ bv a1 false _ ?side1 ?side2 A3.out).mono ?_); (case side1 => repeat (first | exact (Kd.C_below gP.out HB.out) | (with_reducible refine Kd.C_alloc ?_ _) | (with_reducible refine Kd.C_drewN ?_ _) | (with_reducible refine Kd.C_drew ?_))); (case side2 => exact jD.out); rintro e w' ⟨rfl, ⟨nd, rfl⟩⟩; (try first | exact ⟨rfl, _, World.drewN_drewN _ _ _⟩ | exact ⟨rfl, _, Eq.trans (World.drewN_drewN _ _ _) (congrArg (World.drewN _) (Nat.add_assoc _ _ _))⟩))))
  go_ret
  exact ⟨by first | rfl | (simp [al, ak] <;> rfl) | (simp [*, al, ak] <;> rfl), by repeat (first | (with_reducible first | exact HB.out | apply a6 | apply a4 | apply a5 | refine a9 ?_ ec.out) | exact HB.out)⟩
end Go.Proofs.Ytcbpkdemcdikaaa.X
namespace Go.Proofs.Ytcbpkdemcdikaaa.X
open Go.RowKit Go.Proofs.YtcbpkdemcdikaaaW.PrintWords Go.Proofs.YtcbpkdemcdikaaaW.PrintLast Go.Proofs.YtcbpkdemcdikaaaW.PrintMore
attribute [local go_sem] aT aM aZ bc aE aG aU aN   
set_option linter.unusedVariables false
set_option linter.unusedSimpArgs false
mutual
def fastiref15_Check.l0 : Nat → Int → List (List Int) → List (S49) → Option (Int)
 | 0, _, _, _ => none
 | k + 1, x3, f6, ed => if x3 < (f6.length : Int) then (if 0 ≤ x3 then ((fastiref15_domain.f k (ax f6 x3)).bind fun t187 => (if t187 = true then (fastiref15_Check.l0 k (wrap64 (x3 + 1)) f6 ed) else (some 150))) else (none)) else (fastiref15_Check.l1 k 0 f6 ed)
def fastiref15_Check.l1 : Nat → Int → List (List Int) → List (S49) → Option (Int)
 | 0, _, _, _ => none
 | k + 1, x4, f6, ed => if x4 < (ed.length : Int) then (if 0 ≤ x4 then ((fastiref15_rule.f k ((aj ed x4).f0) ((aj ed x4).f1) ((aj ed x4).f2) ((aj ed x4).f3) (f6.length : Int)).bind fun t189 => (if t189 = true then (fastiref15_Check.l1 k (wrap64 (x4 + 1)) f6 ed) else (some 150))) else (none)) else ((fastiref15_Tries.f k f6 ed).bind fun t190 => (if t190 > 65536 then (some 2) else (some 0)))
end
def fastiref15_Check.f (k : Nat) (ai : List (List Int)) (af : List (S49)) : Option (Int) := (fastiref15_short.f k ai af).bind fun t185 => (if t185 = true then (if (ai.length : Int) = 0 then (some 150) else (fastiref15_Check.l0 k 0 ai af)) else (some 2))
def fastiref15_Check.T13 : Bool × List (List Nat × List Nat) := (true, [([], []), ([0], [0]), ([], []), ([1, 2], [1, 2]), ([3], [3]), ([], []), ([5], [5]), ([6], [6]), ([4, 7], [4, 7]), ([8], [8])])
def fastiref15_Check.B13 : List Nat := [0, 1, 0, 7, 15, 0, 32, 96, 255, 511]
theorem fastiref15_Check.tab13 : eK .any (gA Try.f18 13) = fastiref15_Check.T13 := by kernel_rfl
theorem fastiref15_Check.bits13 : eR fastiref15_Check.T13.2 fastiref15_Check.B13 = true := by kernel_rfl
set_option maxHeartbeats 8000000 in
set_option maxRecDepth 100000 in
theorem fastiref15_Check.calls (k : Nat) (au : Option Addr) (aq : Nat) (ai : List (List Int)) (aw : Option Addr) (ao : Nat) (af : List (S49)) (r : Int) (w : World) (bG : Kd.C (Kd.slice 3 (Kd.int .i64)) w au ai.length ai) (bO : ai.length ≤ aq) (bB : Kd.C k49 w aw af.length af) (bF : af.length ≤ ao) (h : fastiref15_Check.f k ai af = some r) :
  Calls Try.prog 18 #[.agg #[.slice au ai.length aq, .slice aw af.length ao]] w fun e w' => e = .returned (.int .i64 r) ∧ Below w.heap.size w w' := by
 have hu25 := Try.underlying25
 have hu49 := Try.underlying49
 have bf := Aside0.mk bG
 have bo := Aside0.mk bO
 clear bG bO
 have bd := Aside0.mk bB
 have bn := Aside0.mk bF
 clear bB bF
 have HB := Aside0.mk (Below.refl w.heap.size w)
 have H : ((fastiref15_short.f k ai af).bind fun t185 => (if t185 = true then (if (ai.length : Int) = 0 then (some 150) else (fastiref15_Check.l0 k 0 ai af)) else (some 2))) = some r := h
 clear h
 replace H := Option.bind_eq_some_iff.mp H
 obtain ⟨t185, A20, H⟩ := H
 replace H : (if t185 = true then (if (ai.length : Int) = 0 then (some 150) else (fastiref15_Check.l0 k 0 ai af)) else (some 2)) = some r := H
 have A2 := Aside0.mk A20
 clear A20
 by_cases c3 : t185 = true
 ·subst c3
  have H1 : (if (ai.length : Int) = 0 then (some 150) else (fastiref15_Check.l0 k 0 ai af)) = some r := by rw [if_pos rfl] at H; exact H
  clear H
  have H := H1
  clear H1
  by_cases c4 : (ai.length : Int) = 0
  ·rw [if_pos c4] at H
   have el : ((ai.length : Int) == 0) = true := beq_iff_eq.mpr c4
   have c4b1 : ((ai.length : Int) != 0) = false := bne_eq_false_iff_eq.mpr c4
   clear c4
   obtain rfl := Option.some.inj H
   go_enter Try.func18, Try.ntmps18
   go_wp2_with (first | ((with_reducible refine az (N := 1) rfl ?_); refine ap ?hg (N := 1) ?hd (cs := #[.slice au ai.length aq, .slice aw af.length ao]) (t := 25) ?hr ?_; (case hd => rfl); (case hg => rfl); (case hr => first | (go_simp; done) | (go_simp; rfl)); intro ca hg w5 hbox hb; have n0_ := Aside0.mk (ah (by repeat (first | (with_reducible first | exact HB.out | apply a6 | apply a4 | apply a5) | exact HB.out)) hb); have n1_ := Aside0.mk (hbox); have n2_ := Aside0.mk ((by rw [hg]; exact (ae (by repeat (first | (with_reducible first | exact HB.out | apply a6 | apply a4 | apply a5) | exact HB.out))) : w.heap.size ≤ ca)); have n3_ := Aside0.mk ((by rw [hg]; exact (ae (by repeat (first | (with_reducible first | exact HB.out | apply a6 | apply a4 | apply a5) | exact HB.out))) : w.heap.size ≤ ca)); clear HB; have HB := n0_; have aX := n1_; have GW184 := n2_; have eA := n3_; clear n0_ n1_ n2_ n3_; clear hb hbox hg; have dG : w5.cell? ⟨ca, 0, none⟩ = some (.slice au ai.length aq) := (a7 aX.out 0).trans rfl; have dH : w5.cell? ⟨ca, 1, none⟩ = some (.slice aw af.length ao) := (a7 aX.out 1).trans rfl; have dI := a8 aX.out 0; have dJ := a8 aX.out 1) | ((with_reducible refine am (f := 29) rfl ?_); refine aY (some 6) rfl rfl Try.func29 (by kernel_rfl) rfl #[.agg #[.slice au ai.length aq, .slice aw af.length ao]] rfl (by (try simp only [List.map_toArray, List.map_cons, List.map_nil]); first | done | rfl | (simp only [List.length_drop, List.length_take]; rfl)) ?_; (with_reducible refine (fastiref15_short.calls k _ _ ai _ _ af true _ ?side1 ?side2 ?side3 ?side4 A2.out).mono ?_); (case side1 => repeat (first | exact (Kd.C_below bf.out HB.out) | (with_reducible refine Kd.C_alloc ?_ _) | (with_reducible refine Kd.C_drewN ?_ _) | (with_reducible refine Kd.C_drew ?_))); (case side2 => exact bo.out); (case side3 => repeat (first | exact (Kd.C_below bd.out HB.out) | (with_reducible refine Kd.C_alloc ?_ _) | (with_reducible refine Kd.C_drewN ?_ _) | (with_reducible refine Kd.C_drew ?_))); (case side4 => exact bn.out); rintro e w7 ⟨rfl, hb⟩; refine ⟨_, rfl, ?_⟩; have n0_ := Aside0.mk (ag (g := ca) (o := .cells #[.slice au ai.length aq, .slice aw af.length ao] 25 (0, 0)) (by (with_reducible repeat (first | refine ab ?_ _ | refine ac ?_ | refine aa ?_ _)); exact aX.out) hb); have n1_ := Aside0.mk (ah (by repeat (first | (with_reducible first | exact HB.out | apply a6 | apply a4 | apply a5 | refine a9 ?_ eA.out) | exact HB.out)) hb); clear aX; clear HB; have aX := n0_; have HB := n1_; clear n0_ n1_; (try clear hb); (try clear hb2); (try clear hk); (try clear hi); have dX : w7.cell? ⟨ca, 0, none⟩ = some (.slice au ai.length aq) := (a7 aX.out 0).trans rfl; have dY : w7.cell? ⟨ca, 1, none⟩ = some (.slice aw af.length ao) := (a7 aX.out 1).trans rfl; have dZ := a8 aX.out 0; have e6 := a8 aX.out 1))
   go_ret
   exact ⟨by first | rfl | (simp [al, ak] <;> rfl) | (simp [*, al, ak] <;> rfl), by repeat (first | (with_reducible first | exact HB.out | apply a6 | apply a4 | apply a5 | refine a9 ?_ eA.out) | exact HB.out)⟩
  ·rw [if_neg c4] at H
   have el : ((ai.length : Int) == 0) = false := beq_eq_false_iff_ne.mpr c4
   have c4b1 : ((ai.length : Int) != 0) = true := bne_iff_ne.mpr c4
   have c4b2 : ¬ (ai = []) := fun h_ => c4 (by rw [h_]; rfl)
   have H' := Aside0.mk H
   clear H
   go_enter Try.func18, Try.ntmps18
   go_wp2_with (first | ((with_reducible refine az (N := 1) rfl ?_); refine ap ?hg (N := 1) ?hd (cs := #[.slice au ai.length aq, .slice aw af.length ao]) (t := 25) ?hr ?_; (case hd => rfl); (case hg => rfl); (case hr => first | (go_simp; done) | (go_simp; rfl)); intro ca hg w9 hbox hb; have n0_ := Aside0.mk (ah (by repeat (first | (with_reducible first | exact HB.out | apply a6 | apply a4 | apply a5) | exact HB.out)) hb); have n1_ := Aside0.mk (hbox); have n2_ := Aside0.mk ((by rw [hg]; exact (ae (by repeat (first | (with_reducible first | exact HB.out | apply a6 | apply a4 | apply a5) | exact HB.out))) : w.heap.size ≤ ca)); have n3_ := Aside0.mk ((by rw [hg]; exact (ae (by repeat (first | (with_reducible first | exact HB.out | apply a6 | apply a4 | apply a5) | exact HB.out))) : w.heap.size ≤ ca)); clear HB; have HB := n0_; have aX := n1_; have GW184 := n2_; have eA := n3_; clear n0_ n1_ n2_ n3_; clear hb hbox hg; have eX : w9.cell? ⟨ca, 0, none⟩ = some (.slice au ai.length aq) := (a7 aX.out 0).trans rfl; have eY : w9.cell? ⟨ca, 1, none⟩ = some (.slice aw af.length ao) := (a7 aX.out 1).trans rfl; have eZ := a8 aX.out 0; have f4 := a8 aX.out 1) | ((with_reducible refine am (f := 29) rfl ?_); refine aY (some 6) rfl rfl Try.func29 (by kernel_rfl) rfl #[.agg #[.slice au ai.length aq, .slice aw af.length ao]] rfl (by (try simp only [List.map_toArray, List.map_cons, List.map_nil]); first | done | rfl | (simp only [List.length_drop, List.length_take]; rfl)) ?_; (with_reducible refine (fastiref15_short.calls k _ _ ai _ _ af true _ ?side1 ?side2 ?side3 ?side4 A2.out).mono ?_); (case side1 => repeat (first | exact (Kd.C_below bf.out HB.out) | (with_reducible refine Kd.C_alloc ?_ _) | (with_reducible refine Kd.C_drewN ?_ _) | (with_reducible refine Kd.C_drew ?_))); (case side2 => exact bo.out); (case side3 => repeat (first | exact (Kd.C_below bd.out HB.out) | (with_reducible refine Kd.C_alloc ?_ _) | (with_reducible refine Kd.C_drewN ?_ _) | (with_reducible refine Kd.C_drew ?_))); (case side4 => exact bn.out); rintro e w11 ⟨rfl, hb⟩; refine ⟨_, rfl, ?_⟩; have n0_ := Aside0.mk (ag (g := ca) (o := .cells #[.slice au ai.length aq, .slice aw af.length ao] 25 (0, 0)) (by (with_reducible repeat (first | refine ab ?_ _ | refine ac ?_ | refine aa ?_ _)); exact aX.out) hb); have n1_ := Aside0.mk (ah (by repeat (first | (with_reducible first | exact HB.out | apply a6 | apply a4 | apply a5 | refine a9 ?_ eA.out) | exact HB.out)) hb); clear aX; clear HB; have aX := n0_; have HB := n1_; clear n0_ n1_; (try clear hb); (try clear hb2); (try clear hk); (try clear hi); have cJ : w11.cell? ⟨ca, 0, none⟩ = some (.slice au ai.length aq) := (a7 aX.out 0).trans rfl; have cK : w11.cell? ⟨ca, 1, none⟩ = some (.slice aw af.length ao) := (a7 aX.out 1).trans rfl; have cL := a8 aX.out 0; have cM := a8 aX.out 1))
   go_loopg [3] k (fun kq v3 w' => ∃ (x3_1 : Int), v3 = .int .i64 x3_1 ∧ Aside0 (fastiref15_Check.l0 kq x3_1 ai af = some r) ∧ Aside0 (kq ≤ k) ∧ Aside0 (w'.heap[ca]? = some (.cells #[(.slice au ai.length aq), (.slice aw af.length ao)] 25 (0, 0))) ∧ Aside0 (Below w.heap.size w w'))
   case atStart => exact ⟨(0), (by first | rfl | (simp; done) | (simp [*]; done)), H', ⟨Nat.le_refl _⟩, ⟨by (with_reducible repeat (first | refine ab ?_ _ | refine ac ?_ | refine aa ?_ _)); exact aX.out⟩, ⟨by repeat (first | (with_reducible first | exact HB.out | apply a6 | apply a4 | apply a5 | refine a9 ?_ eA.out) | exact HB.out)⟩⟩
   case round =>
    clear H'
    try clear c1; try clear c2; try clear p2; try clear c3; try clear c4; try clear el; try clear c4b1; try clear c4b2; try clear eX; try clear eY; try clear cJ; try clear cK; try clear dG; try clear dH; try clear dX; try clear dY; try clear eZ; try clear f4; try clear cL; try clear cM; try clear dI; try clear dJ; try clear dZ; try clear e6
    obtain ⟨x3_1, rfl, HA, HK1, aX, HB⟩ := hrel
    cases gk with
    | zero => exact absurd HA.out (by simp [fastiref15_Check.l0])
    | succ k1 =>
     have H := HA.out
     clear HA
     simp only [fastiref15_Check.l0] at H
     by_cases c13 : x3_1 < (ai.length : Int)
     ·rw [if_pos c13] at H
      have jx : decide (x3_1 < (ai.length : Int)) = true := decide_eq_true c13
      clear c13
      by_cases c14 : 0 ≤ x3_1
      ·rw [if_pos c14] at H
       have c14b0 : decide (0 ≤ x3_1) = true := decide_eq_true c14
       clear c14
       replace H := Option.bind_eq_some_iff.mp H
       obtain ⟨t187, A150, H⟩ := H
       replace H : (if t187 = true then (fastiref15_Check.l0 k1 (wrap64 (x3_1 + 1)) ai af) else (some 150)) = some r := H
       have A15 := Aside0.mk A150
       clear A150
       by_cases c16 : t187 = true
       ·subst c16
        have H1 : (fastiref15_Check.l0 k1 (wrap64 (x3_1 + 1)) ai af) = some r := by rw [if_pos rfl] at H; exact H
        clear H
        have H := H1
        clear H1
        have H' := Aside0.mk H
        clear H
        have eT : wr.cell? ⟨ca, 0, none⟩ = some (.slice au ai.length aq) := (a7 aX.out 0).trans rfl
        have eU : wr.cell? ⟨ca, 1, none⟩ = some (.slice aw af.length ao) := (a7 aX.out 1).trans rfl
        have eV := a8 aX.out 0
        have eW := a8 aX.out 1
        have p186 : 0 ≤ (x3_1 : Int) := of_decide_eq_true (by first | (with_reducible assumption) | assumption)
        have q186 : x3_1 < (ai.length : Int) := of_decide_eq_true (by first | (with_reducible assumption) | assumption)
        obtain ⟨ad186, A186_0, c186_0, e186, f7, jG, jH⟩ := dD bf.out x3_1 p186 q186
        cases e186
        replace f7 := (HB.out.cell (World.block_lt_of_cell? w _ f7)).trans f7
        have HR186_0 := Aside0.mk jH
        have HC186_0 := Aside0.mk jG
        clear jH jG
        replace p186 := eq_true p186
        replace q186 := eq_true q186
        go_wp2_with (first | ((with_reducible refine am (f := 39) rfl ?_); refine aY (some 24) rfl rfl Try.func39 (by kernel_rfl) rfl #[.slice A186_0 (ax ai x3_1).length c186_0] rfl (by (try simp only [List.map_toArray, List.map_cons, List.map_nil]); first | done | rfl | (simp only [List.length_drop, List.length_take]; rfl)) ?_; (with_reducible refine (fastiref15_domain.calls k1 _ _ (ax ai x3_1) true _ ?side1 ?side2 A15.out).mono ?_); (case side1 => repeat (first | exact (Kd.C_below HR186_0.out HB.out) | (with_reducible refine Kd.C_alloc ?_ _) | (with_reducible refine Kd.C_drewN ?_ _) | (with_reducible refine Kd.C_drew ?_))); (case side2 => exact HC186_0.out); rintro e w' ⟨rfl, ⟨nd, rfl⟩⟩; refine ⟨_, rfl, ?_⟩))
        go_roundg k1
        case measure => have := HK1.out; omega
        case rel => exact ⟨(wrap64 (x3_1 + 1)), (by first | rfl | (simp; done) | (simp [*]; done)), H', ⟨by have := HK1.out; omega⟩, ⟨by (with_reducible repeat (first | refine ab ?_ _ | refine ac ?_ | refine aa ?_ _)); exact aX.out⟩, ⟨by repeat (first | (with_reducible first | exact HB.out | apply a6 | apply a4 | apply a5 | refine a9 ?_ eA.out) | exact HB.out)⟩⟩
       ·replace c16 := Bool.eq_false_iff.mpr c16
        subst c16
        have H1 : (some 150) = some r := by rw [if_neg (show ¬ (false = true) by decide)] at H; exact H
        clear H
        have H := H1
        clear H1
        obtain rfl := Option.some.inj H
        have hcz18_0 : wr.cell? ⟨ca, 0, none⟩ = some (.slice au ai.length aq) := (a7 aX.out 0).trans rfl
        have hcz18_1 : wr.cell? ⟨ca, 1, none⟩ = some (.slice aw af.length ao) := (a7 aX.out 1).trans rfl
        have hfz18_0 := a8 aX.out 0
        have hfz18_1 := a8 aX.out 1
        have p186 : 0 ≤ (x3_1 : Int) := of_decide_eq_true (by first | (with_reducible assumption) | assumption)
        have q186 : x3_1 < (ai.length : Int) := of_decide_eq_true (by first | (with_reducible assumption) | assumption)
        obtain ⟨ad186, A186_0, c186_0, e186, f7, jG, jH⟩ := dD bf.out x3_1 p186 q186
        cases e186
        replace f7 := (HB.out.cell (World.block_lt_of_cell? w _ f7)).trans f7
        have HR186_0 := Aside0.mk jH
        have HC186_0 := Aside0.mk jG
        clear jH jG
        replace p186 := eq_true p186
        replace q186 := eq_true q186
        go_wp2_with (first | ((with_reducible refine am (f := 39) rfl ?_); refine aY (some 24) rfl rfl Try.func39 (by kernel_rfl) rfl #[.slice A186_0 (ax ai x3_1).length c186_0] rfl (by (try simp only [List.map_toArray, List.map_cons, List.map_nil]); first | done | rfl | (simp only [List.length_drop, List.length_take]; rfl)) ?_; (with_reducible refine (fastiref15_domain.calls k1 _ _ (ax ai x3_1) false _ ?side1 ?side2 A15.out).mono ?_); (case side1 => repeat (first | exact (Kd.C_below HR186_0.out HB.out) | (with_reducible refine Kd.C_alloc ?_ _) | (with_reducible refine Kd.C_drewN ?_ _) | (with_reducible refine Kd.C_drew ?_))); (case side2 => exact HC186_0.out); rintro e w' ⟨rfl, ⟨nd, rfl⟩⟩; refine ⟨_, rfl, ?_⟩))
        go_ret
        exact ⟨by first | rfl | (simp [al, ak] <;> rfl) | (simp [*, al, ak] <;> rfl), by repeat (first | (with_reducible first | exact HB.out | apply a6 | apply a4 | apply a5 | refine a9 ?_ eA.out) | exact HB.out)⟩
      ·rw [if_neg c14] at H
       exact absurd H (by simp)
     ·rw [if_neg c13] at H
      have jx : decide (x3_1 < (ai.length : Int)) = false := decide_eq_false c13
      clear c13
      have H' := Aside0.mk H
      clear H
      have hcz19_0 : wr.cell? ⟨ca, 0, none⟩ = some (.slice au ai.length aq) := (a7 aX.out 0).trans rfl
      have hcz19_1 : wr.cell? ⟨ca, 1, none⟩ = some (.slice aw af.length ao) := (a7 aX.out 1).trans rfl
      have hfz19_0 := a8 aX.out 0
      have hfz19_1 := a8 aX.out 1
      go_wp2
      go_loopg [4] k1 (fun kq v4 w' => ∃ (x4_2 : Int), v4 = .int .i64 x4_2 ∧ Aside0 (fastiref15_Check.l1 kq x4_2 ai af = some r) ∧ Aside0 (kq ≤ k1) ∧ Aside0 (w'.heap[ca]? = some (.cells #[(.slice au ai.length aq), (.slice aw af.length ao)] 25 (0, 0))) ∧ Aside0 (Below w.heap.size w w'))
      case atStart => exact ⟨(0), (by first | rfl | (simp; done) | (simp [*]; done)), H', ⟨Nat.le_refl _⟩, ⟨by (with_reducible repeat (first | refine ab ?_ _ | refine ac ?_ | refine aa ?_ _)); exact aX.out⟩, ⟨by repeat (first | (with_reducible first | exact HB.out | apply a6 | apply a4 | apply a5 | refine a9 ?_ eA.out) | exact HB.out)⟩⟩
      case round =>
       clear H'
       try clear c1; try clear p1; try clear q1; try clear hx1; try clear c2; try clear p2; try clear c3; try clear c4; try clear el; try clear c4b1; try clear c4b2; try clear p6; try clear c13; try clear jx; try clear c14; try clear c14b0; try clear c16; try clear c18; try clear p18; try clear q18; try clear hx18; try clear eX; try clear eY; try clear cJ; try clear cK; try clear eT; try clear eU; try clear hcz18_0; try clear hcz18_1; try clear hcz19_0; try clear hcz19_1; try clear dG; try clear dH; try clear dX; try clear dY; try clear eZ; try clear f4; try clear cL; try clear cM; try clear eV; try clear eW; try clear hfz18_0; try clear hfz18_1; try clear hfz19_0; try clear hfz19_1; try clear dI; try clear dJ; try clear dZ; try clear e6; try clear f7; try clear p186; try clear q186
       obtain ⟨x4_2, rfl, HA, HK2, aX, HB⟩ := hrel
       cases gk with
       | zero => exact absurd HA.out (by simp [fastiref15_Check.l1])
       | succ k2 =>
        have H := HA.out
        clear HA
        simp only [fastiref15_Check.l1] at H
        by_cases c20 : x4_2 < (af.length : Int)
        ·rw [if_pos c20] at H
         have c20b0 : decide (x4_2 < (af.length : Int)) = true := decide_eq_true c20
         clear c20
         by_cases c21 : 0 ≤ x4_2
         ·rw [if_pos c21] at H
          have iM : decide (0 ≤ x4_2) = true := decide_eq_true c21
          clear c21
          replace H := Option.bind_eq_some_iff.mp H
          obtain ⟨t189, A220, H⟩ := H
          replace H : (if t189 = true then (fastiref15_Check.l1 k2 (wrap64 (x4_2 + 1)) ai af) else (some 150)) = some r := H
          have A22 := Aside0.mk A220
          clear A220
          by_cases c23 : t189 = true
          ·subst c23
           have H1 : (fastiref15_Check.l1 k2 (wrap64 (x4_2 + 1)) ai af) = some r := by rw [if_pos rfl] at H; exact H
           clear H
           have H := H1
           clear H1
           have H' := Aside0.mk H
           clear H
           have hcz24_0 : wr.cell? ⟨ca, 0, none⟩ = some (.slice au ai.length aq) := (a7 aX.out 0).trans rfl
           have hcz24_1 : wr.cell? ⟨ca, 1, none⟩ = some (.slice aw af.length ao) := (a7 aX.out 1).trans rfl
           have hfz24_0 := a8 aX.out 0
           have hfz24_1 := a8 aX.out 1
           try go_wp2
           have n0_ := Aside0.mk (ac aX.out)
           have n1_ := Aside0.mk (a5 HB.out)
           clear aX
           clear HB
           have aX := n0_
           have HB := n1_
           clear n0_ n1_
           have p188 : 0 ≤ (x4_2 : Int) := of_decide_eq_true (by first | (with_reducible assumption) | assumption)
           have q188 : x4_2 < (af.length : Int) := of_decide_eq_true (by first | (with_reducible assumption) | assumption)
           obtain ⟨ad188, A188_2, c188_2, A188_3, c188_3, e188, dK, dL, dM, dN, jI, jJ, jK, jL⟩ := dv bd.out x4_2 p188 q188
           have eB := dN
           have eC := dM
           have eD := dL
           have eE := dK
           cases e188
           replace dK := (HB.out.cell (World.block_lt_of_cell? w _ dK)).trans dK
           replace dL := (HB.out.cell (World.block_lt_of_cell? w _ dL)).trans dL
           replace dM := (HB.out.cell (World.block_lt_of_cell? w _ dM)).trans dM
           replace dN := (HB.out.cell (World.block_lt_of_cell? w _ dN)).trans dN
           have jM := Aside0.mk jJ
           have HC188_2 := Aside0.mk jI
           clear jJ jI
           have jN := Aside0.mk jL
           have HC188_3 := Aside0.mk jK
           clear jL jK
           replace p188 := eq_true p188
           replace q188 := eq_true q188
           refine eJ (n := 10) (S := fun w' => w'.cell? ⟨ca, 0, none⟩ = some (.slice au ai.length aq) ∧ w'.cell? ⟨ca, 1, none⟩ = some (.slice (some ad188) af.length ao) ∧ w'.cell? (ad188.add ((x4_2).toNat * 4)) = some (.int .i64 ((aj af x4_2).f0)) ∧ w'.cell? ⟨(ad188.add ((x4_2).toNat * 4)).block, (ad188.add ((x4_2).toNat * 4)).off + 1, none⟩ = some (.int .i64 ((aj af x4_2).f1)) ∧ w'.cell? ⟨(ad188.add ((x4_2).toNat * 4)).block, (ad188.add ((x4_2).toNat * 4)).off + 2, none⟩ = some (.slice A188_2 ((aj af x4_2).f2).length c188_2) ∧ w'.cell? ⟨(ad188.add ((x4_2).toNat * 4)).block, (ad188.add ((x4_2).toNat * 4)).off + 3, none⟩ = some (.slice A188_3 ((aj af x4_2).f3).length c188_3)) (ds := []) #[false, false, false, false, false, false, false, false, false, false] (by kernel_rfl) rfl rfl ⟨(a7 aX.out 0).trans rfl, (a7 aX.out 1).trans rfl, ((HB.out.cell (World.block_lt_of_cell? w _ eE)).trans eE), ((HB.out.cell (World.block_lt_of_cell? w _ eD)).trans eD), ((HB.out.cell (World.block_lt_of_cell? w _ eC)).trans eC), ((HB.out.cell (World.block_lt_of_cell? w _ eB)).trans eB)⟩ (fun hHeld => ?_); refine dF fastiref15_Check.tab13 fastiref15_Check.bits13 (fun HT_ HW_ => ?_)
           generalize wr.drew = w25 at aX HB jM jN dK dL dM dN hHeld ⊢
           refine aK (i := 0) (N := some 33) (v := ?_) (a' := ?_) #[true, false, false, false, false, false, false, false, false, false] rfl rfl (aA HT_.out (by kernel_rfl)) (fun _ _ _ h => h) (Or.inl ⟨by rfl, ?_⟩) ?_ ?_
           rotate_left
           ·intro w'
            go_simp
            with_reducible rfl
           rotate_left
           ·simp only [Act.put, List.setIfInBounds_toArray, List.set_cons_zero, List.set_cons_succ, ar, av]
            rfl
           refine aK (i := 2) (N := some 35) (v := ?_) (a' := ?_) #[true, false, true, false, false, false, false, false, false, false] rfl rfl (aA HT_.out (by kernel_rfl)) (fun _ _ _ h => h) (Or.inl ⟨by rfl, ?_⟩) ?_ ?_
           rotate_left
           ·intro w'
            go_simp
            with_reducible rfl
           rotate_left
           ·simp only [Act.put, List.setIfInBounds_toArray, List.set_cons_zero, List.set_cons_succ, ar, av]
            rfl
           refine aK (i := 5) (N := some 38) (v := ?_) (a' := ?_) #[true, false, true, false, false, true, false, false, false, false] rfl rfl (aA HT_.out (by kernel_rfl)) (fun _ _ _ h => h) (Or.inl ⟨by rfl, ?_⟩) ?_ ?_
           rotate_left
           ·intro w'
            go_simp
            with_reducible rfl
           rotate_left
           ·simp only [Act.put, List.setIfInBounds_toArray, List.set_cons_zero, List.set_cons_succ, ar, av]
            rfl
           refine take_ (i := 1) (N := some 34) (v := ?_) (a' := ?_) #[true, true, true, false, false, true, false, false, false, false] rfl rfl (bQ HT_.out HW_.out (by kernel_rfl)) (fun _ _ _ h => h) (Or.inl ⟨by rfl, ?_⟩) hHeld ?_ ?_
           rotate_left
           ·rintro w' ⟨s0, s1, s2, s3, s4, s5⟩
            go_simp
            with_reducible rfl
           rotate_left
           ·simp only [Act.put, List.setIfInBounds_toArray, List.set_cons_zero, List.set_cons_succ, ar, av]
            rfl
           refine aK (i := 3) (N := some 36) (v := ?_) (a' := ?_) #[true, true, true, true, false, true, false, false, false, false] rfl rfl (aA HT_.out (by kernel_rfl)) (fun _ _ _ h => h) (Or.inl ⟨by rfl, ?_⟩) ?_ ?_
           rotate_left
           ·intro w'
            go_simp
            with_reducible rfl
           rotate_left
           ·simp only [Act.put, List.setIfInBounds_toArray, List.set_cons_zero, List.set_cons_succ, ar, av]
            rfl
           refine take_ (i := 4) (N := some 37) (v := ?_) (a' := ?_) #[true, true, true, true, true, true, false, false, false, false] rfl rfl (bQ HT_.out HW_.out (by kernel_rfl)) (fun _ _ _ h => h) (Or.inl ⟨by rfl, ?_⟩) hHeld ?_ ?_
           rotate_left
           ·rintro w' ⟨s0, s1, s2, s3, s4, s5⟩
            go_simp
            with_reducible rfl
           rotate_left
           ·simp only [Act.put, List.setIfInBounds_toArray, List.set_cons_zero, List.set_cons_succ, ar, av]
            rfl
           refine take_ (i := 6) (N := some 39) (v := ?_) (a' := ?_) #[true, true, true, true, true, true, true, false, false, false] rfl rfl (bQ HT_.out HW_.out (by kernel_rfl)) (fun _ _ _ h => h) (Or.inl ⟨by rfl, ?_⟩) hHeld ?_ ?_
           rotate_left
           ·rintro w' ⟨s0, s1, s2, s3, s4, s5⟩
            go_simp
            with_reducible rfl
           rotate_left
           ·simp only [Act.put, List.setIfInBounds_toArray, List.set_cons_zero, List.set_cons_succ, ar, av]
            rfl
           refine aK (i := 7) (N := some 40) (v := ?_) (a' := ?_) #[true, true, true, true, true, true, true, true, false, false] rfl rfl (aA HT_.out (by kernel_rfl)) (fun _ _ _ h => h) (Or.inl ⟨by rfl, ?_⟩) ?_ ?_
           rotate_left
           ·intro w'
            go_simp
            with_reducible rfl
           rotate_left
           ·simp only [Act.put, List.setIfInBounds_toArray, List.set_cons_zero, List.set_cons_succ, ar, av]
            rfl
           refine ft (i := 8) (N := some 41) #[true, true, true, true, true, true, true, true, true, false] rfl rfl (bP HT_.out (by kernel_rfl)) (by decide) (fun K hK => ?_)
           refine hU Try.func40 (by kernel_rfl) rfl #[.agg #[.int .i64 ((aj af x4_2).f0), .int .i64 ((aj af x4_2).f1), .slice A188_2 ((aj af x4_2).f2).length c188_2, .slice A188_3 ((aj af x4_2).f3).length c188_3], .int .i64 (ai.length : Int)] (by rfl) rfl rfl (by (try simp only [List.map_toArray, List.map_cons, List.map_nil]); first | done | rfl | (simp only [List.length_drop, List.length_take]; rfl)) ?_
           with_reducible refine (fastiref15_rule.calls k2 ((aj af x4_2).f0) ((aj af x4_2).f1) _ _ ((aj af x4_2).f2) _ _ ((aj af x4_2).f3) (ai.length : Int) true _ ?side1 ?side2 ?side3 ?side4 A22.out).mono ?_
           (case side1 => repeat (first | exact (Kd.C_below jM.out HB.out) | (with_reducible refine Kd.C_alloc ?_ _) | (with_reducible refine Kd.C_drewN ?_ _) | (with_reducible refine Kd.C_drew ?_)))
           (case side2 => exact HC188_2.out)
           (case side3 => repeat (first | exact (Kd.C_below jN.out HB.out) | (with_reducible refine Kd.C_alloc ?_ _) | (with_reducible refine Kd.C_drewN ?_ _) | (with_reducible refine Kd.C_drew ?_)))
           (case side4 => exact HC188_3.out)
           rintro e w26 ⟨rfl, hb⟩
           refine ⟨_, rfl, ?_⟩
           have n0_ := Aside0.mk (ag (g := ca) (o := .cells #[.slice au ai.length aq, .slice (some ad188) af.length ao] 25 (0, 0)) (by (with_reducible repeat (first | refine ab ?_ _ | refine ac ?_ | refine aa ?_ _)); exact aX.out) hb)
           have n1_ := Aside0.mk (ah (by repeat (first | (with_reducible first | exact HB.out | apply a6 | apply a4 | apply a5 | refine a9 ?_ eA.out) | exact HB.out)) hb)
           clear aX
           clear HB
           have aX := n0_
           have HB := n1_
           clear n0_ n1_
           (try clear hb)
           (try clear hb2)
           (try clear hk)
           (try clear hi)
           refine hK.out _ _ ⟨(a7 aX.out 0).trans rfl, (a7 aX.out 1).trans rfl, ((HB.out.cell (World.block_lt_of_cell? w _ eE)).trans eE), ((HB.out.cell (World.block_lt_of_cell? w _ eD)).trans eD), ((HB.out.cell (World.block_lt_of_cell? w _ eC)).trans eC), ((HB.out.cell (World.block_lt_of_cell? w _ eB)).trans eB)⟩ (fun hHeld => ?_)
           clear hK K
           refine bR (a' := ?_) ?_ ?_
           rotate_left
           ·show Act.put _ (some 41) _ = _
            simp only [Act.put, List.setIfInBounds_toArray, List.set_cons_zero, List.set_cons_succ, ar, av]
            rfl
           refine aK (i := 9) (N := some 42) (v := ?_) (a' := ?_) #[true, true, true, true, true, true, true, true, true, true] rfl rfl (aA HT_.out (by kernel_rfl)) (fun _ _ _ h => h) (Or.inl ⟨by rfl, ?_⟩) ?_ ?_
           rotate_left
           ·intro w'
            go_simp
            with_reducible rfl
           rotate_left
           ·simp only [Act.put, List.setIfInBounds_toArray, List.set_cons_zero, List.set_cons_succ, ar, av]
            rfl
           refine gZ (d8 HT_.out (by kernel_rfl)) ?_
           try go_wp2
           go_roundg k2
           case measure => have := HK1.out; have := HK2.out; omega
           case rel => exact ⟨(wrap64 (x4_2 + 1)), (by first | rfl | (simp; done) | (simp [*]; done)), H', ⟨by have := HK1.out; have := HK2.out; omega⟩, ⟨by (with_reducible repeat (first | refine ab ?_ _ | refine ac ?_ | refine aa ?_ _)); exact aX.out⟩, ⟨by repeat (first | (with_reducible first | exact HB.out | apply a6 | apply a4 | apply a5 | refine a9 ?_ eA.out) | exact HB.out)⟩⟩
          ·replace c23 := Bool.eq_false_iff.mpr c23
           subst c23
           have H1 : (some 150) = some r := by rw [if_neg (show ¬ (false = true) by decide)] at H; exact H
           clear H
           have H := H1
           clear H1
           obtain rfl := Option.some.inj H
           have hcz27_0 : wr.cell? ⟨ca, 0, none⟩ = some (.slice au ai.length aq) := (a7 aX.out 0).trans rfl
           have hcz27_1 : wr.cell? ⟨ca, 1, none⟩ = some (.slice aw af.length ao) := (a7 aX.out 1).trans rfl
           have hfz27_0 := a8 aX.out 0
           have hfz27_1 := a8 aX.out 1
           try go_wp2
           have n0_ := Aside0.mk (ac aX.out)
           have n1_ := Aside0.mk (a5 HB.out)
           clear aX
           clear HB
           have aX := n0_
           have HB := n1_
           clear n0_ n1_
           have p188 : 0 ≤ (x4_2 : Int) := of_decide_eq_true (by first | (with_reducible assumption) | assumption)
           have q188 : x4_2 < (af.length : Int) := of_decide_eq_true (by first | (with_reducible assumption) | assumption)
           obtain ⟨ad188, A188_2, c188_2, A188_3, c188_3, e188, dK, dL, dM, dN, jI, jJ, jK, jL⟩ := dv bd.out x4_2 p188 q188
           have eB := dN
           have eC := dM
           have eD := dL
           have eE := dK
           cases e188
           replace dK := (HB.out.cell (World.block_lt_of_cell? w _ dK)).trans dK
           replace dL := (HB.out.cell (World.block_lt_of_cell? w _ dL)).trans dL
           replace dM := (HB.out.cell (World.block_lt_of_cell? w _ dM)).trans dM
           replace dN := (HB.out.cell (World.block_lt_of_cell? w _ dN)).trans dN
           have jM := Aside0.mk jJ
           have HC188_2 := Aside0.mk jI
           clear jJ jI
           have jN := Aside0.mk jL
           have HC188_3 := Aside0.mk jK
           clear jL jK
           replace p188 := eq_true p188
           replace q188 := eq_true q188
           refine eJ (n := 10) (S := fun w' => w'.cell? ⟨ca, 0, none⟩ = some (.slice au ai.length aq) ∧ w'.cell? ⟨ca, 1, none⟩ = some (.slice (some ad188) af.length ao) ∧ w'.cell? (ad188.add ((x4_2).toNat * 4)) = some (.int .i64 ((aj af x4_2).f0)) ∧ w'.cell? ⟨(ad188.add ((x4_2).toNat * 4)).block, (ad188.add ((x4_2).toNat * 4)).off + 1, none⟩ = some (.int .i64 ((aj af x4_2).f1)) ∧ w'.cell? ⟨(ad188.add ((x4_2).toNat * 4)).block, (ad188.add ((x4_2).toNat * 4)).off + 2, none⟩ = some (.slice A188_2 ((aj af x4_2).f2).length c188_2) ∧ w'.cell? ⟨(ad188.add ((x4_2).toNat * 4)).block, (ad188.add ((x4_2).toNat * 4)).off + 3, none⟩ = some (.slice A188_3 ((aj af x4_2).f3).length c188_3)) (ds := []) #[false, false, false, false, false, false, false, false, false, false] (by kernel_rfl) rfl rfl ⟨(a7 aX.out 0).trans rfl, (a7 aX.out 1).trans rfl, ((HB.out.cell (World.block_lt_of_cell? w _ eE)).trans eE), ((HB.out.cell (World.block_lt_of_cell? w _ eD)).trans eD), ((HB.out.cell (World.block_lt_of_cell? w _ eC)).trans eC), ((HB.out.cell (World.block_lt_of_cell? w _ eB)).trans eB)⟩ (fun hHeld => ?_); refine dF fastiref15_Check.tab13 fastiref15_Check.bits13 (fun HT_ HW_ => ?_)
           generalize wr.drew = w28 at aX HB jM jN dK dL dM dN hHeld ⊢
           refine aK (i := 0) (N := some 33) (v := ?_) (a' := ?_) #[true, false, false, false, false, false, false, false, false, false] rfl rfl (aA HT_.out (by kernel_rfl)) (fun _ _ _ h => h) (Or.inl ⟨by rfl, ?_⟩) ?_ ?_
           rotate_left
           ·intro w'
            go_simp
            with_reducible rfl
           rotate_left
           ·simp only [Act.put, List.setIfInBounds_toArray, List.set_cons_zero, List.set_cons_succ, ar, av]
            rfl
           refine aK (i := 2) (N := some 35) (v := ?_) (a' := ?_) #[true, false, true, false, false, false, false, false, false, false] rfl rfl (aA HT_.out (by kernel_rfl)) (fun _ _ _ h => h) (Or.inl ⟨by rfl, ?_⟩) ?_ ?_
           rotate_left
           ·intro w'
            go_simp
            with_reducible rfl
           rotate_left
           ·simp only [Act.put, List.setIfInBounds_toArray, List.set_cons_zero, List.set_cons_succ, ar, av]
            rfl
           refine aK (i := 5) (N := some 38) (v := ?_) (a' := ?_) #[true, false, true, false, false, true, false, false, false, false] rfl rfl (aA HT_.out (by kernel_rfl)) (fun _ _ _ h => h) (Or.inl ⟨by rfl, ?_⟩) ?_ ?_
           rotate_left
           ·intro w'
            go_simp
            with_reducible rfl
           rotate_left
           ·simp only [Act.put, List.setIfInBounds_toArray, List.set_cons_zero, List.set_cons_succ, ar, av]
            rfl
           refine take_ (i := 1) (N := some 34) (v := ?_) (a' := ?_) #[true, true, true, false, false, true, false, false, false, false] rfl rfl (bQ HT_.out HW_.out (by kernel_rfl)) (fun _ _ _ h => h) (Or.inl ⟨by rfl, ?_⟩) hHeld ?_ ?_
           rotate_left
           ·rintro w' ⟨s0, s1, s2, s3, s4, s5⟩
            go_simp
            with_reducible rfl
           rotate_left
           ·simp only [Act.put, List.setIfInBounds_toArray, List.set_cons_zero, List.set_cons_succ, ar, av]
            rfl
           refine aK (i := 3) (N := some 36) (v := ?_) (a' := ?_) #[true, true, true, true, false, true, false, false, false, false] rfl rfl (aA HT_.out (by kernel_rfl)) (fun _ _ _ h => h) (Or.inl ⟨by rfl, ?_⟩) ?_ ?_
           rotate_left
           ·intro w'
            go_simp
            with_reducible rfl
           rotate_left
           ·simp only [Act.put, List.setIfInBounds_toArray, List.set_cons_zero, List.set_cons_succ, ar, av]
            rfl
           refine take_ (i := 4) (N := some 37) (v := ?_) (a' := ?_) #[true, true, true, true, true, true, false, false, false, false] rfl rfl (bQ HT_.out HW_.out (by kernel_rfl)) (fun _ _ _ h => h) (Or.inl ⟨by rfl, ?_⟩) hHeld ?_ ?_
           rotate_left
           ·rintro w' ⟨s0, s1, s2, s3, s4, s5⟩
            go_simp
            with_reducible rfl
           rotate_left
           ·simp only [Act.put, List.setIfInBounds_toArray, List.set_cons_zero, List.set_cons_succ, ar, av]
            rfl
           refine take_ (i := 6) (N := some 39) (v := ?_) (a' := ?_) #[true, true, true, true, true, true, true, false, false, false] rfl rfl (bQ HT_.out HW_.out (by kernel_rfl)) (fun _ _ _ h => h) (Or.inl ⟨by rfl, ?_⟩) hHeld ?_ ?_
           rotate_left
           ·rintro w' ⟨s0, s1, s2, s3, s4, s5⟩
            go_simp
            with_reducible rfl
           rotate_left
           ·simp only [Act.put, List.setIfInBounds_toArray, List.set_cons_zero, List.set_cons_succ, ar, av]
            rfl
           refine aK (i := 7) (N := some 40) (v := ?_) (a' := ?_) #[true, true, true, true, true, true, true, true, false, false] rfl rfl (aA HT_.out (by kernel_rfl)) (fun _ _ _ h => h) (Or.inl ⟨by rfl, ?_⟩) ?_ ?_
           rotate_left
           ·intro w'
            go_simp
            with_reducible rfl
           rotate_left
           ·simp only [Act.put, List.setIfInBounds_toArray, List.set_cons_zero, List.set_cons_succ, ar, av]
            rfl
           refine ft (i := 8) (N := some 41) #[true, true, true, true, true, true, true, true, true, false] rfl rfl (bP HT_.out (by kernel_rfl)) (by decide) (fun K hK => ?_)
           refine hU Try.func40 (by kernel_rfl) rfl #[.agg #[.int .i64 ((aj af x4_2).f0), .int .i64 ((aj af x4_2).f1), .slice A188_2 ((aj af x4_2).f2).length c188_2, .slice A188_3 ((aj af x4_2).f3).length c188_3], .int .i64 (ai.length : Int)] (by rfl) rfl rfl (by (try simp only [List.map_toArray, List.map_cons, List.map_nil]); first | done | rfl | (simp only [List.length_drop, List.length_take]; rfl)) ?_
           with_reducible refine (fastiref15_rule.calls k2 ((aj af x4_2).f0) ((aj af x4_2).f1) _ _ ((aj af x4_2).f2) _ _ ((aj af x4_2).f3) (ai.length : Int) false _ ?side1 ?side2 ?side3 ?side4 A22.out).mono ?_
           (case side1 => repeat (first | exact (Kd.C_below jM.out HB.out) | (with_reducible refine Kd.C_alloc ?_ _) | (with_reducible refine Kd.C_drewN ?_ _) | (with_reducible refine Kd.C_drew ?_)))
           (case side2 => exact HC188_2.out)
           (case side3 => repeat (first | exact (Kd.C_below jN.out HB.out) | (with_reducible refine Kd.C_alloc ?_ _) | (with_reducible refine Kd.C_drewN ?_ _) | (with_reducible refine Kd.C_drew ?_)))
           (case side4 => exact HC188_3.out)
           rintro e w29 ⟨rfl, hb⟩
           refine ⟨_, rfl, ?_⟩
           have n0_ := Aside0.mk (ag (g := ca) (o := .cells #[.slice au ai.length aq, .slice (some ad188) af.length ao] 25 (0, 0)) (by (with_reducible repeat (first | refine ab ?_ _ | refine ac ?_ | refine aa ?_ _)); exact aX.out) hb)
           have n1_ := Aside0.mk (ah (by repeat (first | (with_reducible first | exact HB.out | apply a6 | apply a4 | apply a5 | refine a9 ?_ eA.out) | exact HB.out)) hb)
           clear aX
           clear HB
           have aX := n0_
           have HB := n1_
           clear n0_ n1_
           (try clear hb)
           (try clear hb2)
           (try clear hk)
           (try clear hi)
           refine hK.out _ _ ⟨(a7 aX.out 0).trans rfl, (a7 aX.out 1).trans rfl, ((HB.out.cell (World.block_lt_of_cell? w _ eE)).trans eE), ((HB.out.cell (World.block_lt_of_cell? w _ eD)).trans eD), ((HB.out.cell (World.block_lt_of_cell? w _ eC)).trans eC), ((HB.out.cell (World.block_lt_of_cell? w _ eB)).trans eB)⟩ (fun hHeld => ?_)
           clear hK K
           refine bR (a' := ?_) ?_ ?_
           rotate_left
           ·show Act.put _ (some 41) _ = _
            simp only [Act.put, List.setIfInBounds_toArray, List.set_cons_zero, List.set_cons_succ, ar, av]
            rfl
           refine aK (i := 9) (N := some 42) (v := ?_) (a' := ?_) #[true, true, true, true, true, true, true, true, true, true] rfl rfl (aA HT_.out (by kernel_rfl)) (fun _ _ _ h => h) (Or.inl ⟨by rfl, ?_⟩) ?_ ?_
           rotate_left
           ·intro w'
            go_simp
            with_reducible rfl
           rotate_left
           ·simp only [Act.put, List.setIfInBounds_toArray, List.set_cons_zero, List.set_cons_succ, ar, av]
            rfl
           refine gZ (d8 HT_.out (by kernel_rfl)) ?_
           try go_wp2
           go_ret
           exact ⟨by first | rfl | (simp [al, ak] <;> rfl) | (simp [*, al, ak] <;> rfl), by repeat (first | (with_reducible first | exact HB.out | apply a6 | apply a4 | apply a5 | refine a9 ?_ eA.out) | exact HB.out)⟩
         ·rw [if_neg c21] at H
          exact absurd H (by simp)
        ·rw [if_neg c20] at H
         have c20b0 : decide (x4_2 < (af.length : Int)) = false := decide_eq_false c20
         clear c20
         replace H := Option.bind_eq_some_iff.mp H
         obtain ⟨t190, A300, H⟩ := H
         replace H : (if t190 > 65536 then (some 2) else (some 0)) = some r := H
         have A30 := Aside0.mk A300
         clear A300
         by_cases c31 : t190 > 65536
         ·rw [if_pos c31] at H
          have c31b0 : decide (65536 < t190) = true := decide_eq_true c31
          clear c31
          obtain rfl := Option.some.inj H
          have hcz32_0 : wr.cell? ⟨ca, 0, none⟩ = some (.slice au ai.length aq) := (a7 aX.out 0).trans rfl
          have hcz32_1 : wr.cell? ⟨ca, 1, none⟩ = some (.slice aw af.length ao) := (a7 aX.out 1).trans rfl
          have hfz32_0 := a8 aX.out 0
          have hfz32_1 := a8 aX.out 1
          go_wp2_with (first | ((with_reducible refine am (f := 30) rfl ?_); refine aY (some 44) rfl rfl Try.func30 (by kernel_rfl) rfl #[.agg #[.slice au ai.length aq, .slice aw af.length ao]] rfl (by (try simp only [List.map_toArray, List.map_cons, List.map_nil]); first | done | rfl | (simp only [List.length_drop, List.length_take]; rfl)) ?_; (with_reducible refine (fastiref15_Tries.calls k2 _ _ ai _ _ af t190 _ ?side1 ?side2 ?side3 ?side4 A30.out).mono ?_); (case side1 => repeat (first | exact (Kd.C_below bf.out HB.out) | (with_reducible refine Kd.C_alloc ?_ _) | (with_reducible refine Kd.C_drewN ?_ _) | (with_reducible refine Kd.C_drew ?_))); (case side2 => exact bo.out); (case side3 => repeat (first | exact (Kd.C_below bd.out HB.out) | (with_reducible refine Kd.C_alloc ?_ _) | (with_reducible refine Kd.C_drewN ?_ _) | (with_reducible refine Kd.C_drew ?_))); (case side4 => exact bn.out); rintro e w33 ⟨rfl, hb⟩; refine ⟨_, rfl, ?_⟩; have n0_ := Aside0.mk (ag (g := ca) (o := .cells #[.slice au ai.length aq, .slice aw af.length ao] 25 (0, 0)) (by (with_reducible repeat (first | refine ab ?_ _ | refine ac ?_ | refine aa ?_ _)); exact aX.out) hb); have n1_ := Aside0.mk (ah (by repeat (first | (with_reducible first | exact HB.out | apply a6 | apply a4 | apply a5 | refine a9 ?_ eA.out) | exact HB.out)) hb); clear aX; clear HB; have aX := n0_; have HB := n1_; clear n0_ n1_; (try clear hb); (try clear hb2); (try clear hk); (try clear hi)))
          go_ret
          exact ⟨by first | rfl | (simp [al, ak] <;> rfl) | (simp [*, al, ak] <;> rfl), by repeat (first | (with_reducible first | exact HB.out | apply a6 | apply a4 | apply a5 | refine a9 ?_ eA.out) | exact HB.out)⟩
         ·rw [if_neg c31] at H
          have c31b0 : decide (65536 < t190) = false := decide_eq_false c31
          clear c31
          obtain rfl := Option.some.inj H
          have hcz34_0 : wr.cell? ⟨ca, 0, none⟩ = some (.slice au ai.length aq) := (a7 aX.out 0).trans rfl
          have hcz34_1 : wr.cell? ⟨ca, 1, none⟩ = some (.slice aw af.length ao) := (a7 aX.out 1).trans rfl
          have hfz34_0 := a8 aX.out 0
          have hfz34_1 := a8 aX.out 1
          go_wp2_with (first | ((with_reducible refine am (f := 30) rfl ?_); refine aY (some 44) rfl rfl Try.func30 (by kernel_rfl) rfl #[.agg #[.slice au ai.length aq, .slice aw af.length ao]] rfl (by (try simp only [List.map_toArray, List.map_cons, List.map_nil]); first | done | rfl | (simp only [List.length_drop, List.length_take]; rfl)) ?_; (with_reducible refine (fastiref15_Tries.calls k2 _ _ ai _ _ af t190 _ ?side1 ?side2 ?side3 ?side4 A30.out).mono ?_); (case side1 => repeat (first | exact (Kd.C_below bf.out HB.out) | (with_reducible refine Kd.C_alloc ?_ _) | (with_reducible refine Kd.C_drewN ?_ _) | (with_reducible refine Kd.C_drew ?_))); (case side2 => exact bo.out); (case side3 => repeat (first | exact (Kd.C_below bd.out HB.out) | (with_reducible refine Kd.C_alloc ?_ _) | (with_reducible refine Kd.C_drewN ?_ _) | (with_reducible refine Kd.C_drew ?_))); (case side4 => exact bn.out); rintro e w35 ⟨rfl, hb⟩; refine ⟨_, rfl, ?_⟩; have n0_ := Aside0.mk (ag (g := ca) (o := .cells #[.slice au ai.length aq, .slice aw af.length ao] 25 (0, 0)) (by (with_reducible repeat (first | refine ab ?_ _ | refine ac ?_ | refine aa ?_ _)); exact aX.out) hb); have n1_ := Aside0.mk (ah (by repeat (first | (with_reducible first | exact HB.out | apply a6 | apply a4 | apply a5 | refine a9 ?_ eA.out) | exact HB.out)) hb); clear aX; clear HB; have aX := n0_; have HB := n1_; clear n0_ n1_; (try clear hb); (try clear hb2); (try clear hk); (try clear hi)))
          go_ret
          exact ⟨by first | rfl | (simp [al, ak] <;> rfl) | (simp [*, al, ak] <;> rfl), by repeat (first | (with_reducible first | exact HB.out | apply a6 | apply a4 | apply a5 | refine a9 ?_ eA.out) | exact HB.out)⟩
 ·replace c3 := Bool.eq_false_iff.mpr c3
  subst c3
  have H1 : (some 2) = some r := by rw [if_neg (show ¬ (false = true) by decide)] at H; exact H
  clear H
  have H := H1
  clear H1
  obtain rfl := Option.some.inj H
  go_enter Try.func18, Try.ntmps18
  go_wp2_with (first | ((with_reducible refine az (N := 1) rfl ?_); refine ap ?hg (N := 1) ?hd (cs := #[.slice au ai.length aq, .slice aw af.length ao]) (t := 25) ?hr ?_; (case hd => rfl); (case hg => rfl); (case hr => first | (go_simp; done) | (go_simp; rfl)); intro ca hg w36 hbox hb; have n0_ := Aside0.mk (ah (by repeat (first | (with_reducible first | exact HB.out | apply a6 | apply a4 | apply a5) | exact HB.out)) hb); have n1_ := Aside0.mk (hbox); have n2_ := Aside0.mk ((by rw [hg]; exact (ae (by repeat (first | (with_reducible first | exact HB.out | apply a6 | apply a4 | apply a5) | exact HB.out))) : w.heap.size ≤ ca)); have n3_ := Aside0.mk ((by rw [hg]; exact (ae (by repeat (first | (with_reducible first | exact HB.out | apply a6 | apply a4 | apply a5) | exact HB.out))) : w.heap.size ≤ ca)); clear HB; have HB := n0_; have aX := n1_; have GW184 := n2_; have eA := n3_; clear n0_ n1_ n2_ n3_; clear hb hbox hg; have hcz37_0 : w36.cell? ⟨ca, 0, none⟩ = some (.slice au ai.length aq) := (a7 aX.out 0).trans rfl; have hcz37_1 : w36.cell? ⟨ca, 1, none⟩ = some (.slice aw af.length ao) := (a7 aX.out 1).trans rfl; have hfz37_0 := a8 aX.out 0; have hfz37_1 := a8 aX.out 1) | ((with_reducible refine am (f := 29) rfl ?_); refine aY (some 6) rfl rfl Try.func29 (by kernel_rfl) rfl #[.agg #[.slice au ai.length aq, .slice aw af.length ao]] rfl (by (try simp only [List.map_toArray, List.map_cons, List.map_nil]); first | done | rfl | (simp only [List.length_drop, List.length_take]; rfl)) ?_; (with_reducible refine (fastiref15_short.calls k _ _ ai _ _ af false _ ?side1 ?side2 ?side3 ?side4 A2.out).mono ?_); (case side1 => repeat (first | exact (Kd.C_below bf.out HB.out) | (with_reducible refine Kd.C_alloc ?_ _) | (with_reducible refine Kd.C_drewN ?_ _) | (with_reducible refine Kd.C_drew ?_))); (case side2 => exact bo.out); (case side3 => repeat (first | exact (Kd.C_below bd.out HB.out) | (with_reducible refine Kd.C_alloc ?_ _) | (with_reducible refine Kd.C_drewN ?_ _) | (with_reducible refine Kd.C_drew ?_))); (case side4 => exact bn.out); rintro e w38 ⟨rfl, hb⟩; refine ⟨_, rfl, ?_⟩; have n0_ := Aside0.mk (ag (g := ca) (o := .cells #[.slice au ai.length aq, .slice aw af.length ao] 25 (0, 0)) (by (with_reducible repeat (first | refine ab ?_ _ | refine ac ?_ | refine aa ?_ _)); exact aX.out) hb); have n1_ := Aside0.mk (ah (by repeat (first | (with_reducible first | exact HB.out | apply a6 | apply a4 | apply a5 | refine a9 ?_ eA.out) | exact HB.out)) hb); clear aX; clear HB; have aX := n0_; have HB := n1_; clear n0_ n1_; (try clear hb); (try clear hb2); (try clear hk); (try clear hi)))
  go_ret
  exact ⟨by first | rfl | (simp [al, ak] <;> rfl) | (simp [*, al, ak] <;> rfl), by repeat (first | (with_reducible first | exact HB.out | apply a6 | apply a4 | apply a5 | refine a9 ?_ eA.out) | exact HB.out)⟩
def fastiref15_has.l0 : Nat → List Int → Int → Int → Option (Bool)
 | 0, _, _, _ => none
 | k + 1, x0, x1, x5 => if x5 < (x0.length : Int) then (if 0 ≤ x5 then (if (rd x0 x5) = x1 then (some true) else (fastiref15_has.l0 k x0 x1 (wrap64 (x5 + 1)))) else (none)) else (some false)
def fastiref15_has.f (k : Nat) (l0 : List Int) (a1 : Int) : Option (Bool) := fastiref15_has.l0 k l0 a1 0
set_option maxHeartbeats 8000000 in
set_option maxRecDepth 100000 in
theorem fastiref15_has.calls (k : Nat) (A0 : Option Addr) (c0 : Nat) (l0 : List Int) (a1 : Int) (r : Bool) (w : World) (hr0 : Kd.C (Kd.int .i64) w A0 l0.length l0) (hc0 : l0.length ≤ c0) (h : fastiref15_has.f k l0 a1 = some r) :
  Calls Try.prog 51 #[.slice A0 l0.length c0, .int .i64 a1] w fun e w' => e = .returned (.bool r) ∧ Drawn0 w w' := by
 have HR0 := Aside0.mk hr0
 have HC0 := Aside0.mk hc0
 clear hr0 hc0
 have H : (fastiref15_has.l0 k l0 a1 0) = some r := h
 clear h
 have H' := Aside0.mk H
 clear H
 go_enter Try.func51, Try.ntmps51
 go_wp2
 go_loopg [5] k (fun kq v5 w' => ∃ (x5_1 : Int), v5 = .int .i64 x5_1 ∧ Aside0 (fastiref15_has.l0 kq l0 a1 x5_1 = some r) ∧ Aside0 (kq ≤ k) ∧ Drawn0 w w')
 case atStart => exact ⟨(0), (by first | rfl | (simp; done) | (simp [*]; done)), H', ⟨Nat.le_refl _⟩, by repeat (first | exact Drawn0.refl _ | apply Drawn0.step)⟩
 case round =>
  clear H'
  try clear p2
  obtain ⟨x5_1, rfl, HA, HK1, ⟨m1, rfl⟩⟩ := hrel
  cases gk with
  | zero => exact absurd HA.out (by simp [fastiref15_has.l0])
  | succ k1 =>
   have H := HA.out
   clear HA
   simp only [fastiref15_has.l0] at H
   by_cases c3 : x5_1 < (l0.length : Int)
   ·rw [if_pos c3] at H
    have iE : decide (x5_1 < (l0.length : Int)) = true := decide_eq_true c3
    clear c3
    by_cases c4 : 0 ≤ x5_1
    ·rw [if_pos c4] at H
     have el : decide (0 ≤ x5_1) = true := decide_eq_true c4
     clear c4
     by_cases c5 : (rd l0 x5_1) = a1
     ·rw [if_pos c5] at H
      have c5b0 : ((rd l0 x5_1) == a1) = true := beq_iff_eq.mpr c5
      have c5b1 : ((rd l0 x5_1) != a1) = false := bne_eq_false_iff_eq.mpr c5
      clear c5
      obtain rfl := Option.some.inj H
      have p191 : 0 ≤ (x5_1 : Int) := of_decide_eq_true (by first | (with_reducible assumption) | assumption)
      have q191 : x5_1 < (l0.length : Int) := of_decide_eq_true (by first | (with_reducible assumption) | assumption)
      obtain ⟨ad191, e191, hx191_0⟩ := Kd.at_int HR0.out x5_1 p191 q191
      cases e191
      replace p191 := eq_true p191
      replace q191 := eq_true q191
      go_wp2
      go_ret
      exact ⟨by first | rfl | (simp; done) | (simp [*]; done), by repeat (first | exact Drawn0.refl _ | apply Drawn0.step)⟩
     ·rw [if_neg c5] at H
      have c5b0 : ((rd l0 x5_1) == a1) = false := beq_eq_false_iff_ne.mpr c5
      have c5b1 : ((rd l0 x5_1) != a1) = true := bne_iff_ne.mpr c5
      have H' := Aside0.mk H
      clear H
      have p191 : 0 ≤ (x5_1 : Int) := of_decide_eq_true (by first | (with_reducible assumption) | assumption)
      have q191 : x5_1 < (l0.length : Int) := of_decide_eq_true (by first | (with_reducible assumption) | assumption)
      obtain ⟨ad191, e191, hx191_0⟩ := Kd.at_int HR0.out x5_1 p191 q191
      cases e191
      replace p191 := eq_true p191
      replace q191 := eq_true q191
      go_wp2
      go_roundg k1
      case measure => have := HK1.out; omega
      case rel => exact ⟨(wrap64 (x5_1 + 1)), (by first | rfl | (simp; done) | (simp [*]; done)), H', ⟨by have := HK1.out; omega⟩, by repeat (first | exact Drawn0.refl _ | apply Drawn0.step)⟩
    ·rw [if_neg c4] at H
     exact absurd H (by simp)
   ·rw [if_neg c3] at H
    have iE : decide (x5_1 < (l0.length : Int)) = false := decide_eq_false c3
    clear c3
    obtain rfl := Option.some.inj H
    go_wp2
    go_ret
    exact ⟨by first | rfl | (simp; done) | (simp [*]; done), by repeat (first | exact Drawn0.refl _ | apply Drawn0.step)⟩
end Go.Proofs.Ytcbpkdemcdikaaa.X
namespace Go.Proofs.Ytcbpkdemcdikaaa.X
open Go.RowKit Go.Proofs.YtcbpkdemcdikaaaW.PrintWords Go.Proofs.YtcbpkdemcdikaaaW.PrintLast Go.Proofs.YtcbpkdemcdikaaaW.PrintMore
attribute [local go_sem] aT aM aZ bc aE aG aU aN   
set_option linter.unusedVariables false
set_option linter.unusedSimpArgs false
def fastiref15_assignment.l0 : Nat → List Int → Int → List (List Int) → List (S49) → Option (Bool)
 | 0, _, _, _, _ => none
 | k + 1, x1, x5, x193000, x193001 => if x5 < (x1.length : Int) then (if 0 ≤ x5 then (if x5 < (x193000.length : Int) then ((fastiref15_has.f k (ax x193000 x5) (rd x1 x5)).bind fun t195 => (if t195 = true then (fastiref15_assignment.l0 k x1 (wrap64 (x5 + 1)) x193000 x193001) else (some false))) else (none)) else (none)) else (some true)
def fastiref15_assignment.f (k : Nat) (ai : List (List Int)) (af : List (S49)) (l1 : List Int) : Option (Bool) := if (l1.length : Int) = (ai.length : Int) then (fastiref15_assignment.l0 k l1 0 ai af) else (some false)
set_option maxHeartbeats 8000000 in
set_option maxRecDepth 100000 in
theorem fastiref15_assignment.calls (k : Nat) (au : Option Addr) (aq : Nat) (ai : List (List Int)) (aw : Option Addr) (ao : Nat) (af : List (S49)) (A1 : Option Addr) (c1 : Nat) (l1 : List Int) (r : Bool) (w : World) (bG : Kd.C (Kd.slice 3 (Kd.int .i64)) w au ai.length ai) (bO : ai.length ≤ aq) (bB : Kd.C k49 w aw af.length af) (bF : af.length ≤ ao) (hr1 : Kd.C (Kd.int .i64) w A1 l1.length l1) (hc1 : l1.length ≤ c1) (h : fastiref15_assignment.f k ai af l1 = some r) :
  Calls Try.prog 33 #[.agg #[.slice au ai.length aq, .slice aw af.length ao], .slice A1 l1.length c1] w fun e w' => e = .returned (.bool r) ∧ Below w.heap.size w w' := by
 have hu25 := Try.underlying25
 have bf := Aside0.mk bG
 have bo := Aside0.mk bO
 clear bG bO
 have bd := Aside0.mk bB
 have bn := Aside0.mk bF
 clear bB bF
 have HR1 := Aside0.mk hr1
 have HC1 := Aside0.mk hc1
 clear hr1 hc1
 have HB := Aside0.mk (Below.refl w.heap.size w)
 have H : (if (l1.length : Int) = (ai.length : Int) then (fastiref15_assignment.l0 k l1 0 ai af) else (some false)) = some r := h
 clear h
 by_cases c3 : (l1.length : Int) = (ai.length : Int)
 ·rw [if_pos c3] at H
  have iE : ((l1.length : Int) == (ai.length : Int)) = true := beq_iff_eq.mpr c3
  have c3b1 : ((l1.length : Int) != (ai.length : Int)) = false := bne_eq_false_iff_eq.mpr c3
  have c3b2 : (l1.length == ai.length) = true := by first | simpa using c3 | (simp at c3 ⊢; omega)
  clear c3
  have H' := Aside0.mk H
  clear H
  go_enter Try.func33, Try.ntmps33
  go_wp2_with (first | ((with_reducible refine az (N := 2) rfl ?_); refine ap ?hg (N := 2) ?hd (cs := #[.slice au ai.length aq, .slice aw af.length ao]) (t := 25) ?hr ?_; (case hd => rfl); (case hg => rfl); (case hr => first | (go_simp; done) | (go_simp; rfl)); intro cH hg w4 hbox hb; have n0_ := Aside0.mk (ah (by repeat (first | (with_reducible first | exact HB.out | apply a6 | apply a4 | apply a5) | exact HB.out)) hb); have n1_ := Aside0.mk (hbox); have n2_ := Aside0.mk ((by rw [hg]; exact (ae (by repeat (first | (with_reducible first | exact HB.out | apply a6 | apply a4 | apply a5) | exact HB.out))) : w.heap.size ≤ cH)); have n3_ := Aside0.mk ((by rw [hg]; exact (ae (by repeat (first | (with_reducible first | exact HB.out | apply a6 | apply a4 | apply a5) | exact HB.out))) : w.heap.size ≤ cH)); clear HB; have HB := n0_; have cf := n1_; have GW192 := n2_; have GE192 := n3_; clear n0_ n1_ n2_ n3_; clear hb hbox hg; have dw : w4.cell? ⟨cH, 0, none⟩ = some (.slice au ai.length aq) := (a7 cf.out 0).trans rfl; have dx : w4.cell? ⟨cH, 1, none⟩ = some (.slice aw af.length ao) := (a7 cf.out 1).trans rfl; have dy := a8 cf.out 0; have dz := a8 cf.out 1))
  repeat (go_quiet (first | ((with_reducible refine az (N := 2) rfl ?_); refine ap ?hg (N := 2) ?hd (cs := #[.slice au ai.length aq, .slice aw af.length ao]) (t := 25) ?hr ?_; (case hd => rfl); (case hg => rfl); (case hr => first | (go_simp; done) | (go_simp; rfl)); intro cH hg w4 hbox hb; have n0_ := Aside0.mk (ah (by repeat (first | (with_reducible first | exact HB.out | apply a6 | apply a4 | apply a5) | exact HB.out)) hb); have n1_ := Aside0.mk (hbox); have n2_ := Aside0.mk ((by rw [hg]; exact (ae (by repeat (first | (with_reducible first | exact HB.out | apply a6 | apply a4 | apply a5) | exact HB.out))) : w.heap.size ≤ cH)); have n3_ := Aside0.mk ((by rw [hg]; exact (ae (by repeat (first | (with_reducible first | exact HB.out | apply a6 | apply a4 | apply a5) | exact HB.out))) : w.heap.size ≤ cH)); clear HB; have HB := n0_; have cf := n1_; have GW192 := n2_; have GE192 := n3_; clear n0_ n1_ n2_ n3_; clear hb hbox hg; have dw : w4.cell? ⟨cH, 0, none⟩ = some (.slice au ai.length aq) := (a7 cf.out 0).trans rfl; have dx : w4.cell? ⟨cH, 1, none⟩ = some (.slice aw af.length ao) := (a7 cf.out 1).trans rfl; have dy := a8 cf.out 0; have dz := a8 cf.out 1)); try go_wp2_with (first | ((with_reducible refine az (N := 2) rfl ?_); refine ap ?hg (N := 2) ?hd (cs := #[.slice au ai.length aq, .slice aw af.length ao]) (t := 25) ?hr ?_; (case hd => rfl); (case hg => rfl); (case hr => first | (go_simp; done) | (go_simp; rfl)); intro cH hg w4 hbox hb; have n0_ := Aside0.mk (ah (by repeat (first | (with_reducible first | exact HB.out | apply a6 | apply a4 | apply a5) | exact HB.out)) hb); have n1_ := Aside0.mk (hbox); have n2_ := Aside0.mk ((by rw [hg]; exact (ae (by repeat (first | (with_reducible first | exact HB.out | apply a6 | apply a4 | apply a5) | exact HB.out))) : w.heap.size ≤ cH)); have n3_ := Aside0.mk ((by rw [hg]; exact (ae (by repeat (first | (with_reducible first | exact HB.out | apply a6 | apply a4 | apply a5) | exact HB.out))) : w.heap.size ≤ cH)); clear HB; have HB := n0_; have cf := n1_; have GW192 := n2_; have GE192 := n3_; clear n0_ n1_ n2_ n3_; clear hb hbox hg; have dw : w4.cell? ⟨cH, 0, none⟩ = some (.slice au ai.length aq) := (a7 cf.out 0).trans rfl; have dx : w4.cell? ⟨cH, 1, none⟩ = some (.slice aw af.length ao) := (a7 cf.out 1).trans rfl; have dy := a8 cf.out 0; have dz := a8 cf.out 1)))
  go_loopg [5] k (fun kq v5 w' => ∃ (x5_1 : Int), v5 = .int .i64 x5_1 ∧ Aside0 (fastiref15_assignment.l0 kq l1 x5_1 ai af = some r) ∧ Aside0 (kq ≤ k) ∧ Aside0 (w'.heap[cH]? = some (.cells #[(.slice au ai.length aq), (.slice aw af.length ao)] 25 (0, 0))) ∧ Aside0 (Below w.heap.size w w'))
  case atStart => exact ⟨(0), (by first | rfl | (simp; done) | (simp [*]; done)), H', ⟨Nat.le_refl _⟩, ⟨by (with_reducible repeat (first | refine ab ?_ _ | refine ac ?_ | refine aa ?_ _)); exact cf.out⟩, ⟨by repeat (first | (with_reducible first | exact HB.out | apply a6 | apply a4 | apply a5 | refine a9 ?_ GE192.out) | exact HB.out)⟩⟩
  case round =>
   clear H'
   try clear c1; try clear p2; try clear c3; try clear iE; try clear c3b1; try clear c3b2; try clear dw; try clear dx; try clear dy; try clear dz
   obtain ⟨x5_1, rfl, HA, HK1, cf, HB⟩ := hrel
   cases gk with
   | zero => exact absurd HA.out (by simp [fastiref15_assignment.l0])
   | succ k1 =>
    have H := HA.out
    clear HA
    simp only [fastiref15_assignment.l0] at H
    by_cases c6 : x5_1 < (l1.length : Int)
    ·rw [if_pos c6] at H
     have c6b0 : decide (x5_1 < (l1.length : Int)) = true := decide_eq_true c6
     clear c6
     by_cases c7 : 0 ≤ x5_1
     ·rw [if_pos c7] at H
      have c7b0 : decide (0 ≤ x5_1) = true := decide_eq_true c7
      clear c7
      by_cases c8 : x5_1 < (ai.length : Int)
      ·rw [if_pos c8] at H
       have c8b0 : decide (x5_1 < (ai.length : Int)) = true := decide_eq_true c8
       clear c8
       replace H := Option.bind_eq_some_iff.mp H
       obtain ⟨t195, A90, H⟩ := H
       replace H : (if t195 = true then (fastiref15_assignment.l0 k1 l1 (wrap64 (x5_1 + 1)) ai af) else (some false)) = some r := H
       have A9 := Aside0.mk A90
       clear A90
       by_cases c10 : t195 = true
       ·subst c10
        have H1 : (fastiref15_assignment.l0 k1 l1 (wrap64 (x5_1 + 1)) ai af) = some r := by rw [if_pos rfl] at H; exact H
        clear H
        have H := H1
        clear H1
        have H' := Aside0.mk H
        clear H
        have bV : wr.cell? ⟨cH, 0, none⟩ = some (.slice au ai.length aq) := (a7 cf.out 0).trans rfl
        have bW : wr.cell? ⟨cH, 1, none⟩ = some (.slice aw af.length ao) := (a7 cf.out 1).trans rfl
        have bX := a8 cf.out 0
        have bY := a8 cf.out 1
        have p193 : 0 ≤ (x5_1 : Int) := of_decide_eq_true (by first | (with_reducible assumption) | assumption)
        have q193 : x5_1 < (ai.length : Int) := of_decide_eq_true (by first | (with_reducible assumption) | assumption)
        obtain ⟨ad193, A193_0, c193_0, e193, fO, jO, jP⟩ := dD bf.out x5_1 p193 q193
        cases e193
        replace fO := (HB.out.cell (World.block_lt_of_cell? w _ fO)).trans fO
        have fP := Aside0.mk jP
        have fQ := Aside0.mk jO
        clear jP jO
        replace p193 := eq_true p193
        replace q193 := eq_true q193
        have p194 : 0 ≤ (x5_1 : Int) := of_decide_eq_true (by first | (with_reducible assumption) | assumption)
        have q194 : x5_1 < (l1.length : Int) := of_decide_eq_true (by first | (with_reducible assumption) | assumption)
        obtain ⟨ad194, e194, fR⟩ := Kd.at_int HR1.out x5_1 p194 q194
        cases e194
        replace fR := (HB.out.cell (World.block_lt_of_cell? w _ fR)).trans fR
        replace p194 := eq_true p194
        replace q194 := eq_true q194
        go_wp2_with (first | (go_at_call 51; (with_reducible refine (fastiref15_has.calls k1 _ _ (ax ai x5_1) (rd l1 x5_1) true _ ?side1 ?side2 A9.out).mono ?_); (case side1 => repeat (first | exact (Kd.C_below fP.out HB.out) | (with_reducible refine Kd.C_alloc ?_ _) | (with_reducible refine Kd.C_drewN ?_ _) | (with_reducible refine Kd.C_drew ?_))); (case side2 => exact fQ.out); rintro e w' ⟨rfl, ⟨nd, rfl⟩⟩; (try first | exact ⟨rfl, _, World.drewN_drewN _ _ _⟩ | exact ⟨rfl, _, Eq.trans (World.drewN_drewN _ _ _) (congrArg (World.drewN _) (Nat.add_assoc _ _ _))⟩)))
        repeat (go_quiet (first | (go_at_call 51; (with_reducible refine (fastiref15_has.calls k1 _ _ (ax ai x5_1) (rd l1 x5_1) true _ ?side1 ?side2 A9.out).mono ?_); (case side1 => repeat (first | exact (Kd.C_below fP.out HB.out) | (with_reducible refine Kd.C_alloc ?_ _) | (with_reducible refine Kd.C_drewN ?_ _) | (with_reducible refine Kd.C_drew ?_))); (case side2 => exact fQ.out); rintro e w' ⟨rfl, ⟨nd, rfl⟩⟩; (try first | exact ⟨rfl, _, World.drewN_drewN _ _ _⟩ | exact ⟨rfl, _, Eq.trans (World.drewN_drewN _ _ _) (congrArg (World.drewN _) (Nat.add_assoc _ _ _))⟩))); try go_wp2_with (first | (go_at_call 51; (with_reducible refine (fastiref15_has.calls k1 _ _ (ax ai x5_1) (rd l1 x5_1) true _ ?side1 ?side2 A9.out).mono ?_); (case side1 => repeat (first | exact (Kd.C_below fP.out HB.out) | (with_reducible refine Kd.C_alloc ?_ _) | (with_reducible refine Kd.C_drewN ?_ _) | (with_reducible refine Kd.C_drew ?_))); (case side2 => exact fQ.out); rintro e w' ⟨rfl, ⟨nd, rfl⟩⟩; (try first | exact ⟨rfl, _, World.drewN_drewN _ _ _⟩ | exact ⟨rfl, _, Eq.trans (World.drewN_drewN _ _ _) (congrArg (World.drewN _) (Nat.add_assoc _ _ _))⟩))))
        go_roundg k1
        case measure => have := HK1.out; omega
        case rel => exact ⟨(wrap64 (x5_1 + 1)), (by first | rfl | (simp; done) | (simp [*]; done)), H', ⟨by have := HK1.out; omega⟩, ⟨by (with_reducible repeat (first | refine ab ?_ _ | refine ac ?_ | refine aa ?_ _)); exact cf.out⟩, ⟨by repeat (first | (with_reducible first | exact HB.out | apply a6 | apply a4 | apply a5 | refine a9 ?_ GE192.out) | exact HB.out)⟩⟩
       ·replace c10 := Bool.eq_false_iff.mpr c10
        subst c10
        have H1 : (some false) = some r := by rw [if_neg (show ¬ (false = true) by decide)] at H; exact H
        clear H
        have H := H1
        clear H1
        obtain rfl := Option.some.inj H
        have cJ : wr.cell? ⟨cH, 0, none⟩ = some (.slice au ai.length aq) := (a7 cf.out 0).trans rfl
        have cK : wr.cell? ⟨cH, 1, none⟩ = some (.slice aw af.length ao) := (a7 cf.out 1).trans rfl
        have cL := a8 cf.out 0
        have cM := a8 cf.out 1
        have p193 : 0 ≤ (x5_1 : Int) := of_decide_eq_true (by first | (with_reducible assumption) | assumption)
        have q193 : x5_1 < (ai.length : Int) := of_decide_eq_true (by first | (with_reducible assumption) | assumption)
        obtain ⟨ad193, A193_0, c193_0, e193, fO, jO, jP⟩ := dD bf.out x5_1 p193 q193
        cases e193
        replace fO := (HB.out.cell (World.block_lt_of_cell? w _ fO)).trans fO
        have fP := Aside0.mk jP
        have fQ := Aside0.mk jO
        clear jP jO
        replace p193 := eq_true p193
        replace q193 := eq_true q193
        have p194 : 0 ≤ (x5_1 : Int) := of_decide_eq_true (by first | (with_reducible assumption) | assumption)
        have q194 : x5_1 < (l1.length : Int) := of_decide_eq_true (by first | (with_reducible assumption) | assumption)
        obtain ⟨ad194, e194, fR⟩ := Kd.at_int HR1.out x5_1 p194 q194
        cases e194
        replace fR := (HB.out.cell (World.block_lt_of_cell? w _ fR)).trans fR
        replace p194 := eq_true p194
        replace q194 := eq_true q194
        go_wp2_with (first | (go_at_call 51; (with_reducible refine (fastiref15_has.calls k1 _ _ (ax ai x5_1) (rd l1 x5_1) false _ ?side1 ?side2 A9.out).mono ?_); (case side1 => repeat (first | exact (Kd.C_below fP.out HB.out) | (with_reducible refine Kd.C_alloc ?_ _) | (with_reducible refine Kd.C_drewN ?_ _) | (with_reducible refine Kd.C_drew ?_))); (case side2 => exact fQ.out); rintro e w' ⟨rfl, ⟨nd, rfl⟩⟩; (try first | exact ⟨rfl, _, World.drewN_drewN _ _ _⟩ | exact ⟨rfl, _, Eq.trans (World.drewN_drewN _ _ _) (congrArg (World.drewN _) (Nat.add_assoc _ _ _))⟩)))
        repeat (go_quiet (first | (go_at_call 51; (with_reducible refine (fastiref15_has.calls k1 _ _ (ax ai x5_1) (rd l1 x5_1) false _ ?side1 ?side2 A9.out).mono ?_); (case side1 => repeat (first | exact (Kd.C_below fP.out HB.out) | (with_reducible refine Kd.C_alloc ?_ _) | (with_reducible refine Kd.C_drewN ?_ _) | (with_reducible refine Kd.C_drew ?_))); (case side2 => exact fQ.out); rintro e w' ⟨rfl, ⟨nd, rfl⟩⟩; (try first | exact ⟨rfl, _, World.drewN_drewN _ _ _⟩ | exact ⟨rfl, _, Eq.trans (World.drewN_drewN _ _ _) (congrArg (World.drewN _) (Nat.add_assoc _ _ _))⟩))); try go_wp2_with (first | (go_at_call 51; (with_reducible refine (fastiref15_has.calls k1 _ _ (ax ai x5_1) (rd l1 x5_1) false _ ?side1 ?side2 A9.out).mono ?_); (case side1 => repeat (first | exact (Kd.C_below fP.out HB.out) | (with_reducible refine Kd.C_alloc ?_ _) | (with_reducible refine Kd.C_drewN ?_ _) | (with_reducible refine Kd.C_drew ?_))); (case side2 => exact fQ.out); rintro e w' ⟨rfl, ⟨nd, rfl⟩⟩; (try first | exact ⟨rfl, _, World.drewN_drewN _ _ _⟩ | exact ⟨rfl, _, Eq.trans (World.drewN_drewN _ _ _) (congrArg (World.drewN _) (Nat.add_assoc _ _ _))⟩))))
        go_ret
        exact ⟨by first | rfl | (simp [al, ak] <;> rfl) | (simp [*, al, ak] <;> rfl), by repeat (first | (with_reducible first | exact HB.out | apply a6 | apply a4 | apply a5 | refine a9 ?_ GE192.out) | exact HB.out)⟩
      ·rw [if_neg c8] at H
       exact absurd H (by simp)
     ·rw [if_neg c7] at H
      exact absurd H (by simp)
    ·rw [if_neg c6] at H
     have c6b0 : decide (x5_1 < (l1.length : Int)) = false := decide_eq_false c6
     clear c6
     obtain rfl := Option.some.inj H
     go_wp2
     repeat (go_quiet (fail); try go_wp2)
     go_ret
     exact ⟨by first | rfl | (simp [al, ak] <;> rfl) | (simp [*, al, ak] <;> rfl), by repeat (first | (with_reducible first | exact HB.out | apply a6 | apply a4 | apply a5 | refine a9 ?_ GE192.out) | exact HB.out)⟩
 ·rw [if_neg c3] at H
  have iE : ((l1.length : Int) == (ai.length : Int)) = false := beq_eq_false_iff_ne.mpr c3
  have c3b1 : ((l1.length : Int) != (ai.length : Int)) = true := bne_iff_ne.mpr c3
  have c3b2 : (l1.length == ai.length) = false := by first | simpa using c3 | (simp at c3 ⊢; omega)
  obtain rfl := Option.some.inj H
  go_enter Try.func33, Try.ntmps33
  go_wp2_with (first | ((with_reducible refine az (N := 2) rfl ?_); refine ap ?hg (N := 2) ?hd (cs := #[.slice au ai.length aq, .slice aw af.length ao]) (t := 25) ?hr ?_; (case hd => rfl); (case hg => rfl); (case hr => first | (go_simp; done) | (go_simp; rfl)); intro cH hg w13 hbox hb; have n0_ := Aside0.mk (ah (by repeat (first | (with_reducible first | exact HB.out | apply a6 | apply a4 | apply a5) | exact HB.out)) hb); have n1_ := Aside0.mk (hbox); have n2_ := Aside0.mk ((by rw [hg]; exact (ae (by repeat (first | (with_reducible first | exact HB.out | apply a6 | apply a4 | apply a5) | exact HB.out))) : w.heap.size ≤ cH)); have n3_ := Aside0.mk ((by rw [hg]; exact (ae (by repeat (first | (with_reducible first | exact HB.out | apply a6 | apply a4 | apply a5) | exact HB.out))) : w.heap.size ≤ cH)); clear HB; have HB := n0_; have cf := n1_; have GW192 := n2_; have GE192 := n3_; clear n0_ n1_ n2_ n3_; clear hb hbox hg; have jQ : w13.cell? ⟨cH, 0, none⟩ = some (.slice au ai.length aq) := (a7 cf.out 0).trans rfl; have jR : w13.cell? ⟨cH, 1, none⟩ = some (.slice aw af.length ao) := (a7 cf.out 1).trans rfl; have jS := a8 cf.out 0; have jT := a8 cf.out 1))
  repeat (go_quiet (first | ((with_reducible refine az (N := 2) rfl ?_); refine ap ?hg (N := 2) ?hd (cs := #[.slice au ai.length aq, .slice aw af.length ao]) (t := 25) ?hr ?_; (case hd => rfl); (case hg => rfl); (case hr => first | (go_simp; done) | (go_simp; rfl)); intro cH hg w13 hbox hb; have n0_ := Aside0.mk (ah (by repeat (first | (with_reducible first | exact HB.out | apply a6 | apply a4 | apply a5) | exact HB.out)) hb); have n1_ := Aside0.mk (hbox); have n2_ := Aside0.mk ((by rw [hg]; exact (ae (by repeat (first | (with_reducible first | exact HB.out | apply a6 | apply a4 | apply a5) | exact HB.out))) : w.heap.size ≤ cH)); have n3_ := Aside0.mk ((by rw [hg]; exact (ae (by repeat (first | (with_reducible first | exact HB.out | apply a6 | apply a4 | apply a5) | exact HB.out))) : w.heap.size ≤ cH)); clear HB; have HB := n0_; have cf := n1_; have GW192 := n2_; have GE192 := n3_; clear n0_ n1_ n2_ n3_; clear hb hbox hg; have jQ : w13.cell? ⟨cH, 0, none⟩ = some (.slice au ai.length aq) := (a7 cf.out 0).trans rfl; have jR : w13.cell? ⟨cH, 1, none⟩ = some (.slice aw af.length ao) := (a7 cf.out 1).trans rfl; have jS := a8 cf.out 0; have jT := a8 cf.out 1)); try go_wp2_with (first | ((with_reducible refine az (N := 2) rfl ?_); refine ap ?hg (N := 2) ?hd (cs := #[.slice au ai.length aq, .slice aw af.length ao]) (t := 25) ?hr ?_; (case hd => rfl); (case hg => rfl); (case hr => first | (go_simp; done) | (go_simp; rfl)); intro cH hg w13 hbox hb; have n0_ := Aside0.mk (ah (by repeat (first | (with_reducible first | exact HB.out | apply a6 | apply a4 | apply a5) | exact HB.out)) hb); have n1_ := Aside0.mk (hbox); have n2_ := Aside0.mk ((by rw [hg]; exact (ae (by repeat (first | (with_reducible first | exact HB.out | apply a6 | apply a4 | apply a5) | exact HB.out))) : w.heap.size ≤ cH)); have n3_ := Aside0.mk ((by rw [hg]; exact (ae (by repeat (first | (with_reducible first | exact HB.out | apply a6 | apply a4 | apply a5) | exact HB.out))) : w.heap.size ≤ cH)); clear HB; have HB := n0_; have cf := n1_; have GW192 := n2_; have GE192 := n3_; clear n0_ n1_ n2_ n3_; clear hb hbox hg; have jQ : w13.cell? ⟨cH, 0, none⟩ = some (.slice au ai.length aq) := (a7 cf.out 0).trans rfl; have jR : w13.cell? ⟨cH, 1, none⟩ = some (.slice aw af.length ao) := (a7 cf.out 1).trans rfl; have jS := a8 cf.out 0; have jT := a8 cf.out 1)))
  go_ret
  exact ⟨by first | rfl | (simp [al, ak] <;> rfl) | (simp [*, al, ak] <;> rfl), by repeat (first | (with_reducible first | exact HB.out | apply a6 | apply a4 | apply a5 | refine a9 ?_ GE192.out) | exact HB.out)⟩
end Go.Proofs.Ytcbpkdemcdikaaa.X
