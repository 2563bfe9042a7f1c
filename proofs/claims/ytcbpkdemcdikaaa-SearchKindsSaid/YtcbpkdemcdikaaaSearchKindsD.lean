/- Proved here: parts of the walk and of the plain law of SearchKinds, put into one text (names and lines made short by a program). -/
import Derived.Test.YtcbpkdemcdikaaaProg
import Derived.Below
import Derived.Deep.Draws
import Derived.Deep.AppendLies
import Derived.Maps.AppendAt
import Derived.OwnWalk
import Derived.Laws.BytesArg
import Derived.Laws.MakeOwn
import Derived.Laws.OwnMore
import Derived.Deep.OwnRows
import Derived.Tactics
import Derived.Lib.ConvBytes
import Derived.Laws.Slices
import Derived.WalkKit
import Derived.KernelRfl
import Derived.RowKit3
import Derived.Deep.LoopGhost
import Derived.Deep.QuietTactic
import Derived.BigQuiet
import Derived.WideLaws
import Derived.Deep.DeepCutAuto
import Derived.Deep.CutBlock
import Derived.Deep.RegionHeld3
import Derived.Laws.Rows
import Derived.Lib.AppendStr
import Derived.ArgAppend
import Derived.Laws.IdiomCopy
import Derived.OrdersHeld
import Derived.Laws.BitsLemmas
import Derived.RowKit
import Derived.Test.YtcbpkdemcdikaaaSearchKindsC
import Derived.Test.YtcbpkdemcdikaaaSearchKindsB
namespace Go.Proofs.Ytcbpkdemcdikaaa.X
open Go.RowKit Go.Proofs.YtcbpkdemcdikaaaW.PrintWords Go.Proofs.YtcbpkdemcdikaaaW.PrintLast Go.Proofs.YtcbpkdemcdikaaaW.PrintMore
attribute [local go_sem] ay az aN aM ao ap aw ax   
set_option linter.unusedVariables false
set_option linter.unusedSimpArgs false
def errW : Option Int → Value
 | none => .nilIface
 | some c => .iface 0 (.int .i64 c)
theorem al : errW none = .nilIface := rfl
theorem ak (c : Int) : errW (some c) = .iface 0 (.int .i64 c) := rfl
theorem info3 : (Try.prog.info? 3).map (fun i => (i.zero, i.size, i.bytes)) = some (some (.int .i64 0), 1, 8) := by kernel_rfl
theorem info39 : (Try.prog.info? 39).map (fun i => (i.zero, i.size, i.bytes)) = some (some (.agg #[(.int .i64 0), (.slice none 0 0)]), 2, 32) := by kernel_rfl
theorem info49 : (Try.prog.info? 49).map (fun i => (i.zero, i.size, i.bytes)) = some (some (.agg #[(.int .i64 0), (.int .i64 0), (.slice none 0 0), (.slice none 0 0)]), 4, 64) := by kernel_rfl
def aJ (xs : List (List Int)) (i : Int) : (List Int) := xs.getD i.toNat ([] : List Int)
theorem f5 {w : World} {A : Option Addr} {n : Nat} {xs : List (List Int)} (h : Kd.C (Kd.slice 3 (Kd.int .i64)) w A n xs) (i : Int) (h0 : 0 ≤ i) (h1 : i < n) : ∃ ad A0 c0, A = some ad ∧ w.cell? (ad.add i.toNat) = some (.slice A0 (aJ xs i).length c0) ∧ (aJ xs i).length ≤ c0 ∧ (Kd.int .i64).C w A0 (aJ xs i).length (aJ xs i) := by
 obtain ⟨ad, c, e, _, hK, hc0⟩ := Kd.C_get h ([] : List Int) i h0 h1
 have hc : ∀ j u, c[j]? = some u → w.cell? (ad.add (i.toNat * 1 + j)) = some u := hc0
 obtain ⟨A0, c0, rfl, l0, g0⟩ := hK
 exact ⟨ad, A0, c0, e, by have hq := hc 0 _ rfl; rwa [Nat.mul_one, Nat.add_zero] at hq, l0, g0⟩
structure S49 where
 f0 : Int
 f1 : Int
 f2 : (List Int)
 f3 : (List (List Int))
def z49 : S49 := ⟨(0 : Int), (0 : Int), ([] : List Int), ([] : List (List Int))⟩
def k49 : Kd S49 := Kd.iso (Kd.pair (Kd.int .i64) (Kd.pair (Kd.int .i64) (Kd.pair (Kd.slice 3 (Kd.int .i64)) (Kd.slice 26 (Kd.slice 3 (Kd.int .i64)))))) (fun x : S49 => (x.f0, x.f1, x.f2, x.f3))
theorem k49_heap : Kd.Heap k49 := Kd.heap_iso _ (Kd.heap_pair (Kd.heap_int .i64) (Kd.heap_pair (Kd.heap_int .i64) (Kd.heap_pair (Kd.heap_slice 3 (Kd.heap_int .i64)) (Kd.heap_slice 26 (Kd.heap_slice 3 (Kd.heap_int .i64))))))
theorem fB {w : World} {x : S49} {cs : List Value} (h : k49.K w x cs) : ∃ A2 c2 A3 c3, cs = [.int .i64 x.f0, .int .i64 x.f1, .slice A2 x.f2.length c2, .slice A3 x.f3.length c3] ∧ x.f2.length ≤ c2 ∧ (Kd.int .i64).C w A2 x.f2.length x.f2 ∧ x.f3.length ≤ c3 ∧ (Kd.slice 3 (Kd.int .i64)).C w A3 x.f3.length x.f3 := by
 obtain ⟨_, _, rfl, rfl, ⟨_, _, rfl, rfl, ⟨_, _, rfl, ⟨A2, c2, rfl, l2, g2⟩, ⟨A3, c3, rfl, l3, g3⟩⟩⟩⟩ := h
 exact ⟨A2, c2, A3, c3, rfl, l2, g2, l3, g3⟩
theorem k49_mk (w : World) (x : S49) {A2 : Option Addr} {c2 : Nat} (l2 : x.f2.length ≤ c2) (g2 : (Kd.int .i64).C w A2 x.f2.length x.f2) {A3 : Option Addr} {c3 : Nat} (l3 : x.f3.length ≤ c3) (g3 : (Kd.slice 3 (Kd.int .i64)).C w A3 x.f3.length x.f3) : k49.K w x [.int .i64 x.f0, .int .i64 x.f1, .slice A2 x.f2.length c2, .slice A3 x.f3.length c3] := ⟨[.int .i64 x.f0], [.int .i64 x.f1, .slice A2 x.f2.length c2, .slice A3 x.f3.length c3], rfl, rfl, ⟨[.int .i64 x.f1], [.slice A2 x.f2.length c2, .slice A3 x.f3.length c3], rfl, rfl, ⟨[.slice A2 x.f2.length c2], [.slice A3 x.f3.length c3], rfl, ⟨A2, c2, rfl, l2, g2⟩, ⟨A3, c3, rfl, l3, g3⟩⟩⟩⟩
theorem fJ {W : World} {ok : Nat → Prop} {x : S49} {cs : List Value} (h : Kd.FK k49 W ok x cs) : ∃ A2 c2 A3 c3, cs = [.int .i64 x.f0, .int .i64 x.f1, .slice A2 x.f2.length c2, .slice A3 x.f3.length c3] ∧ x.f2.length ≤ c2 ∧ Kd.F (Kd.int .i64) W ok A2 x.f2.length x.f2 ∧ x.f3.length ≤ c3 ∧ Kd.F (Kd.slice 3 (Kd.int .i64)) W ok A3 x.f3.length x.f3 := by
 obtain ⟨A2, c2, A3, c3, rfl, l2, _, l3, _⟩ := fB (Kd.FK_now h)
 exact ⟨A2, c2, A3, c3, rfl, l2, (fun W' hW => by obtain ⟨A2_, c2_, A3_, c3_, he, l2_, g2_, l3_, g3_⟩ := fB (h W' hW); injection (Option.some.inj (show some (Value.slice A2 x.f2.length c2) = some (Value.slice A2_ x.f2.length c2_) from congrArg (fun l => l[2]?) he)) with ha_ _ _; rw [ha_]; exact g2_), l3, (fun W' hW => by obtain ⟨A2_, c2_, A3_, c3_, he, l2_, g2_, l3_, g3_⟩ := fB (h W' hW); injection (Option.some.inj (show some (Value.slice A3 x.f3.length c3) = some (Value.slice A3_ x.f3.length c3_) from congrArg (fun l => l[3]?) he)) with ha_ _ _; rw [ha_]; exact g3_)⟩
theorem k49_mkF (W : World) (ok : Nat → Prop) (x : S49) {A2 : Option Addr} {c2 : Nat} (l2 : x.f2.length ≤ c2) (g2 : Kd.F (Kd.int .i64) W ok A2 x.f2.length x.f2) {A3 : Option Addr} {c3 : Nat} (l3 : x.f3.length ≤ c3) (g3 : Kd.F (Kd.slice 3 (Kd.int .i64)) W ok A3 x.f3.length x.f3) : Kd.FK k49 W ok x [.int .i64 x.f0, .int .i64 x.f1, .slice A2 x.f2.length c2, .slice A3 x.f3.length c3] := fun W2 hW => k49_mk W2 x l2 (g2 W2 hW) l3 (g3 W2 hW)
def ag (xs : List S49) (i : Int) : S49 := xs.getD i.toNat z49
theorem dH {w : World} {A : Option Addr} {n : Nat} {xs : List S49} (h : Kd.C k49 w A n xs) (i : Int) (h0 : 0 ≤ i) (h1 : i < n) : ∃ ad A2 c2 A3 c3, A = some ad ∧ w.cell? (ad.add (i.toNat * 4)) = some (.int .i64 (ag xs i).f0) ∧ w.cell? ⟨(ad.add (i.toNat * 4)).block, (ad.add (i.toNat * 4)).off + 1, none⟩ = some (.int .i64 (ag xs i).f1) ∧ w.cell? ⟨(ad.add (i.toNat * 4)).block, (ad.add (i.toNat * 4)).off + 2, none⟩ = some (.slice A2 (ag xs i).f2.length c2) ∧ w.cell? ⟨(ad.add (i.toNat * 4)).block, (ad.add (i.toNat * 4)).off + 3, none⟩ = some (.slice A3 (ag xs i).f3.length c3) ∧ (ag xs i).f2.length ≤ c2 ∧ (Kd.int .i64).C w A2 (ag xs i).f2.length (ag xs i).f2 ∧ (ag xs i).f3.length ≤ c3 ∧ (Kd.slice 3 (Kd.int .i64)).C w A3 (ag xs i).f3.length (ag xs i).f3 := by
 obtain ⟨ad, c, e, _, hK, hc0⟩ := Kd.C_get h z49 i h0 h1
 have hc : ∀ j u, c[j]? = some u → w.cell? (ad.add (i.toNat * 4 + j)) = some u := hc0
 obtain ⟨A2, c2, A3, c3, rfl, l2, g2, l3, g3⟩ := fB hK
 exact ⟨ad, A2, c2, A3, c3, e, hc 0 _ rfl, by rw [← eH _ _ 1 (by omega)]; exact hc 1 _ rfl, by rw [← eH _ _ 2 (by omega)]; exact hc 2 _ rfl, by rw [← eH _ _ 3 (by omega)]; exact hc 3 _ rfl, l2, g2, l3, g3⟩
structure S39 where
 f0 : Int
 f1 : (List S39)
def z39 : S39 := ⟨(0 : Int), ([] : List S39)⟩
def F39 (d : Kd S39) : Kd S39 := Kd.iso (Kd.pair (Kd.int .i64) (Kd.slice 39 d)) (fun x : S39 => (x.f0, x.f1))
theorem mono39 : Kd.Mono F39 := Kd.mono_iso _ (Kd.mono_pair (Kd.mono_const _) (Kd.mono_slice 39 Kd.mono_id))
theorem sub39 : Kd.Sub F39 [39] := Kd.sub_iso _ (Kd.sub_pair (Kd.sub_const _ (by decide)) (Kd.sub_slice 39 (by decide) Kd.sub_id))
theorem sz39 : ∀ n, (Kd.upto F39 2 [39] n).sz = 2 := Kd.upto_sz (fun _ => rfl)
def k39 : Kd S39 := Kd.fix F39 2 [39] sz39 (Kd.upto_E sub39)
theorem k39_open {w : World} {x : S39} {cs : List Value} (h : k39.K w x cs) : ∃ A1 c1, cs = [.int .i64 x.f0, .slice A1 x.f1.length c1] ∧ x.f1.length ≤ c1 ∧ k39.C w A1 x.f1.length x.f1 := by
 obtain ⟨n, h⟩ := h
 cases n with
 | zero => exact h.elim
 | succ n =>
  obtain ⟨_, _, rfl, rfl, ⟨A1, c1, rfl, l1, g1⟩⟩ := h
  exact ⟨A1, c1, rfl, l1, Kd.fix_C g1⟩
theorem k39_mk (w : World) (x : S39) {A1 : Option Addr} {c1 : Nat} (l1 : x.f1.length ≤ c1) (g1 : k39.C w A1 x.f1.length x.f1) : k39.K w x [.int .i64 x.f0, .slice A1 x.f1.length c1] := by
 obtain ⟨n1, q1⟩ := Kd.fix_C_back mono39 g1
 have r1 := Kd.upto_C_le mono39 sz39 (show n1 ≤ n1 by omega) q1
 exact ⟨n1 + 1, ⟨[.int .i64 x.f0], [.slice A1 x.f1.length c1], rfl, rfl, ⟨A1, c1, rfl, l1, r1⟩⟩⟩
theorem k39_mkM (w : World) (base : Nat) (ok : Nat → Prop) (x : S39) {v1 : Value} (g1 : k39.R 39 w base ok v1 x.f1) : k39.M w base ok x [.int .i64 x.f0, v1] := by
 obtain ⟨n1, q1⟩ := Kd.fix_R_back mono39 g1
 have r1 := Kd.upto_R_le mono39 sz39 (show n1 ≤ n1 by omega) q1
 exact ⟨n1 + 1, ⟨[.int .i64 x.f0], [v1], rfl, rfl, ⟨v1, rfl, r1⟩⟩⟩
def bj (xs : List S39) (i : Int) : S39 := xs.getD i.toNat z39
theorem at_T39 {w : World} {A : Option Addr} {n : Nat} {xs : List S39} (h : Kd.C k39 w A n xs) (i : Int) (h0 : 0 ≤ i) (h1 : i < n) : ∃ ad A1 c1, A = some ad ∧ w.cell? (ad.add (i.toNat * 2)) = some (.int .i64 (bj xs i).f0) ∧ w.cell? ⟨(ad.add (i.toNat * 2)).block, (ad.add (i.toNat * 2)).off + 1, none⟩ = some (.slice A1 (bj xs i).f1.length c1) ∧ (bj xs i).f1.length ≤ c1 ∧ k39.C w A1 (bj xs i).f1.length (bj xs i).f1 := by
 obtain ⟨ad, c, e, _, hK, hc0⟩ := Kd.C_get h z39 i h0 h1
 have hc : ∀ j u, c[j]? = some u → w.cell? (ad.add (i.toNat * 2 + j)) = some u := hc0
 obtain ⟨A1, c1, rfl, l1, g1⟩ := k39_open hK
 exact ⟨ad, A1, c1, e, hc 0 _ rfl, by rw [← eH _ _ 1 (by omega)]; exact hc 1 _ rfl, l1, g1⟩
def slices_Index_int_int.l0 : Nat → List Int → Int → Int → Int → Option (Int)
 | 0, _, _, _, _ => none
 | k + 1, x0, x1, x7, x8 => if x8 < x7 then (if 0 ≤ x8 then (if x8 < (x0.length : Int) then (if x1 = (rd x0 x8) then (some x8) else (slices_Index_int_int.l0 k x0 x1 x7 (wrap64 (x8 + 1)))) else (none)) else (none)) else (some (-1))
def slices_Index_int_int.f (k : Nat) (l0 : List Int) (a1 : Int) : Option (Int) := slices_Index_int_int.l0 k l0 a1 (l0.length : Int) 0
set_option maxHeartbeats 8000000 in
set_option maxRecDepth 100000 in
theorem slices_Index_int_int.calls (k : Nat) (A0 : Option Addr) (c0 : Nat) (l0 : List Int) (a1 : Int) (r : Int) (w : World) (hr0 : Kd.C (Kd.int .i64) w A0 l0.length l0) (hc0 : l0.length ≤ c0) (h : slices_Index_int_int.f k l0 a1 = some r) :
  Calls Try.prog 70 #[.slice A0 l0.length c0, .int .i64 a1] w fun e w' => e = .returned (.int .i64 r) ∧ Drawn0 w w' := by
 have HR0 := Aside0.mk hr0
 have HC0 := Aside0.mk hc0
 clear hr0 hc0
 have H : (slices_Index_int_int.l0 k l0 a1 (l0.length : Int) 0) = some r := h
 clear h
 have H' := Aside0.mk H
 clear H
 go_enter Try.func70, Try.ntmps70
 go_wp2
 go_loopg [8] k (fun kq v8 w' => ∃ (x8_1 : Int), v8 = .int .i64 x8_1 ∧ Aside0 (slices_Index_int_int.l0 kq l0 a1 (l0.length : Int) x8_1 = some r) ∧ Aside0 (kq ≤ k) ∧ Drawn0 w w')
 case atStart => exact ⟨(0), (by first | rfl | (simp; done) | (simp [*]; done)), H', ⟨Nat.le_refl _⟩, by repeat (first | exact Drawn0.refl _ | apply Drawn0.step)⟩
 case round =>
  clear H'
  try clear p2
  obtain ⟨x8_1, rfl, HA, HK1, ⟨m1, rfl⟩⟩ := hrel
  cases gk with
  | zero => exact absurd HA.out (by simp [slices_Index_int_int.l0])
  | succ k1 =>
   have H := HA.out
   clear HA
   simp only [slices_Index_int_int.l0] at H
   by_cases c3 : x8_1 < (l0.length : Int)
   ·rw [if_pos c3] at H
    have c3b0 : decide (x8_1 < (l0.length : Int)) = true := decide_eq_true c3
    clear c3
    by_cases c4 : 0 ≤ x8_1
    ·rw [if_pos c4] at H
     have eb : decide (0 ≤ x8_1) = true := decide_eq_true c4
     clear c4
     by_cases c5 : x8_1 < (l0.length : Int)
     ·rw [if_pos c5] at H
      have c5b0 : decide (x8_1 < (l0.length : Int)) = true := decide_eq_true c5
      clear c5
      by_cases c6 : a1 = (rd l0 x8_1)
      ·rw [if_pos c6] at H
       have c6b0 : (a1 == (rd l0 x8_1)) = true := beq_iff_eq.mpr c6
       have c6b1 : (a1 != (rd l0 x8_1)) = false := bne_eq_false_iff_eq.mpr c6
       clear c6
       obtain rfl := Option.some.inj H
       have p101 : 0 ≤ (x8_1 : Int) := of_decide_eq_true (by first | (with_reducible assumption) | assumption)
       have q101 : x8_1 < (l0.length : Int) := of_decide_eq_true (by first | (with_reducible assumption) | assumption)
       obtain ⟨ad101, e101, hx101_0⟩ := Kd.at_int HR0.out x8_1 p101 q101
       cases e101
       replace p101 := eq_true p101
       replace q101 := eq_true q101
       go_wp2
       go_ret
       exact ⟨by first | rfl | (simp; done) | (simp [*]; done), by repeat (first | exact Drawn0.refl _ | apply Drawn0.step)⟩
      ·rw [if_neg c6] at H
       have c6b0 : (a1 == (rd l0 x8_1)) = false := beq_eq_false_iff_ne.mpr c6
       have c6b1 : (a1 != (rd l0 x8_1)) = true := bne_iff_ne.mpr c6
       have H' := Aside0.mk H
       clear H
       have p101 : 0 ≤ (x8_1 : Int) := of_decide_eq_true (by first | (with_reducible assumption) | assumption)
       have q101 : x8_1 < (l0.length : Int) := of_decide_eq_true (by first | (with_reducible assumption) | assumption)
       obtain ⟨ad101, e101, hx101_0⟩ := Kd.at_int HR0.out x8_1 p101 q101
       cases e101
       replace p101 := eq_true p101
       replace q101 := eq_true q101
       go_wp2
       go_roundg k1
       case measure => have := HK1.out; omega
       case rel => exact ⟨(wrap64 (x8_1 + 1)), (by first | rfl | (simp; done) | (simp [*]; done)), H', ⟨by have := HK1.out; omega⟩, by repeat (first | exact Drawn0.refl _ | apply Drawn0.step)⟩
     ·rw [if_neg c5] at H
      exact absurd H (by simp)
    ·rw [if_neg c4] at H
     exact absurd H (by simp)
   ·rw [if_neg c3] at H
    have c3b0 : decide (x8_1 < (l0.length : Int)) = false := decide_eq_false c3
    clear c3
    obtain rfl := Option.some.inj H
    go_wp2
    go_ret
    exact ⟨by first | rfl | (simp; done) | (simp [*]; done), by repeat (first | exact Drawn0.refl _ | apply Drawn0.step)⟩
def slices_Contains_int_int.f (k : Nat) (l0 : List Int) (a1 : Int) : Option (Bool) := (slices_Index_int_int.f k l0 a1).bind fun t102 => (some (decide (t102 ≥ 0)))
set_option maxHeartbeats 8000000 in
set_option maxRecDepth 100000 in
theorem slices_Contains_int_int.calls (k : Nat) (A0 : Option Addr) (c0 : Nat) (l0 : List Int) (a1 : Int) (r : Bool) (w : World) (hr0 : Kd.C (Kd.int .i64) w A0 l0.length l0) (hc0 : l0.length ≤ c0) (h : slices_Contains_int_int.f k l0 a1 = some r) :
  Calls Try.prog 57 #[.slice A0 l0.length c0, .int .i64 a1] w fun e w' => e = .returned (.bool r) ∧ Drawn0 w w' := by
 have HR0 := Aside0.mk hr0
 have HC0 := Aside0.mk hc0
 clear hr0 hc0
 have H : ((slices_Index_int_int.f k l0 a1).bind fun t102 => (some (decide (t102 ≥ 0)))) = some r := h
 clear h
 replace H := Option.bind_eq_some_iff.mp H
 obtain ⟨t102, A30, H⟩ := H
 replace H : (some (decide (t102 ≥ 0))) = some r := H
 have A3 := Aside0.mk A30
 clear A30
 obtain rfl := Option.some.inj H
 go_enter Try.func57, Try.ntmps57
 go_wp2_with (first | ((with_reducible refine aE (f := 70) rfl ?_); refine bw (some 7) rfl rfl Try.func70 (by kernel_rfl) rfl #[.slice A0 l0.length c0, .int .i64 a1] rfl (by (try simp only [List.map_toArray, List.map_cons, List.map_nil]); first | done | rfl | (simp only [List.length_drop, List.length_take]; rfl)) ?_; (with_reducible refine (slices_Index_int_int.calls k _ _ l0 a1 t102 _ ?side1 ?side2 A3.out).mono ?_); (case side1 => repeat (first | exact HR0.out | (with_reducible refine Kd.C_alloc ?_ _) | (with_reducible refine Kd.C_drewN ?_ _) | (with_reducible refine Kd.C_drew ?_))); (case side2 => exact HC0.out); rintro e w' ⟨rfl, ⟨nd, rfl⟩⟩; refine ⟨_, rfl, ?_⟩))
 go_ret
 exact ⟨by first | rfl | (simp; done) | (simp [*]; done), by repeat (first | exact Drawn0.refl _ | apply Drawn0.step)⟩
mutual
def fastiref15_short.j0 : Nat → Bool → List (List Int) → List (S49) → Option (Bool)
 | 0, _, _, _ => none
 | k + 1, x16, cf, bq => if x16 = true then (some false) else (fastiref15_short.l0 k 0 cf bq)
def fastiref15_short.l0 : Nat → Int → List (List Int) → List (S49) → Option (Bool)
 | 0, _, _, _ => none
 | k + 1, x3, cf, bq => if x3 < (cf.length : Int) then (if 0 ≤ x3 then (if ((aJ cf x3).length : Int) > 16 then (some false) else (fastiref15_short.l0 k (wrap64 (x3 + 1)) cf bq)) else (none)) else (fastiref15_short.l1 k 0 cf bq)
def fastiref15_short.l1 : Nat → Int → List (List Int) → List (S49) → Option (Bool)
 | 0, _, _, _ => none
 | k + 1, x4, cf, bq => if x4 < (bq.length : Int) then (if 0 ≤ x4 then (if (((ag bq x4).f2).length : Int) > 12 then (fastiref15_short.j3 k x4 true cf bq ((ag bq x4).f0) ((ag bq x4).f1) ((ag bq x4).f2) ((ag bq x4).f3)) else (fastiref15_short.j3 k x4 (decide ((((ag bq x4).f3).length : Int) > 256)) cf bq ((ag bq x4).f0) ((ag bq x4).f1) ((ag bq x4).f2) ((ag bq x4).f3))) else (none)) else (some true)
def fastiref15_short.j3 : Nat → Int → Bool → List (List Int) → List (S49) → Int → Int → List Int → List (List Int) → Option (Bool)
 | 0, _, _, _, _, _, _, _, _ => none
 | k + 1, x4, x52, cf, bq, x165000, x165001, x165002, gj => if x52 = true then (some false) else (fastiref15_short.l2 k x4 0 cf bq x165000 x165001 x165002 gj)
def fastiref15_short.l2 : Nat → Int → Int → List (List Int) → List (S49) → Int → Int → List Int → List (List Int) → Option (Bool)
 | 0, _, _, _, _, _, _, _, _ => none
 | k + 1, x4, x6, cf, bq, x165000, x165001, x165002, gj => if x6 < (gj.length : Int) then (if 0 ≤ x6 then (if ((aJ gj x6).length : Int) > 12 then (some false) else (fastiref15_short.l2 k x4 (wrap64 (x6 + 1)) cf bq x165000 x165001 x165002 gj)) else (none)) else (fastiref15_short.l1 k (wrap64 (x4 + 1)) cf bq)
end
def fastiref15_short.f (k : Nat) (ai : List (List Int)) (af : List (S49)) : Option (Bool) := if (ai.length : Int) > 12 then (fastiref15_short.j0 k true ai af) else (fastiref15_short.j0 k (decide ((af.length : Int) > 64)) ai af)
set_option maxHeartbeats 8000000 in
set_option maxRecDepth 100000 in
theorem fastiref15_short.calls (k : Nat) (aC : Option Addr) (aA : Nat) (ai : List (List Int)) (aI : Option Addr) (au : Nat) (af : List (S49)) (r : Bool) (w : World) (bA : Kd.C (Kd.slice 3 (Kd.int .i64)) w aC ai.length ai) (bJ : ai.length ≤ aA) (bx : Kd.C k49 w aI af.length af) (bC : af.length ≤ au) (h : fastiref15_short.f k ai af = some r) :
  Calls Try.prog 29 #[.agg #[.slice aC ai.length aA, .slice aI af.length au]] w fun e w' => e = .returned (.bool r) ∧ Below w.heap.size w w' := by
 have hu25 := Try.underlying25
 have hu49 := Try.underlying49
 have bz := Aside0.mk bA
 have bG := Aside0.mk bJ
 clear bA bJ
 have br := Aside0.mk bx
 have bF := Aside0.mk bC
 clear bx bC
 have HB := Aside0.mk (Below.refl w.heap.size w)
 have H : (if (ai.length : Int) > 12 then (fastiref15_short.j0 k true ai af) else (fastiref15_short.j0 k (decide ((af.length : Int) > 64)) ai af)) = some r := h
 clear h
 have HC2 := Aside0.mk H
 clear H
 go_enter Try.func29, Try.ntmps29
 go_upto_region 1 with (first | ((with_reducible refine aK (N := 1) rfl ?_); (try (refine aW (by rfl) ?_; dsimp only)); refine av ?hg (N := 1) ?hd (cs := #[.slice aC ai.length aA, .slice aI af.length au]) (t := 25) ?hr ?_; (case hd => rfl); (case hg => rfl); (case hr => first | (go_simp; done) | (go_simp; rfl)); intro cB hg w3 hbox hb; have n0_ := Aside0.mk (aj (by repeat (first | (with_reducible first | exact HB.out | apply a6 | apply a4 | apply a5) | exact HB.out)) hb); have n1_ := Aside0.mk (hbox); have n2_ := Aside0.mk ((by rw [hg]; exact (ah (by repeat (first | (with_reducible first | exact HB.out | apply a6 | apply a4 | apply a5) | exact HB.out))) : w.heap.size ≤ cB)); have n3_ := Aside0.mk ((by rw [hg]; exact (ah (by repeat (first | (with_reducible first | exact HB.out | apply a6 | apply a4 | apply a5) | exact HB.out))) : w.heap.size ≤ cB)); clear HB; have HB := n0_; have bo := n1_; have GW161 := n2_; have dw := n3_; clear n0_ n1_ n2_ n3_; clear hb hbox hg))
 (try simp only [Act.put, List.setIfInBounds_toArray, List.set_cons_zero, List.set_cons_succ])
 go_cut [16] (fun v16 wc => ∃ (kq : Nat) (x16_1 : Bool), v16 = .bool x16_1 ∧ Aside0 (fastiref15_short.j0 kq x16_1 ai af = some r) ∧ Aside0 (kq ≤ k) ∧ Aside0 (wc.heap[cB]? = some (.cells #[(.slice aC ai.length aA), (.slice aI af.length au)] 25 (0, 0))) ∧ Aside0 (Below w.heap.size w wc))
 case first =>
  have H := HC2.out
  clear HC2
  by_cases c4 : (ai.length : Int) > 12
  ·rw [if_pos c4] at H
   have eb : decide (12 < (ai.length : Int)) = true := decide_eq_true c4
   have c4b1 : decide (12 < ai.length) = true := decide_eq_true (by omega)
   clear c4
   (first | rw [eb] | (simp only [aq, ar]; rw [eb]) | skip)
   have H' := Aside0.mk H
   clear H
   have dr : w3.cell? ⟨cB, 0, none⟩ = some (.slice aC ai.length aA) := (a7 bo.out 0).trans rfl
   have dt : w3.cell? ⟨cB, 1, none⟩ = some (.slice aI af.length au) := (a7 bo.out 1).trans rfl
   have du := a8 bo.out 0
   have dv := a8 bo.out 1
   go_wp2
   go_meet
   case rel => exact ⟨_, (true), (by first | rfl | (simp; done) | (simp [*]; done)), H', ⟨by first | omega | exact Nat.le_refl _⟩, ⟨by (with_reducible repeat (first | refine ab ?_ _ | refine ac ?_ | refine a9 ?_ _)); exact bo.out⟩, ⟨by repeat (first | (with_reducible first | exact HB.out | apply a6 | apply a4 | apply a5 | refine aa ?_ dw.out) | exact HB.out)⟩⟩
  ·rw [if_neg c4] at H
   have eb : decide (12 < (ai.length : Int)) = false := decide_eq_false c4
   have c4b1 : decide (12 < ai.length) = false := decide_eq_false (by omega)
   clear c4
   (first | rw [eb] | (simp only [aq, ar]; rw [eb]) | skip)
   have H' := Aside0.mk H
   clear H
   have eR : w3.cell? ⟨cB, 0, none⟩ = some (.slice aC ai.length aA) := (a7 bo.out 0).trans rfl
   have eT : w3.cell? ⟨cB, 1, none⟩ = some (.slice aI af.length au) := (a7 bo.out 1).trans rfl
   have eU := a8 bo.out 0
   have eV := a8 bo.out 1
   go_wp2
   go_meet
   case rel => exact ⟨_, (decide ((af.length : Int) > 64)), (by first | rfl | (simp; done) | (simp [*]; done)), H', ⟨by first | omega | exact Nat.le_refl _⟩, ⟨by (with_reducible repeat (first | refine ab ?_ _ | refine ac ?_ | refine a9 ?_ _)); exact bo.out⟩, ⟨by repeat (first | (with_reducible first | exact HB.out | apply a6 | apply a4 | apply a5 | refine aa ?_ dw.out) | exact HB.out)⟩⟩
 case rest =>
  clear HC2
  try clear c2; try clear p2; try clear c4; try clear eb; try clear c4b1; try clear dr; try clear dt; try clear eR; try clear eT; try clear du; try clear dv; try clear eU; try clear eV
  obtain ⟨kq, x16_1, rfl, HA, HJ1, bo, HB⟩ := hcut
  cases kq with
  | zero => exact absurd HA.out (by simp [fastiref15_short.j0])
  | succ kj1 =>
   have H := HA.out
   clear HA
   simp only [fastiref15_short.j0] at H
   by_cases c7 : x16_1 = true
   ·subst c7
    have H1 : (some false) = some r := by rw [if_pos rfl] at H; exact H
    clear H
    have H := H1
    clear H1
    obtain rfl := Option.some.inj H
    go_wp2
    go_ret
    exact ⟨by first | rfl | (simp [al, ak] <;> rfl) | (simp [*, al, ak] <;> rfl), by repeat (first | (with_reducible first | exact HB.out | apply a6 | apply a4 | apply a5 | refine aa ?_ dw.out) | exact HB.out)⟩
   ·replace c7 := Bool.eq_false_iff.mpr c7
    subst c7
    have H1 : (fastiref15_short.l0 kj1 0 ai af) = some r := by rw [if_neg (show ¬ (false = true) by decide)] at H; exact H
    clear H
    have H := H1
    clear H1
    have H' := Aside0.mk H
    clear H
    go_wp2
    go_loopg [3] kj1 (fun kq v3 w' => ∃ (x3_2 : Int), v3 = .int .i64 x3_2 ∧ Aside0 (fastiref15_short.l0 kq x3_2 ai af = some r) ∧ Aside0 (kq ≤ kj1) ∧ Aside0 (w'.heap[cB]? = some (.cells #[(.slice aC ai.length aA), (.slice aI af.length au)] 25 (0, 0))) ∧ Aside0 (Below w.heap.size w w'))
    case atStart => exact ⟨(0), (by first | rfl | (simp; done) | (simp [*]; done)), H', ⟨Nat.le_refl _⟩, ⟨by (with_reducible repeat (first | refine ab ?_ _ | refine ac ?_ | refine a9 ?_ _)); exact bo.out⟩, ⟨by repeat (first | (with_reducible first | exact HB.out | apply a6 | apply a4 | apply a5 | refine aa ?_ dw.out) | exact HB.out)⟩⟩
    case round =>
     clear H'
     try clear c2; try clear p2; try clear c4; try clear eb; try clear c4b1; try clear c7; try clear dr; try clear dt; try clear eR; try clear eT; try clear du; try clear dv; try clear eU; try clear eV
     obtain ⟨x3_2, rfl, HA, HK2, bo, HB⟩ := hrel
     cases gk with
     | zero => exact absurd HA.out (by simp [fastiref15_short.l0])
     | succ k2 =>
      have H := HA.out
      clear HA
      simp only [fastiref15_short.l0] at H
      by_cases c8 : x3_2 < (ai.length : Int)
      ·rw [if_pos c8] at H
       have c8b0 : decide (x3_2 < (ai.length : Int)) = true := decide_eq_true c8
       clear c8
       by_cases c9 : 0 ≤ x3_2
       ·rw [if_pos c9] at H
        have c9b0 : decide (0 ≤ x3_2) = true := decide_eq_true c9
        clear c9
        by_cases c10 : ((aJ ai x3_2).length : Int) > 16
        ·rw [if_pos c10] at H
         have c10b0 : decide (16 < ((aJ ai x3_2).length : Int)) = true := decide_eq_true c10
         have c10b1 : decide (16 < (aJ ai x3_2).length) = true := decide_eq_true (by omega)
         clear c10
         obtain rfl := Option.some.inj H
         have bS : wr.cell? ⟨cB, 0, none⟩ = some (.slice aC ai.length aA) := (a7 bo.out 0).trans rfl
         have bT : wr.cell? ⟨cB, 1, none⟩ = some (.slice aI af.length au) := (a7 bo.out 1).trans rfl
         have bU := a8 bo.out 0
         have bV := a8 bo.out 1
         have p162 : 0 ≤ (x3_2 : Int) := of_decide_eq_true (by first | (with_reducible assumption) | assumption)
         have q162 : x3_2 < (ai.length : Int) := of_decide_eq_true (by first | (with_reducible assumption) | assumption)
         obtain ⟨ad162, A162_0, c162_0, e162, cW, gl, gm⟩ := f5 bz.out x3_2 p162 q162
         cases e162
         replace cW := (HB.out.cell (World.block_lt_of_cell? w _ cW)).trans cW
         have HR162_0 := Aside0.mk gm
         have HC162_0 := Aside0.mk gl
         clear gm gl
         replace p162 := eq_true p162
         replace q162 := eq_true q162
         go_wp2
         go_ret
         exact ⟨by first | rfl | (simp [al, ak] <;> rfl) | (simp [*, al, ak] <;> rfl), by repeat (first | (with_reducible first | exact HB.out | apply a6 | apply a4 | apply a5 | refine aa ?_ dw.out) | exact HB.out)⟩
        ·rw [if_neg c10] at H
         have c10b0 : decide (16 < ((aJ ai x3_2).length : Int)) = false := decide_eq_false c10
         have c10b1 : decide (16 < (aJ ai x3_2).length) = false := decide_eq_false (by omega)
         clear c10
         have H' := Aside0.mk H
         clear H
         have dh : wr.cell? ⟨cB, 0, none⟩ = some (.slice aC ai.length aA) := (a7 bo.out 0).trans rfl
         have di : wr.cell? ⟨cB, 1, none⟩ = some (.slice aI af.length au) := (a7 bo.out 1).trans rfl
         have dj := a8 bo.out 0
         have dk := a8 bo.out 1
         have p162 : 0 ≤ (x3_2 : Int) := of_decide_eq_true (by first | (with_reducible assumption) | assumption)
         have q162 : x3_2 < (ai.length : Int) := of_decide_eq_true (by first | (with_reducible assumption) | assumption)
         obtain ⟨ad162, A162_0, c162_0, e162, cW, gl, gm⟩ := f5 bz.out x3_2 p162 q162
         cases e162
         replace cW := (HB.out.cell (World.block_lt_of_cell? w _ cW)).trans cW
         have HR162_0 := Aside0.mk gm
         have HC162_0 := Aside0.mk gl
         clear gm gl
         replace p162 := eq_true p162
         replace q162 := eq_true q162
         go_wp2
         go_roundg k2
         case measure => have := HJ1.out; have := HK2.out; omega
         case rel => exact ⟨(wrap64 (x3_2 + 1)), (by first | rfl | (simp; done) | (simp [*]; done)), H', ⟨by have := HJ1.out; have := HK2.out; omega⟩, ⟨by (with_reducible repeat (first | refine ab ?_ _ | refine ac ?_ | refine a9 ?_ _)); exact bo.out⟩, ⟨by repeat (first | (with_reducible first | exact HB.out | apply a6 | apply a4 | apply a5 | refine aa ?_ dw.out) | exact HB.out)⟩⟩
       ·rw [if_neg c9] at H
        exact absurd H (by simp)
      ·rw [if_neg c8] at H
       have c8b0 : decide (x3_2 < (ai.length : Int)) = false := decide_eq_false c8
       clear c8
       have H' := Aside0.mk H
       clear H
       have cX : wr.cell? ⟨cB, 0, none⟩ = some (.slice aC ai.length aA) := (a7 bo.out 0).trans rfl
       have cY : wr.cell? ⟨cB, 1, none⟩ = some (.slice aI af.length au) := (a7 bo.out 1).trans rfl
       have cZ := a8 bo.out 0
       have d3 := a8 bo.out 1
       go_wp2
       go_loopg [4] k2 (fun kq v4 w' => ∃ (x4_3 : Int), v4 = .int .i64 x4_3 ∧ Aside0 (fastiref15_short.l1 kq x4_3 ai af = some r) ∧ Aside0 (kq ≤ k2) ∧ Aside0 (w'.heap[cB]? = some (.cells #[(.slice aC ai.length aA), (.slice aI af.length au)] 25 (0, 0))) ∧ Aside0 (Below w.heap.size w w'))
       case atStart => exact ⟨(0), (by first | rfl | (simp; done) | (simp [*]; done)), H', ⟨Nat.le_refl _⟩, ⟨by (with_reducible repeat (first | refine ab ?_ _ | refine ac ?_ | refine a9 ?_ _)); exact bo.out⟩, ⟨by repeat (first | (with_reducible first | exact HB.out | apply a6 | apply a4 | apply a5 | refine aa ?_ dw.out) | exact HB.out)⟩⟩
       case round =>
        clear H'
        try clear c1; try clear p1; try clear q1; try clear hx1; try clear c2; try clear p2; try clear c4; try clear eb; try clear c4b1; try clear p6; try clear c7; try clear c8; try clear c8b0; try clear c9; try clear c9b0; try clear c10; try clear c10b0; try clear c10b1; try clear bS; try clear bT; try clear dh; try clear di; try clear cX; try clear cY; try clear dr; try clear dt; try clear eR; try clear eT; try clear bU; try clear bV; try clear dj; try clear dk; try clear cZ; try clear d3; try clear du; try clear dv; try clear eU; try clear eV; try clear cW; try clear p162; try clear q162
        obtain ⟨x4_3, rfl, HA, HK3, bo, HB⟩ := hrel
        cases gk with
        | zero => exact absurd HA.out (by simp [fastiref15_short.l1])
        | succ k3 =>
         have H := HA.out
         clear HA
         simp only [fastiref15_short.l1] at H
         by_cases c14 : x4_3 < (af.length : Int)
         ·rw [if_pos c14] at H
          have c14b0 : decide (x4_3 < (af.length : Int)) = true := decide_eq_true c14
          clear c14
          by_cases c15 : 0 ≤ x4_3
          ·rw [if_pos c15] at H
           have c15b0 : decide (0 ≤ x4_3) = true := decide_eq_true c15
           clear c15
           have HC16 := Aside0.mk H
           clear H
           have gn : wr.cell? ⟨cB, 0, none⟩ = some (.slice aC ai.length aA) := (a7 bo.out 0).trans rfl
           have gp : wr.cell? ⟨cB, 1, none⟩ = some (.slice aI af.length au) := (a7 bo.out 1).trans rfl
           have gt := a8 bo.out 0
           have gu := a8 bo.out 1
           have p163 : 0 ≤ (x4_3 : Int) := of_decide_eq_true (by first | (with_reducible assumption) | assumption)
           have q163 : x4_3 < (af.length : Int) := of_decide_eq_true (by first | (with_reducible assumption) | assumption)
           obtain ⟨ad163, gv, gw, A163_3, c163_3, e163, gy, gz, gA, gB, hl163_2, hi163_2, hl163_3, hi163_3⟩ := dH br.out x4_3 p163 q163
           cases e163
           replace gy := (HB.out.cell (World.block_lt_of_cell? w _ gy)).trans gy
           replace gz := (HB.out.cell (World.block_lt_of_cell? w _ gz)).trans gz
           replace gA := (HB.out.cell (World.block_lt_of_cell? w _ gA)).trans gA
           replace gB := (HB.out.cell (World.block_lt_of_cell? w _ gB)).trans gB
           have HR163_2 := Aside0.mk hi163_2
           have HC163_2 := Aside0.mk hl163_2
           clear hi163_2 hl163_2
           have HR163_3 := Aside0.mk hi163_3
           have HC163_3 := Aside0.mk hl163_3
           clear hi163_3 hl163_3
           replace p163 := eq_true p163
           replace q163 := eq_true q163
           go_upto_region 12 with (first | ((with_reducible refine aK (N := 5) rfl ?_); (try (refine aW (by rfl) ?_; dsimp only)); refine av ?hg (N := 5) ?hd (cs := #[.int .i64 0, .int .i64 0, .slice none 0 0, .slice none 0 0]) (t := 49) ?hr ?_; (case hd => rfl); (case hg => rfl); (case hr => first | (go_simp; done) | (go_simp; rfl)); intro bZ hg w18 hbox hb; have n0_ := Aside0.mk (ae (g := cB) (o := .cells #[.slice aC ai.length aA, .slice (some ad163) af.length au] 25 (0, 0)) (by (with_reducible repeat (first | refine ab ?_ _ | refine ac ?_ | refine a9 ?_ _)); exact bo.out) hb); have n1_ := Aside0.mk (aj (by repeat (first | (with_reducible first | exact HB.out | apply a6 | apply a4 | apply a5 | refine aa ?_ dw.out) | exact HB.out)) hb); have n2_ := Aside0.mk (hbox); have n3_ := Aside0.mk ((by rw [hg]; exact (ah (by repeat (first | (with_reducible first | exact HB.out | apply a6 | apply a4 | apply a5 | refine aa ?_ dw.out) | exact HB.out))) : w.heap.size ≤ bZ)); have n4_ := Aside0.mk ((by rw [hg]; exact (ah (by repeat (first | (with_reducible first | exact HB.out | apply a6 | apply a4 | apply a5 | refine aa ?_ dw.out) | exact HB.out))) : w.heap.size ≤ bZ)); have n5_ := Aside0.mk ((by rw [hg]; exact Nat.ne_of_lt (aZ (g := cB) (o := .cells #[.slice aC ai.length aA, .slice (some ad163) af.length au] 25 (0, 0)) (by (with_reducible repeat (first | refine ab ?_ _ | refine ac ?_ | refine a9 ?_ _)); exact bo.out)) : cB ≠ bZ)); have n6_ := Aside0.mk ((by rw [hg]; exact Nat.ne_of_gt (aZ (g := cB) (o := .cells #[.slice aC ai.length aA, .slice (some ad163) af.length au] 25 (0, 0)) (by (with_reducible repeat (first | refine ab ?_ _ | refine ac ?_ | refine a9 ?_ _)); exact bo.out)) : bZ ≠ cB)); clear bo; clear HB; have bo := n0_; have HB := n1_; have bm := n2_; have GW164 := n3_; have GE164 := n4_; have NB161_164 := n5_; have NB164_161 := n6_; clear n0_ n1_ n2_ n3_ n4_ n5_ n6_; clear hb hbox hg; have hnb19 := NB164_161.out; have hnc19 := NB161_164.out; have hcz20_0 : w18.cell? ⟨bZ, 0, none⟩ = some (.int .i64 0) := (a7 bm.out 0).trans rfl; have hcz20_1 : w18.cell? ⟨bZ, 1, none⟩ = some (.int .i64 0) := (a7 bm.out 1).trans rfl; have hcz20_2 : w18.cell? ⟨bZ, 2, none⟩ = some (.slice none 0 0) := (a7 bm.out 2).trans rfl; have hcz20_3 : w18.cell? ⟨bZ, 3, none⟩ = some (.slice none 0 0) := (a7 bm.out 3).trans rfl; have hfz20_0 := a8 bm.out 0; have hfz20_1 := a8 bm.out 1; have hfz20_2 := a8 bm.out 2; have hfz20_3 := a8 bm.out 3))
           (try simp only [Act.put, List.setIfInBounds_toArray, List.set_cons_zero, List.set_cons_succ])
           go_cut [52] (fun v52 wc => ∃ (kq : Nat) (x52_15 : Bool), v52 = .bool x52_15 ∧ Aside0 (fastiref15_short.j3 kq x4_3 x52_15 ai af ((ag af x4_3).f0) ((ag af x4_3).f1) ((ag af x4_3).f2) ((ag af x4_3).f3) = some r) ∧ Aside0 (kq ≤ k3) ∧ Aside0 (wc.heap[cB]? = some (.cells #[(.slice aC ai.length aA), (.slice (some ad163) af.length au)] 25 (0, 0))) ∧ Aside0 (wc.heap[bZ]? = some (.cells #[.int .i64 ((ag af x4_3).f0), .int .i64 ((ag af x4_3).f1), (.slice gv ((ag af x4_3).f2).length gw), (.slice A163_3 ((ag af x4_3).f3).length c163_3)] 49 (0, 0))) ∧ Aside0 (Below w.heap.size w wc))
           case first =>
            have H := HC16.out
            clear HC16
            by_cases c21 : (((ag af x4_3).f2).length : Int) > 12
            ·rw [if_pos c21] at H
             have gC : decide (12 < (((ag af x4_3).f2).length : Int)) = true := decide_eq_true c21
             have c21b1 : decide (12 < ((ag af x4_3).f2).length) = true := decide_eq_true (by omega)
             clear c21
             (first | rw [gC] | (simp only [aq, ar]; rw [gC]) | skip)
             have H' := Aside0.mk H
             clear H
             have hnb22 := NB164_161.out
             have hnc22 := NB161_164.out
             have hcz23_0 : w18.cell? ⟨bZ, 0, none⟩ = some (.int .i64 0) := (a7 bm.out 0).trans rfl
             have hcz23_1 : w18.cell? ⟨bZ, 1, none⟩ = some (.int .i64 0) := (a7 bm.out 1).trans rfl
             have hcz23_2 : w18.cell? ⟨bZ, 2, none⟩ = some (.slice none 0 0) := (a7 bm.out 2).trans rfl
             have hcz23_3 : w18.cell? ⟨bZ, 3, none⟩ = some (.slice none 0 0) := (a7 bm.out 3).trans rfl
             have hfz23_0 := a8 bm.out 0
             have hfz23_1 := a8 bm.out 1
             have hfz23_2 := a8 bm.out 2
             have hfz23_3 := a8 bm.out 3
             go_wp2
             go_meet
             case rel => exact ⟨_, (true), (by first | rfl | (simp; done) | (simp [*]; done)), H', ⟨by have := HJ1.out; have := HK2.out; have := HK3.out; first | omega | exact Nat.le_refl _⟩, ⟨by (with_reducible repeat (first | refine ab ?_ _ | refine ac ?_ | refine a9 ?_ _)); refine aU ?_ NB161_164.out _; (with_reducible repeat (first | refine ab ?_ _ | refine ac ?_ | refine a9 ?_ _)); refine aU ?_ NB161_164.out _; (with_reducible repeat (first | refine ab ?_ _ | refine ac ?_ | refine a9 ?_ _)); refine aU ?_ NB161_164.out _; (with_reducible repeat (first | refine ab ?_ _ | refine ac ?_ | refine a9 ?_ _)); refine aU ?_ NB161_164.out _; (with_reducible repeat (first | refine ab ?_ _ | refine ac ?_ | refine a9 ?_ _)); exact bo.out⟩, ⟨by (with_reducible repeat (first | refine ab ?_ _ | refine ac ?_ | refine a9 ?_ _)); refine aT (cs := #[.int .i64 ((ag af x4_3).f0), .int .i64 ((ag af x4_3).f1), .slice gv ((ag af x4_3).f2).length gw, .slice none 0 0]) ?_ 3 _ rfl; (with_reducible repeat (first | refine ab ?_ _ | refine ac ?_ | refine a9 ?_ _)); refine aT (cs := #[.int .i64 ((ag af x4_3).f0), .int .i64 ((ag af x4_3).f1), .slice none 0 0, .slice none 0 0]) ?_ 2 _ rfl; (with_reducible repeat (first | refine ab ?_ _ | refine ac ?_ | refine a9 ?_ _)); refine aT (cs := #[.int .i64 ((ag af x4_3).f0), .int .i64 0, .slice none 0 0, .slice none 0 0]) ?_ 1 _ rfl; (with_reducible repeat (first | refine ab ?_ _ | refine ac ?_ | refine a9 ?_ _)); refine aT (cs := #[.int .i64 0, .int .i64 0, .slice none 0 0, .slice none 0 0]) ?_ 0 _ rfl; (with_reducible repeat (first | refine ab ?_ _ | refine ac ?_ | refine a9 ?_ _)); exact bm.out⟩, ⟨by repeat (first | (with_reducible first | exact HB.out | apply a6 | apply a4 | apply a5 | refine aa ?_ dw.out | refine aa ?_ GE164.out) | exact HB.out)⟩⟩
            ·rw [if_neg c21] at H
             have gC : decide (12 < (((ag af x4_3).f2).length : Int)) = false := decide_eq_false c21
             have c21b1 : decide (12 < ((ag af x4_3).f2).length) = false := decide_eq_false (by omega)
             clear c21
             (first | rw [gC] | (simp only [aq, ar]; rw [gC]) | skip)
             have H' := Aside0.mk H
             clear H
             have hnb24 := NB164_161.out
             have hnc24 := NB161_164.out
             have hcz25_0 : w18.cell? ⟨bZ, 0, none⟩ = some (.int .i64 0) := (a7 bm.out 0).trans rfl
             have hcz25_1 : w18.cell? ⟨bZ, 1, none⟩ = some (.int .i64 0) := (a7 bm.out 1).trans rfl
             have hcz25_2 : w18.cell? ⟨bZ, 2, none⟩ = some (.slice none 0 0) := (a7 bm.out 2).trans rfl
             have hcz25_3 : w18.cell? ⟨bZ, 3, none⟩ = some (.slice none 0 0) := (a7 bm.out 3).trans rfl
             have hfz25_0 := a8 bm.out 0
             have hfz25_1 := a8 bm.out 1
             have hfz25_2 := a8 bm.out 2
             have hfz25_3 := a8 bm.out 3
             go_wp2
             go_meet
             case rel => exact ⟨_, (decide ((((ag af x4_3).f3).length : Int) > 256)), (by first | rfl | (simp; done) | (simp [*]; done)), H', ⟨by have := HJ1.out; have := HK2.out; have := HK3.out; first | omega | exact Nat.le_refl _⟩, ⟨by (with_reducible repeat (first | refine ab ?_ _ | refine ac ?_ | refine a9 ?_ _)); refine aU ?_ NB161_164.out _; (with_reducible repeat (first | refine ab ?_ _ | refine ac ?_ | refine a9 ?_ _)); refine aU ?_ NB161_164.out _; (with_reducible repeat (first | refine ab ?_ _ | refine ac ?_ | refine a9 ?_ _)); refine aU ?_ NB161_164.out _; (with_reducible repeat (first | refine ab ?_ _ | refine ac ?_ | refine a9 ?_ _)); refine aU ?_ NB161_164.out _; (with_reducible repeat (first | refine ab ?_ _ | refine ac ?_ | refine a9 ?_ _)); exact bo.out⟩, ⟨by (with_reducible repeat (first | refine ab ?_ _ | refine ac ?_ | refine a9 ?_ _)); refine aT (cs := #[.int .i64 ((ag af x4_3).f0), .int .i64 ((ag af x4_3).f1), .slice gv ((ag af x4_3).f2).length gw, .slice none 0 0]) ?_ 3 _ rfl; (with_reducible repeat (first | refine ab ?_ _ | refine ac ?_ | refine a9 ?_ _)); refine aT (cs := #[.int .i64 ((ag af x4_3).f0), .int .i64 ((ag af x4_3).f1), .slice none 0 0, .slice none 0 0]) ?_ 2 _ rfl; (with_reducible repeat (first | refine ab ?_ _ | refine ac ?_ | refine a9 ?_ _)); refine aT (cs := #[.int .i64 ((ag af x4_3).f0), .int .i64 0, .slice none 0 0, .slice none 0 0]) ?_ 1 _ rfl; (with_reducible repeat (first | refine ab ?_ _ | refine ac ?_ | refine a9 ?_ _)); refine aT (cs := #[.int .i64 0, .int .i64 0, .slice none 0 0, .slice none 0 0]) ?_ 0 _ rfl; (with_reducible repeat (first | refine ab ?_ _ | refine ac ?_ | refine a9 ?_ _)); exact bm.out⟩, ⟨by repeat (first | (with_reducible first | exact HB.out | apply a6 | apply a4 | apply a5 | refine aa ?_ dw.out | refine aa ?_ GE164.out) | exact HB.out)⟩⟩
           case rest =>
            clear HC16
            try clear c1; try clear p1; try clear q1; try clear hx1; try clear c2; try clear p2; try clear c4; try clear eb; try clear c4b1; try clear p6; try clear c7; try clear c8; try clear c8b0; try clear c9; try clear c9b0; try clear c10; try clear c10b0; try clear c10b1; try clear c14; try clear c14b0; try clear c15; try clear c15b0; try clear c16; try clear p16; try clear q16; try clear hx16; try clear c19; try clear c21; try clear gC; try clear c21b1; try clear c22; try clear c24; try clear bS; try clear bT; try clear dh; try clear di; try clear cX; try clear cY; try clear gn; try clear gp; try clear hcz20_0; try clear hcz20_1; try clear hcz20_2; try clear hcz20_3; try clear hcz23_0; try clear hcz23_1; try clear hcz23_2; try clear hcz23_3; try clear hcz25_0; try clear hcz25_1; try clear hcz25_2; try clear hcz25_3; try clear dr; try clear dt; try clear eR; try clear eT; try clear bU; try clear bV; try clear dj; try clear dk; try clear cZ; try clear d3; try clear gt; try clear gu; try clear hfz20_0; try clear hfz20_1; try clear hfz20_2; try clear hfz20_3; try clear hfz23_0; try clear hfz23_1; try clear hfz23_2; try clear hfz23_3; try clear hfz25_0; try clear hfz25_1; try clear hfz25_2; try clear hfz25_3; try clear du; try clear dv; try clear eU; try clear eV; try clear cW; try clear gy; try clear gz; try clear gA; try clear gB; try clear p162; try clear p163; try clear q162; try clear q163
            obtain ⟨kq, x52_15, rfl, HA, HJ15, bo, bm, HB⟩ := hcut
            cases kq with
            | zero => exact absurd HA.out (by simp [fastiref15_short.j3])
            | succ kj15 =>
             have H := HA.out
             clear HA
             simp only [fastiref15_short.j3] at H
             by_cases c26 : x52_15 = true
             ·subst c26
              have H1 : (some false) = some r := by rw [if_pos rfl] at H; exact H
              clear H
              have H := H1
              clear H1
              obtain rfl := Option.some.inj H
              go_wp2
              go_ret
              exact ⟨by first | rfl | (simp [al, ak] <;> rfl) | (simp [*, al, ak] <;> rfl), by repeat (first | (with_reducible first | exact HB.out | apply a6 | apply a4 | apply a5 | refine aa ?_ dw.out | refine aa ?_ GE164.out) | exact HB.out)⟩
             ·replace c26 := Bool.eq_false_iff.mpr c26
              subst c26
              have H1 : (fastiref15_short.l2 kj15 x4_3 0 ai af ((ag af x4_3).f0) ((ag af x4_3).f1) ((ag af x4_3).f2) ((ag af x4_3).f3)) = some r := by rw [if_neg (show ¬ (false = true) by decide)] at H; exact H
              clear H
              have H := H1
              clear H1
              have H' := Aside0.mk H
              clear H
              go_wp2
              go_loopg [6] kj15 (fun kq v6 w' => ∃ (x6_5 : Int), v6 = .int .i64 x6_5 ∧ Aside0 (fastiref15_short.l2 kq x4_3 x6_5 ai af ((ag af x4_3).f0) ((ag af x4_3).f1) ((ag af x4_3).f2) ((ag af x4_3).f3) = some r) ∧ Aside0 (kq ≤ kj15) ∧ Aside0 (w'.heap[cB]? = some (.cells #[(.slice aC ai.length aA), (.slice (some ad163) af.length au)] 25 (0, 0))) ∧ Aside0 (w'.heap[bZ]? = some (.cells #[.int .i64 ((ag af x4_3).f0), .int .i64 ((ag af x4_3).f1), (.slice gv ((ag af x4_3).f2).length gw), (.slice A163_3 ((ag af x4_3).f3).length c163_3)] 49 (0, 0))) ∧ Aside0 (Below w.heap.size w w'))
              case atStart => exact ⟨(0), (by first | rfl | (simp; done) | (simp [*]; done)), H', ⟨Nat.le_refl _⟩, ⟨by (with_reducible repeat (first | refine ab ?_ _ | refine ac ?_ | refine a9 ?_ _)); exact bo.out⟩, ⟨by (with_reducible repeat (first | refine ab ?_ _ | refine ac ?_ | refine a9 ?_ _)); exact bm.out⟩, ⟨by repeat (first | (with_reducible first | exact HB.out | apply a6 | apply a4 | apply a5 | refine aa ?_ dw.out | refine aa ?_ GE164.out) | exact HB.out)⟩⟩
              case round =>
               clear H'
               try clear c1; try clear p1; try clear q1; try clear hx1; try clear c2; try clear p2; try clear c4; try clear eb; try clear c4b1; try clear p6; try clear c7; try clear c8; try clear c8b0; try clear c9; try clear c9b0; try clear c10; try clear c10b0; try clear c10b1; try clear c14; try clear c14b0; try clear c15; try clear c15b0; try clear c16; try clear p16; try clear q16; try clear hx16; try clear c19; try clear c21; try clear gC; try clear c21b1; try clear c22; try clear c24; try clear c26; try clear bS; try clear bT; try clear dh; try clear di; try clear cX; try clear cY; try clear gn; try clear gp; try clear hcz20_0; try clear hcz20_1; try clear hcz20_2; try clear hcz20_3; try clear hcz23_0; try clear hcz23_1; try clear hcz23_2; try clear hcz23_3; try clear hcz25_0; try clear hcz25_1; try clear hcz25_2; try clear hcz25_3; try clear dr; try clear dt; try clear eR; try clear eT; try clear bU; try clear bV; try clear dj; try clear dk; try clear cZ; try clear d3; try clear gt; try clear gu; try clear hfz20_0; try clear hfz20_1; try clear hfz20_2; try clear hfz20_3; try clear hfz23_0; try clear hfz23_1; try clear hfz23_2; try clear hfz23_3; try clear hfz25_0; try clear hfz25_1; try clear hfz25_2; try clear hfz25_3; try clear du; try clear dv; try clear eU; try clear eV; try clear cW; try clear gy; try clear gz; try clear gA; try clear gB; try clear p162; try clear p163; try clear q162; try clear q163
               obtain ⟨x6_5, rfl, HA, HK5, bo, bm, HB⟩ := hrel
               cases gk with
               | zero => exact absurd HA.out (by simp [fastiref15_short.l2])
               | succ k5 =>
                have H := HA.out
                clear HA
                simp only [fastiref15_short.l2] at H
                by_cases c27 : x6_5 < (((ag af x4_3).f3).length : Int)
                ·rw [if_pos c27] at H
                 have c27b0 : decide (x6_5 < (((ag af x4_3).f3).length : Int)) = true := decide_eq_true c27
                 clear c27
                 by_cases c28 : 0 ≤ x6_5
                 ·rw [if_pos c28] at H
                  have c28b0 : decide (0 ≤ x6_5) = true := decide_eq_true c28
                  clear c28
                  by_cases c29 : ((aJ ((ag af x4_3).f3) x6_5).length : Int) > 12
                  ·rw [if_pos c29] at H
                   have c29b0 : decide (12 < ((aJ ((ag af x4_3).f3) x6_5).length : Int)) = true := decide_eq_true c29
                   have c29b1 : decide (12 < (aJ ((ag af x4_3).f3) x6_5).length) = true := decide_eq_true (by omega)
                   clear c29
                   obtain rfl := Option.some.inj H
                   have hnb30 := NB164_161.out
                   have hnc30 := NB161_164.out
                   have hcz31_0 : wr.cell? ⟨bZ, 0, none⟩ = some (.int .i64 ((ag af x4_3).f0)) := (a7 bm.out 0).trans rfl
                   have hcz31_1 : wr.cell? ⟨bZ, 1, none⟩ = some (.int .i64 ((ag af x4_3).f1)) := (a7 bm.out 1).trans rfl
                   have hcz31_2 : wr.cell? ⟨bZ, 2, none⟩ = some (.slice gv ((ag af x4_3).f2).length gw) := (a7 bm.out 2).trans rfl
                   have hcz31_3 : wr.cell? ⟨bZ, 3, none⟩ = some (.slice A163_3 ((ag af x4_3).f3).length c163_3) := (a7 bm.out 3).trans rfl
                   have hfz31_0 := a8 bm.out 0
                   have hfz31_1 := a8 bm.out 1
                   have hfz31_2 := a8 bm.out 2
                   have hfz31_3 := a8 bm.out 3
                   have p165 : 0 ≤ (x6_5 : Int) := of_decide_eq_true (by first | (with_reducible assumption) | assumption)
                   have q165 : x6_5 < (((ag af x4_3).f3).length : Int) := of_decide_eq_true (by first | (with_reducible assumption) | assumption)
                   obtain ⟨ad165, A165_0, c165_0, e165, ec, gD, gE⟩ := f5 HR163_3.out x6_5 p165 q165
                   cases e165
                   replace ec := (HB.out.cell (World.block_lt_of_cell? w _ ec)).trans ec
                   have HR165_0 := Aside0.mk gE
                   have HC165_0 := Aside0.mk gD
                   clear gE gD
                   replace p165 := eq_true p165
                   replace q165 := eq_true q165
                   go_wp2
                   go_ret
                   exact ⟨by first | rfl | (simp [al, ak] <;> rfl) | (simp [*, al, ak] <;> rfl), by repeat (first | (with_reducible first | exact HB.out | apply a6 | apply a4 | apply a5 | refine aa ?_ dw.out | refine aa ?_ GE164.out) | exact HB.out)⟩
                  ·rw [if_neg c29] at H
                   have c29b0 : decide (12 < ((aJ ((ag af x4_3).f3) x6_5).length : Int)) = false := decide_eq_false c29
                   have c29b1 : decide (12 < (aJ ((ag af x4_3).f3) x6_5).length) = false := decide_eq_false (by omega)
                   clear c29
                   have H' := Aside0.mk H
                   clear H
                   have hnb32 := NB164_161.out
                   have hnc32 := NB161_164.out
                   have hcz33_0 : wr.cell? ⟨bZ, 0, none⟩ = some (.int .i64 ((ag af x4_3).f0)) := (a7 bm.out 0).trans rfl
                   have hcz33_1 : wr.cell? ⟨bZ, 1, none⟩ = some (.int .i64 ((ag af x4_3).f1)) := (a7 bm.out 1).trans rfl
                   have hcz33_2 : wr.cell? ⟨bZ, 2, none⟩ = some (.slice gv ((ag af x4_3).f2).length gw) := (a7 bm.out 2).trans rfl
                   have hcz33_3 : wr.cell? ⟨bZ, 3, none⟩ = some (.slice A163_3 ((ag af x4_3).f3).length c163_3) := (a7 bm.out 3).trans rfl
                   have hfz33_0 := a8 bm.out 0
                   have hfz33_1 := a8 bm.out 1
                   have hfz33_2 := a8 bm.out 2
                   have hfz33_3 := a8 bm.out 3
                   have p165 : 0 ≤ (x6_5 : Int) := of_decide_eq_true (by first | (with_reducible assumption) | assumption)
                   have q165 : x6_5 < (((ag af x4_3).f3).length : Int) := of_decide_eq_true (by first | (with_reducible assumption) | assumption)
                   obtain ⟨ad165, A165_0, c165_0, e165, ec, gD, gE⟩ := f5 HR163_3.out x6_5 p165 q165
                   cases e165
                   replace ec := (HB.out.cell (World.block_lt_of_cell? w _ ec)).trans ec
                   have HR165_0 := Aside0.mk gE
                   have HC165_0 := Aside0.mk gD
                   clear gE gD
                   replace p165 := eq_true p165
                   replace q165 := eq_true q165
                   go_wp2
                   go_roundg k5
                   case measure => have := HJ1.out; have := HK2.out; have := HK3.out; have := HJ15.out; have := HK5.out; omega
                   case rel => exact ⟨(wrap64 (x6_5 + 1)), (by first | rfl | (simp; done) | (simp [*]; done)), H', ⟨by have := HJ1.out; have := HK2.out; have := HK3.out; have := HJ15.out; have := HK5.out; omega⟩, ⟨by (with_reducible repeat (first | refine ab ?_ _ | refine ac ?_ | refine a9 ?_ _)); exact bo.out⟩, ⟨by (with_reducible repeat (first | refine ab ?_ _ | refine ac ?_ | refine a9 ?_ _)); exact bm.out⟩, ⟨by repeat (first | (with_reducible first | exact HB.out | apply a6 | apply a4 | apply a5 | refine aa ?_ dw.out | refine aa ?_ GE164.out) | exact HB.out)⟩⟩
                 ·rw [if_neg c28] at H
                  exact absurd H (by simp)
                ·rw [if_neg c27] at H
                 have c27b0 : decide (x6_5 < (((ag af x4_3).f3).length : Int)) = false := decide_eq_false c27
                 clear c27
                 have H' := Aside0.mk H
                 clear H
                 have hnb34 := NB164_161.out
                 have hnc34 := NB161_164.out
                 have hcz35_0 : wr.cell? ⟨bZ, 0, none⟩ = some (.int .i64 ((ag af x4_3).f0)) := (a7 bm.out 0).trans rfl
                 have hcz35_1 : wr.cell? ⟨bZ, 1, none⟩ = some (.int .i64 ((ag af x4_3).f1)) := (a7 bm.out 1).trans rfl
                 have hcz35_2 : wr.cell? ⟨bZ, 2, none⟩ = some (.slice gv ((ag af x4_3).f2).length gw) := (a7 bm.out 2).trans rfl
                 have hcz35_3 : wr.cell? ⟨bZ, 3, none⟩ = some (.slice A163_3 ((ag af x4_3).f3).length c163_3) := (a7 bm.out 3).trans rfl
                 have hfz35_0 := a8 bm.out 0
                 have hfz35_1 := a8 bm.out 1
                 have hfz35_2 := a8 bm.out 2
                 have hfz35_3 := a8 bm.out 3
                 go_wp2
                 go_roundg k5
                 case measure => have := HJ1.out; have := HK2.out; have := HK3.out; have := HJ15.out; have := HK5.out; omega
                 case rel => exact ⟨(wrap64 (x4_3 + 1)), (by first | rfl | (simp; done) | (simp [*]; done)), H', ⟨by have := HJ1.out; have := HK2.out; have := HK3.out; have := HJ15.out; have := HK5.out; omega⟩, ⟨by (with_reducible repeat (first | refine ab ?_ _ | refine ac ?_ | refine a9 ?_ _)); exact bo.out⟩, ⟨by repeat (first | (with_reducible first | exact HB.out | apply a6 | apply a4 | apply a5 | refine aa ?_ dw.out | refine aa ?_ GE164.out) | exact HB.out)⟩⟩
          ·rw [if_neg c15] at H
           exact absurd H (by simp)
         ·rw [if_neg c14] at H
          have c14b0 : decide (x4_3 < (af.length : Int)) = false := decide_eq_false c14
          clear c14
          obtain rfl := Option.some.inj H
          have hcz36_0 : wr.cell? ⟨cB, 0, none⟩ = some (.slice aC ai.length aA) := (a7 bo.out 0).trans rfl
          have hcz36_1 : wr.cell? ⟨cB, 1, none⟩ = some (.slice aI af.length au) := (a7 bo.out 1).trans rfl
          have hfz36_0 := a8 bo.out 0
          have hfz36_1 := a8 bo.out 1
          go_wp2
          go_ret
          exact ⟨by first | rfl | (simp [al, ak] <;> rfl) | (simp [*, al, ak] <;> rfl), by repeat (first | (with_reducible first | exact HB.out | apply a6 | apply a4 | apply a5 | refine aa ?_ dw.out) | exact HB.out)⟩
def fastiref15_Tries.l0 : Nat → Int → Int → List (List Int) → List (S49) → Option (Int)
 | 0, _, _, _, _ => none
 | k + 1, x3, x4, x167000, x167001 => if x4 < (x167000.length : Int) then (if x3 ≤ 65536 then (if 0 ≤ x4 then (fastiref15_Tries.l0 k (wrap64 (x3 * ((aJ x167000 x4).length : Int))) (wrap64 (x4 + 1)) x167000 x167001) else (none)) else (some x3)) else (some x3)
def fastiref15_Tries.f (k : Nat) (ai : List (List Int)) (af : List (S49)) : Option (Int) := fastiref15_Tries.l0 k 1 0 ai af
set_option maxHeartbeats 8000000 in
set_option maxRecDepth 100000 in
theorem fastiref15_Tries.calls (k : Nat) (aC : Option Addr) (aA : Nat) (ai : List (List Int)) (aI : Option Addr) (au : Nat) (af : List (S49)) (r : Int) (w : World) (bA : Kd.C (Kd.slice 3 (Kd.int .i64)) w aC ai.length ai) (bJ : ai.length ≤ aA) (bx : Kd.C k49 w aI af.length af) (bC : af.length ≤ au) (h : fastiref15_Tries.f k ai af = some r) :
  Calls Try.prog 30 #[.agg #[.slice aC ai.length aA, .slice aI af.length au]] w fun e w' => e = .returned (.int .i64 r) ∧ Below w.heap.size w w' := by
 have hu25 := Try.underlying25
 have bz := Aside0.mk bA
 have bG := Aside0.mk bJ
 clear bA bJ
 have br := Aside0.mk bx
 have bF := Aside0.mk bC
 clear bx bC
 have HB := Aside0.mk (Below.refl w.heap.size w)
 have H : (fastiref15_Tries.l0 k 1 0 ai af) = some r := h
 clear h
 have H' := Aside0.mk H
 clear H
 go_enter Try.func30, Try.ntmps30
 go_wp2_with (first | ((with_reducible refine aK (N := 1) rfl ?_); refine av ?hg (N := 1) ?hd (cs := #[.slice aC ai.length aA, .slice aI af.length au]) (t := 25) ?hr ?_; (case hd => rfl); (case hg => rfl); (case hr => first | (go_simp; done) | (go_simp; rfl)); intro gb166 hg w2 hbox hb; have n0_ := Aside0.mk (aj (by repeat (first | (with_reducible first | exact HB.out | apply a6 | apply a4 | apply a5) | exact HB.out)) hb); have n1_ := Aside0.mk (hbox); have n2_ := Aside0.mk ((by rw [hg]; exact (ah (by repeat (first | (with_reducible first | exact HB.out | apply a6 | apply a4 | apply a5) | exact HB.out))) : w.heap.size ≤ gb166)); have n3_ := Aside0.mk ((by rw [hg]; exact (ah (by repeat (first | (with_reducible first | exact HB.out | apply a6 | apply a4 | apply a5) | exact HB.out))) : w.heap.size ≤ gb166)); clear HB; have HB := n0_; have ed := n1_; have GW166 := n2_; have GE166 := n3_; clear n0_ n1_ n2_ n3_; clear hb hbox hg))
 go_loopg [3, 4] k (fun kq v3 v4 w' => ∃ (x3_1 : Int) (x4_1 : Int), v3 = .int .i64 x3_1 ∧ v4 = .int .i64 x4_1 ∧ Aside0 (fastiref15_Tries.l0 kq x3_1 x4_1 ai af = some r) ∧ Aside0 (kq ≤ k) ∧ Aside0 (w'.heap[gb166]? = some (.cells #[(.slice aC ai.length aA), (.slice aI af.length au)] 25 (0, 0))) ∧ Aside0 (Below w.heap.size w w'))
 case atStart => exact ⟨(1), (0), (by first | rfl | (simp; done) | (simp [*]; done)), (by first | rfl | (simp; done) | (simp [*]; done)), H', ⟨Nat.le_refl _⟩, ⟨by (with_reducible repeat (first | refine ab ?_ _ | refine ac ?_ | refine a9 ?_ _)); exact ed.out⟩, ⟨by repeat (first | (with_reducible first | exact HB.out | apply a6 | apply a4 | apply a5 | refine aa ?_ GE166.out) | exact HB.out)⟩⟩
 case round =>
  clear H'
  try clear p2
  obtain ⟨x3_1, x4_1, rfl, rfl, HA, HK1, ed, HB⟩ := hrel
  cases gk with
  | zero => exact absurd HA.out (by simp [fastiref15_Tries.l0])
  | succ k1 =>
   have H := HA.out
   clear HA
   simp only [fastiref15_Tries.l0] at H
   by_cases c3 : x4_1 < (ai.length : Int)
   ·rw [if_pos c3] at H
    have c3b0 : decide (x4_1 < (ai.length : Int)) = true := decide_eq_true c3
    clear c3
    by_cases c4 : x3_1 ≤ 65536
    ·rw [if_pos c4] at H
     have eb : decide (x3_1 ≤ 65536) = true := decide_eq_true c4
     clear c4
     by_cases c5 : 0 ≤ x4_1
     ·rw [if_pos c5] at H
      have c5b0 : decide (0 ≤ x4_1) = true := decide_eq_true c5
      clear c5
      have H' := Aside0.mk H
      clear H
      have eR : wr.cell? ⟨gb166, 0, none⟩ = some (.slice aC ai.length aA) := (a7 ed.out 0).trans rfl
      have eT : wr.cell? ⟨gb166, 1, none⟩ = some (.slice aI af.length au) := (a7 ed.out 1).trans rfl
      have eU := a8 ed.out 0
      have eV := a8 ed.out 1
      have p167 : 0 ≤ (x4_1 : Int) := of_decide_eq_true (by first | (with_reducible assumption) | assumption)
      have q167 : x4_1 < (ai.length : Int) := of_decide_eq_true (by first | (with_reducible assumption) | assumption)
      obtain ⟨ad167, A167_0, c167_0, e167, hx167_0, hl167_0, hi167_0⟩ := f5 bz.out x4_1 p167 q167
      cases e167
      replace hx167_0 := (HB.out.cell (World.block_lt_of_cell? w _ hx167_0)).trans hx167_0
      have HR167_0 := Aside0.mk hi167_0
      have HC167_0 := Aside0.mk hl167_0
      clear hi167_0 hl167_0
      replace p167 := eq_true p167
      replace q167 := eq_true q167
      go_wp2
      go_roundg k1
      case measure => have := HK1.out; omega
      case rel => exact ⟨(wrap64 (x3_1 * ((aJ ai x4_1).length : Int))), (wrap64 (x4_1 + 1)), (by first | rfl | (simp; done) | (simp [*]; done)), (by first | rfl | (simp; done) | (simp [*]; done)), H', ⟨by have := HK1.out; omega⟩, ⟨by (with_reducible repeat (first | refine ab ?_ _ | refine ac ?_ | refine a9 ?_ _)); exact ed.out⟩, ⟨by repeat (first | (with_reducible first | exact HB.out | apply a6 | apply a4 | apply a5 | refine aa ?_ GE166.out) | exact HB.out)⟩⟩
     ·rw [if_neg c5] at H
      exact absurd H (by simp)
    ·rw [if_neg c4] at H
     have eb : decide (x3_1 ≤ 65536) = false := decide_eq_false c4
     clear c4
     obtain rfl := Option.some.inj H
     have hcz7_0 : wr.cell? ⟨gb166, 0, none⟩ = some (.slice aC ai.length aA) := (a7 ed.out 0).trans rfl
     have hcz7_1 : wr.cell? ⟨gb166, 1, none⟩ = some (.slice aI af.length au) := (a7 ed.out 1).trans rfl
     have hfz7_0 := a8 ed.out 0
     have hfz7_1 := a8 ed.out 1
     go_wp2
     go_ret
     exact ⟨by first | rfl | (simp [al, ak] <;> rfl) | (simp [*, al, ak] <;> rfl), by repeat (first | (with_reducible first | exact HB.out | apply a6 | apply a4 | apply a5 | refine aa ?_ GE166.out) | exact HB.out)⟩
   ·rw [if_neg c3] at H
    have c3b0 : decide (x4_1 < (ai.length : Int)) = false := decide_eq_false c3
    clear c3
    obtain rfl := Option.some.inj H
    have gF : wr.cell? ⟨gb166, 0, none⟩ = some (.slice aC ai.length aA) := (a7 ed.out 0).trans rfl
    have gG : wr.cell? ⟨gb166, 1, none⟩ = some (.slice aI af.length au) := (a7 ed.out 1).trans rfl
    have gH := a8 ed.out 0
    have gI := a8 ed.out 1
    go_wp2
    go_ret
    exact ⟨by first | rfl | (simp [al, ak] <;> rfl) | (simp [*, al, ak] <;> rfl), by repeat (first | (with_reducible first | exact HB.out | apply a6 | apply a4 | apply a5 | refine aa ?_ GE166.out) | exact HB.out)⟩
def fastiref15_Few.l0 : Nat → Int → List (List Int) → List (S49) → Option (Bool)
 | 0, _, _, _ => none
 | k + 1, x3, x169000, gJ => if x3 < (gJ.length : Int) then (if 0 ≤ x3 then (if (((ag gJ x3).f3).length : Int) > 20 then (some false) else (fastiref15_Few.l0 k (wrap64 (x3 + 1)) x169000 gJ)) else (none)) else ((fastiref15_Tries.f k x169000 gJ).bind fun t171 => (if t171 ≤ 256 then (some true) else ((fastiref15_Tries.f k x169000 gJ).bind fun t172 => (some (decide (t172 > 65536))))))
def fastiref15_Few.f (k : Nat) (ai : List (List Int)) (af : List (S49)) : Option (Bool) := (fastiref15_short.f k ai af).bind fun t169 => (if t169 = true then (if (af.length : Int) > 8 then (some false) else (fastiref15_Few.l0 k 0 ai af)) else (if (ai.length : Int) ≤ 100 then (some (decide ((af.length : Int) ≤ 100))) else (some false)))
set_option maxHeartbeats 8000000 in
set_option maxRecDepth 100000 in
theorem fastiref15_Few.calls (k : Nat) (aC : Option Addr) (aA : Nat) (ai : List (List Int)) (aI : Option Addr) (au : Nat) (af : List (S49)) (r : Bool) (w : World) (bA : Kd.C (Kd.slice 3 (Kd.int .i64)) w aC ai.length ai) (bJ : ai.length ≤ aA) (bx : Kd.C k49 w aI af.length af) (bC : af.length ≤ au) (h : fastiref15_Few.f k ai af = some r) :
  Calls Try.prog 12 #[.agg #[.slice aC ai.length aA, .slice aI af.length au]] w fun e w' => e = .returned (.bool r) ∧ Below w.heap.size w w' := by
 have hu25 := Try.underlying25
 have bz := Aside0.mk bA
 have bG := Aside0.mk bJ
 clear bA bJ
 have br := Aside0.mk bx
 have bF := Aside0.mk bC
 clear bx bC
 have HB := Aside0.mk (Below.refl w.heap.size w)
 have H : ((fastiref15_short.f k ai af).bind fun t169 => (if t169 = true then (if (af.length : Int) > 8 then (some false) else (fastiref15_Few.l0 k 0 ai af)) else (if (ai.length : Int) ≤ 100 then (some (decide ((af.length : Int) ≤ 100))) else (some false)))) = some r := h
 clear h
 replace H := Option.bind_eq_some_iff.mp H
 obtain ⟨t169, A20, H⟩ := H
 replace H : (if t169 = true then (if (af.length : Int) > 8 then (some false) else (fastiref15_Few.l0 k 0 ai af)) else (if (ai.length : Int) ≤ 100 then (some (decide ((af.length : Int) ≤ 100))) else (some false))) = some r := H
 have A2 := Aside0.mk A20
 clear A20
 by_cases c3 : t169 = true
 ·subst c3
  have H1 : (if (af.length : Int) > 8 then (some false) else (fastiref15_Few.l0 k 0 ai af)) = some r := by rw [if_pos rfl] at H; exact H
  clear H
  have H := H1
  clear H1
  by_cases c4 : (af.length : Int) > 8
  ·rw [if_pos c4] at H
   have eb : decide (8 < (af.length : Int)) = true := decide_eq_true c4
   have c4b1 : decide (8 < af.length) = true := decide_eq_true (by omega)
   clear c4
   obtain rfl := Option.some.inj H
   go_enter Try.func12, Try.ntmps12
   go_wp2_with (first | ((with_reducible refine aK (N := 1) rfl ?_); (try (refine aW (by rfl) ?_; dsimp only)); refine av ?hg (N := 1) ?hd (cs := #[.slice aC ai.length aA, .slice aI af.length au]) (t := 25) ?hr ?_; (case hd => rfl); (case hg => rfl); (case hr => first | (go_simp; done) | (go_simp; rfl)); intro bu hg w5 hbox hb; have n0_ := Aside0.mk (aj (by repeat (first | (with_reducible first | exact HB.out | apply a6 | apply a4 | apply a5) | exact HB.out)) hb); have n1_ := Aside0.mk (hbox); have n2_ := Aside0.mk ((by rw [hg]; exact (ah (by repeat (first | (with_reducible first | exact HB.out | apply a6 | apply a4 | apply a5) | exact HB.out))) : w.heap.size ≤ bu)); have n3_ := Aside0.mk ((by rw [hg]; exact (ah (by repeat (first | (with_reducible first | exact HB.out | apply a6 | apply a4 | apply a5) | exact HB.out))) : w.heap.size ≤ bu)); clear HB; have HB := n0_; have aY := n1_; have GW168 := n2_; have dx := n3_; clear n0_ n1_ n2_ n3_; clear hb hbox hg; have eR : w5.cell? ⟨bu, 0, none⟩ = some (.slice aC ai.length aA) := (a7 aY.out 0).trans rfl; have eT : w5.cell? ⟨bu, 1, none⟩ = some (.slice aI af.length au) := (a7 aY.out 1).trans rfl; have eU := a8 aY.out 0; have eV := a8 aY.out 1) | ((with_reducible refine aE (f := 29) rfl ?_); refine bw (some 5) rfl rfl Try.func29 (by kernel_rfl) rfl #[.agg #[.slice aC ai.length aA, .slice aI af.length au]] rfl (by (try simp only [List.map_toArray, List.map_cons, List.map_nil]); first | done | rfl | (simp only [List.length_drop, List.length_take]; rfl)) ?_; (with_reducible refine (fastiref15_short.calls k _ _ ai _ _ af true _ ?side1 ?side2 ?side3 ?side4 A2.out).mono ?_); (case side1 => repeat (first | exact (Kd.C_below bz.out HB.out) | (with_reducible refine Kd.C_alloc ?_ _) | (with_reducible refine Kd.C_drewN ?_ _) | (with_reducible refine Kd.C_drew ?_))); (case side2 => exact bG.out); (case side3 => repeat (first | exact (Kd.C_below br.out HB.out) | (with_reducible refine Kd.C_alloc ?_ _) | (with_reducible refine Kd.C_drewN ?_ _) | (with_reducible refine Kd.C_drew ?_))); (case side4 => exact bF.out); rintro e w7 ⟨rfl, hb⟩; refine ⟨_, rfl, ?_⟩; have n0_ := Aside0.mk (ae (g := bu) (o := .cells #[.slice aC ai.length aA, .slice aI af.length au] 25 (0, 0)) (by (with_reducible repeat (first | refine ab ?_ _ | refine ac ?_ | refine a9 ?_ _)); exact aY.out) hb); have n1_ := Aside0.mk (aj (by repeat (first | (with_reducible first | exact HB.out | apply a6 | apply a4 | apply a5 | refine aa ?_ dx.out) | exact HB.out)) hb); clear aY; clear HB; have aY := n0_; have HB := n1_; clear n0_ n1_; (try clear hb); (try clear hb2); (try clear hk); (try clear hi); have gF : w7.cell? ⟨bu, 0, none⟩ = some (.slice aC ai.length aA) := (a7 aY.out 0).trans rfl; have gG : w7.cell? ⟨bu, 1, none⟩ = some (.slice aI af.length au) := (a7 aY.out 1).trans rfl; have gH := a8 aY.out 0; have gI := a8 aY.out 1))
   go_ret
   exact ⟨by first | rfl | (simp [al, ak] <;> rfl) | (simp [*, al, ak] <;> rfl), by repeat (first | (with_reducible first | exact HB.out | apply a6 | apply a4 | apply a5 | refine aa ?_ dx.out) | exact HB.out)⟩
  ·rw [if_neg c4] at H
   have eb : decide (8 < (af.length : Int)) = false := decide_eq_false c4
   have c4b1 : decide (8 < af.length) = false := decide_eq_false (by omega)
   clear c4
   have H' := Aside0.mk H
   clear H
   go_enter Try.func12, Try.ntmps12
   go_wp2_with (first | ((with_reducible refine aK (N := 1) rfl ?_); (try (refine aW (by rfl) ?_; dsimp only)); refine av ?hg (N := 1) ?hd (cs := #[.slice aC ai.length aA, .slice aI af.length au]) (t := 25) ?hr ?_; (case hd => rfl); (case hg => rfl); (case hr => first | (go_simp; done) | (go_simp; rfl)); intro bu hg w9 hbox hb; have n0_ := Aside0.mk (aj (by repeat (first | (with_reducible first | exact HB.out | apply a6 | apply a4 | apply a5) | exact HB.out)) hb); have n1_ := Aside0.mk (hbox); have n2_ := Aside0.mk ((by rw [hg]; exact (ah (by repeat (first | (with_reducible first | exact HB.out | apply a6 | apply a4 | apply a5) | exact HB.out))) : w.heap.size ≤ bu)); have n3_ := Aside0.mk ((by rw [hg]; exact (ah (by repeat (first | (with_reducible first | exact HB.out | apply a6 | apply a4 | apply a5) | exact HB.out))) : w.heap.size ≤ bu)); clear HB; have HB := n0_; have aY := n1_; have GW168 := n2_; have dx := n3_; clear n0_ n1_ n2_ n3_; clear hb hbox hg; have hcz10_0 : w9.cell? ⟨bu, 0, none⟩ = some (.slice aC ai.length aA) := (a7 aY.out 0).trans rfl; have hcz10_1 : w9.cell? ⟨bu, 1, none⟩ = some (.slice aI af.length au) := (a7 aY.out 1).trans rfl; have hfz10_0 := a8 aY.out 0; have hfz10_1 := a8 aY.out 1) | ((with_reducible refine aE (f := 29) rfl ?_); refine bw (some 5) rfl rfl Try.func29 (by kernel_rfl) rfl #[.agg #[.slice aC ai.length aA, .slice aI af.length au]] rfl (by (try simp only [List.map_toArray, List.map_cons, List.map_nil]); first | done | rfl | (simp only [List.length_drop, List.length_take]; rfl)) ?_; (with_reducible refine (fastiref15_short.calls k _ _ ai _ _ af true _ ?side1 ?side2 ?side3 ?side4 A2.out).mono ?_); (case side1 => repeat (first | exact (Kd.C_below bz.out HB.out) | (with_reducible refine Kd.C_alloc ?_ _) | (with_reducible refine Kd.C_drewN ?_ _) | (with_reducible refine Kd.C_drew ?_))); (case side2 => exact bG.out); (case side3 => repeat (first | exact (Kd.C_below br.out HB.out) | (with_reducible refine Kd.C_alloc ?_ _) | (with_reducible refine Kd.C_drewN ?_ _) | (with_reducible refine Kd.C_drew ?_))); (case side4 => exact bF.out); rintro e w11 ⟨rfl, hb⟩; refine ⟨_, rfl, ?_⟩; have n0_ := Aside0.mk (ae (g := bu) (o := .cells #[.slice aC ai.length aA, .slice aI af.length au] 25 (0, 0)) (by (with_reducible repeat (first | refine ab ?_ _ | refine ac ?_ | refine a9 ?_ _)); exact aY.out) hb); have n1_ := Aside0.mk (aj (by repeat (first | (with_reducible first | exact HB.out | apply a6 | apply a4 | apply a5 | refine aa ?_ dx.out) | exact HB.out)) hb); clear aY; clear HB; have aY := n0_; have HB := n1_; clear n0_ n1_; (try clear hb); (try clear hb2); (try clear hk); (try clear hi); have dh : w11.cell? ⟨bu, 0, none⟩ = some (.slice aC ai.length aA) := (a7 aY.out 0).trans rfl; have di : w11.cell? ⟨bu, 1, none⟩ = some (.slice aI af.length au) := (a7 aY.out 1).trans rfl; have dj := a8 aY.out 0; have dk := a8 aY.out 1))
   go_loopg [3] k (fun kq v3 w' => ∃ (x3_1 : Int), v3 = .int .i64 x3_1 ∧ Aside0 (fastiref15_Few.l0 kq x3_1 ai af = some r) ∧ Aside0 (kq ≤ k) ∧ Aside0 (w'.heap[bu]? = some (.cells #[(.slice aC ai.length aA), (.slice aI af.length au)] 25 (0, 0))) ∧ Aside0 (Below w.heap.size w w'))
   case atStart => exact ⟨(0), (by first | rfl | (simp; done) | (simp [*]; done)), H', ⟨Nat.le_refl _⟩, ⟨by (with_reducible repeat (first | refine ab ?_ _ | refine ac ?_ | refine a9 ?_ _)); exact aY.out⟩, ⟨by repeat (first | (with_reducible first | exact HB.out | apply a6 | apply a4 | apply a5 | refine aa ?_ dx.out) | exact HB.out)⟩⟩
   case round =>
    clear H'
    try clear c1; try clear c2; try clear p2; try clear c3; try clear c4; try clear eb; try clear c4b1; try clear c12; try clear hcz10_0; try clear hcz10_1; try clear dh; try clear di; try clear eR; try clear eT; try clear gF; try clear gG; try clear hfz10_0; try clear hfz10_1; try clear dj; try clear dk; try clear eU; try clear eV; try clear gH; try clear gI
    obtain ⟨x3_1, rfl, HA, HK1, aY, HB⟩ := hrel
    cases gk with
    | zero => exact absurd HA.out (by simp [fastiref15_Few.l0])
    | succ k1 =>
     have H := HA.out
     clear HA
     simp only [fastiref15_Few.l0] at H
     by_cases c13 : x3_1 < (af.length : Int)
     ·rw [if_pos c13] at H
      have c13b0 : decide (x3_1 < (af.length : Int)) = true := decide_eq_true c13
      clear c13
      by_cases c14 : 0 ≤ x3_1
      ·rw [if_pos c14] at H
       have c14b0 : decide (0 ≤ x3_1) = true := decide_eq_true c14
       clear c14
       by_cases c15 : (((ag af x3_1).f3).length : Int) > 20
       ·rw [if_pos c15] at H
        have c15b0 : decide (20 < (((ag af x3_1).f3).length : Int)) = true := decide_eq_true c15
        have c15b1 : decide (20 < ((ag af x3_1).f3).length) = true := decide_eq_true (by omega)
        clear c15
        obtain rfl := Option.some.inj H
        have hcz16_0 : wr.cell? ⟨bu, 0, none⟩ = some (.slice aC ai.length aA) := (a7 aY.out 0).trans rfl
        have hcz16_1 : wr.cell? ⟨bu, 1, none⟩ = some (.slice aI af.length au) := (a7 aY.out 1).trans rfl
        have hfz16_0 := a8 aY.out 0
        have hfz16_1 := a8 aY.out 1
        have p170 : 0 ≤ (x3_1 : Int) := of_decide_eq_true (by first | (with_reducible assumption) | assumption)
        have q170 : x3_1 < (af.length : Int) := of_decide_eq_true (by first | (with_reducible assumption) | assumption)
        obtain ⟨ad170, A170_2, c170_2, A170_3, c170_3, e170, ee, ef, eh, ei, gK, gL, gM, gN⟩ := dH br.out x3_1 p170 q170
        cases e170
        replace ee := (HB.out.cell (World.block_lt_of_cell? w _ ee)).trans ee
        replace ef := (HB.out.cell (World.block_lt_of_cell? w _ ef)).trans ef
        replace eh := (HB.out.cell (World.block_lt_of_cell? w _ eh)).trans eh
        replace ei := (HB.out.cell (World.block_lt_of_cell? w _ ei)).trans ei
        have HR170_2 := Aside0.mk gL
        have HC170_2 := Aside0.mk gK
        clear gL gK
        have HR170_3 := Aside0.mk gN
        have HC170_3 := Aside0.mk gM
        clear gN gM
        replace p170 := eq_true p170
        replace q170 := eq_true q170
        go_wp2
        go_ret
        exact ⟨by first | rfl | (simp [al, ak] <;> rfl) | (simp [*, al, ak] <;> rfl), by repeat (first | (with_reducible first | exact HB.out | apply a6 | apply a4 | apply a5 | refine aa ?_ dx.out) | exact HB.out)⟩
       ·rw [if_neg c15] at H
        have c15b0 : decide (20 < (((ag af x3_1).f3).length : Int)) = false := decide_eq_false c15
        have c15b1 : decide (20 < ((ag af x3_1).f3).length) = false := decide_eq_false (by omega)
        clear c15
        have H' := Aside0.mk H
        clear H
        have gn : wr.cell? ⟨bu, 0, none⟩ = some (.slice aC ai.length aA) := (a7 aY.out 0).trans rfl
        have gp : wr.cell? ⟨bu, 1, none⟩ = some (.slice aI af.length au) := (a7 aY.out 1).trans rfl
        have gt := a8 aY.out 0
        have gu := a8 aY.out 1
        have p170 : 0 ≤ (x3_1 : Int) := of_decide_eq_true (by first | (with_reducible assumption) | assumption)
        have q170 : x3_1 < (af.length : Int) := of_decide_eq_true (by first | (with_reducible assumption) | assumption)
        obtain ⟨ad170, A170_2, c170_2, A170_3, c170_3, e170, ee, ef, eh, ei, gK, gL, gM, gN⟩ := dH br.out x3_1 p170 q170
        cases e170
        replace ee := (HB.out.cell (World.block_lt_of_cell? w _ ee)).trans ee
        replace ef := (HB.out.cell (World.block_lt_of_cell? w _ ef)).trans ef
        replace eh := (HB.out.cell (World.block_lt_of_cell? w _ eh)).trans eh
        replace ei := (HB.out.cell (World.block_lt_of_cell? w _ ei)).trans ei
        have HR170_2 := Aside0.mk gL
        have HC170_2 := Aside0.mk gK
        clear gL gK
        have HR170_3 := Aside0.mk gN
        have HC170_3 := Aside0.mk gM
        clear gN gM
        replace p170 := eq_true p170
        replace q170 := eq_true q170
        go_wp2
        go_roundg k1
        case measure => have := HK1.out; omega
        case rel => exact ⟨(wrap64 (x3_1 + 1)), (by first | rfl | (simp; done) | (simp [*]; done)), H', ⟨by have := HK1.out; omega⟩, ⟨by (with_reducible repeat (first | refine ab ?_ _ | refine ac ?_ | refine a9 ?_ _)); exact aY.out⟩, ⟨by repeat (first | (with_reducible first | exact HB.out | apply a6 | apply a4 | apply a5 | refine aa ?_ dx.out) | exact HB.out)⟩⟩
      ·rw [if_neg c14] at H
       exact absurd H (by simp)
     ·rw [if_neg c13] at H
      have c13b0 : decide (x3_1 < (af.length : Int)) = false := decide_eq_false c13
      clear c13
      replace H := Option.bind_eq_some_iff.mp H
      obtain ⟨t171, A180, H⟩ := H
      replace H : (if t171 ≤ 256 then (some true) else ((fastiref15_Tries.f k1 ai af).bind fun t172 => (some (decide (t172 > 65536))))) = some r := H
      have A18 := Aside0.mk A180
      clear A180
      by_cases c19 : t171 ≤ 256
      ·rw [if_pos c19] at H
       have c19b0 : decide (t171 ≤ 256) = true := decide_eq_true c19
       clear c19
       obtain rfl := Option.some.inj H
       have hcz20_0 : wr.cell? ⟨bu, 0, none⟩ = some (.slice aC ai.length aA) := (a7 aY.out 0).trans rfl
       have hcz20_1 : wr.cell? ⟨bu, 1, none⟩ = some (.slice aI af.length au) := (a7 aY.out 1).trans rfl
       have hfz20_0 := a8 aY.out 0
       have hfz20_1 := a8 aY.out 1
       go_wp2_with (first | ((with_reducible refine aE (f := 30) rfl ?_); refine bw (some 37) rfl rfl Try.func30 (by kernel_rfl) rfl #[.agg #[.slice aC ai.length aA, .slice aI af.length au]] rfl (by (try simp only [List.map_toArray, List.map_cons, List.map_nil]); first | done | rfl | (simp only [List.length_drop, List.length_take]; rfl)) ?_; (with_reducible refine (fastiref15_Tries.calls k1 _ _ ai _ _ af t171 _ ?side1 ?side2 ?side3 ?side4 A18.out).mono ?_); (case side1 => repeat (first | exact (Kd.C_below bz.out HB.out) | (with_reducible refine Kd.C_alloc ?_ _) | (with_reducible refine Kd.C_drewN ?_ _) | (with_reducible refine Kd.C_drew ?_))); (case side2 => exact bG.out); (case side3 => repeat (first | exact (Kd.C_below br.out HB.out) | (with_reducible refine Kd.C_alloc ?_ _) | (with_reducible refine Kd.C_drewN ?_ _) | (with_reducible refine Kd.C_drew ?_))); (case side4 => exact bF.out); rintro e w21 ⟨rfl, hb⟩; refine ⟨_, rfl, ?_⟩; have n0_ := Aside0.mk (ae (g := bu) (o := .cells #[.slice aC ai.length aA, .slice aI af.length au] 25 (0, 0)) (by (with_reducible repeat (first | refine ab ?_ _ | refine ac ?_ | refine a9 ?_ _)); exact aY.out) hb); have n1_ := Aside0.mk (aj (by repeat (first | (with_reducible first | exact HB.out | apply a6 | apply a4 | apply a5 | refine aa ?_ dx.out) | exact HB.out)) hb); clear aY; clear HB; have aY := n0_; have HB := n1_; clear n0_ n1_; (try clear hb); (try clear hb2); (try clear hk); (try clear hi)))
       go_ret
       exact ⟨by first | rfl | (simp [al, ak] <;> rfl) | (simp [*, al, ak] <;> rfl), by repeat (first | (with_reducible first | exact HB.out | apply a6 | apply a4 | apply a5 | refine aa ?_ dx.out) | exact HB.out)⟩
      ·rw [if_neg c19] at H
       have c19b0 : decide (t171 ≤ 256) = false := decide_eq_false c19
       clear c19
       replace H := Option.bind_eq_some_iff.mp H
       obtain ⟨t172, A220, H⟩ := H
       replace H : (some (decide (t172 > 65536))) = some r := H
       have A22 := Aside0.mk A220
       clear A220
       obtain rfl := Option.some.inj H
       have hcz23_0 : wr.cell? ⟨bu, 0, none⟩ = some (.slice aC ai.length aA) := (a7 aY.out 0).trans rfl
       have hcz23_1 : wr.cell? ⟨bu, 1, none⟩ = some (.slice aI af.length au) := (a7 aY.out 1).trans rfl
       have hfz23_0 := a8 aY.out 0
       have hfz23_1 := a8 aY.out 1
       go_wp2_with (first | ((with_reducible refine aE (f := 30) rfl ?_); refine bw (some 37) rfl rfl Try.func30 (by kernel_rfl) rfl #[.agg #[.slice aC ai.length aA, .slice aI af.length au]] rfl (by (try simp only [List.map_toArray, List.map_cons, List.map_nil]); first | done | rfl | (simp only [List.length_drop, List.length_take]; rfl)) ?_; (with_reducible refine (fastiref15_Tries.calls k1 _ _ ai _ _ af t171 _ ?side1 ?side2 ?side3 ?side4 A18.out).mono ?_); (case side1 => repeat (first | exact (Kd.C_below bz.out HB.out) | (with_reducible refine Kd.C_alloc ?_ _) | (with_reducible refine Kd.C_drewN ?_ _) | (with_reducible refine Kd.C_drew ?_))); (case side2 => exact bG.out); (case side3 => repeat (first | exact (Kd.C_below br.out HB.out) | (with_reducible refine Kd.C_alloc ?_ _) | (with_reducible refine Kd.C_drewN ?_ _) | (with_reducible refine Kd.C_drew ?_))); (case side4 => exact bF.out); rintro e w24 ⟨rfl, hb⟩; refine ⟨_, rfl, ?_⟩; have n0_ := Aside0.mk (ae (g := bu) (o := .cells #[.slice aC ai.length aA, .slice aI af.length au] 25 (0, 0)) (by (with_reducible repeat (first | refine ab ?_ _ | refine ac ?_ | refine a9 ?_ _)); exact aY.out) hb); have n1_ := Aside0.mk (aj (by repeat (first | (with_reducible first | exact HB.out | apply a6 | apply a4 | apply a5 | refine aa ?_ dx.out) | exact HB.out)) hb); clear aY; clear HB; have aY := n0_; have HB := n1_; clear n0_ n1_; (try clear hb); (try clear hb2); (try clear hk); (try clear hi); have hcz25_0 : w24.cell? ⟨bu, 0, none⟩ = some (.slice aC ai.length aA) := (a7 aY.out 0).trans rfl; have hcz25_1 : w24.cell? ⟨bu, 1, none⟩ = some (.slice aI af.length au) := (a7 aY.out 1).trans rfl; have hfz25_0 := a8 aY.out 0; have hfz25_1 := a8 aY.out 1) | (go_at_call 30; (with_reducible refine (fastiref15_Tries.calls k1 _ _ ai _ _ af t172 _ ?side1 ?side2 ?side3 ?side4 A22.out).mono ?_); (case side1 => repeat (first | exact (Kd.C_below bz.out HB.out) | (with_reducible refine Kd.C_alloc ?_ _) | (with_reducible refine Kd.C_drewN ?_ _) | (with_reducible refine Kd.C_drew ?_))); (case side2 => exact bG.out); (case side3 => repeat (first | exact (Kd.C_below br.out HB.out) | (with_reducible refine Kd.C_alloc ?_ _) | (with_reducible refine Kd.C_drewN ?_ _) | (with_reducible refine Kd.C_drew ?_))); (case side4 => exact bF.out); rintro e w26 ⟨rfl, hb⟩; have n0_ := Aside0.mk (ae (g := bu) (o := .cells #[.slice aC ai.length aA, .slice aI af.length au] 25 (0, 0)) (by (with_reducible repeat (first | refine ab ?_ _ | refine ac ?_ | refine a9 ?_ _)); exact aY.out) hb); have n1_ := Aside0.mk (aj (by repeat (first | (with_reducible first | exact HB.out | apply a6 | apply a4 | apply a5 | refine aa ?_ dx.out) | exact HB.out)) hb); clear aY; clear HB; have aY := n0_; have HB := n1_; clear n0_ n1_; (try clear hb); (try clear hb2); (try clear hk); (try clear hi)))
       go_ret
       exact ⟨by first | rfl | (simp [al, ak] <;> rfl) | (simp [*, al, ak] <;> rfl), by repeat (first | (with_reducible first | exact HB.out | apply a6 | apply a4 | apply a5 | refine aa ?_ dx.out) | exact HB.out)⟩
 ·replace c3 := Bool.eq_false_iff.mpr c3
  subst c3
  have H1 : (if (ai.length : Int) ≤ 100 then (some (decide ((af.length : Int) ≤ 100))) else (some false)) = some r := by rw [if_neg (show ¬ (false = true) by decide)] at H; exact H
  clear H
  have H := H1
  clear H1
  by_cases c27 : (ai.length : Int) ≤ 100
  ·rw [if_pos c27] at H
   have c27b0 : decide ((ai.length : Int) ≤ 100) = true := decide_eq_true c27
   have c27b1 : decide (ai.length ≤ 100) = true := decide_eq_true (by omega)
   clear c27
   obtain rfl := Option.some.inj H
   go_enter Try.func12, Try.ntmps12
   go_wp2_with (first | ((with_reducible refine aK (N := 1) rfl ?_); (try (refine aW (by rfl) ?_; dsimp only)); refine av ?hg (N := 1) ?hd (cs := #[.slice aC ai.length aA, .slice aI af.length au]) (t := 25) ?hr ?_; (case hd => rfl); (case hg => rfl); (case hr => first | (go_simp; done) | (go_simp; rfl)); intro bu hg w28 hbox hb; have n0_ := Aside0.mk (aj (by repeat (first | (with_reducible first | exact HB.out | apply a6 | apply a4 | apply a5) | exact HB.out)) hb); have n1_ := Aside0.mk (hbox); have n2_ := Aside0.mk ((by rw [hg]; exact (ah (by repeat (first | (with_reducible first | exact HB.out | apply a6 | apply a4 | apply a5) | exact HB.out))) : w.heap.size ≤ bu)); have n3_ := Aside0.mk ((by rw [hg]; exact (ah (by repeat (first | (with_reducible first | exact HB.out | apply a6 | apply a4 | apply a5) | exact HB.out))) : w.heap.size ≤ bu)); clear HB; have HB := n0_; have aY := n1_; have GW168 := n2_; have dx := n3_; clear n0_ n1_ n2_ n3_; clear hb hbox hg; have hcz29_0 : w28.cell? ⟨bu, 0, none⟩ = some (.slice aC ai.length aA) := (a7 aY.out 0).trans rfl; have hcz29_1 : w28.cell? ⟨bu, 1, none⟩ = some (.slice aI af.length au) := (a7 aY.out 1).trans rfl; have hfz29_0 := a8 aY.out 0; have hfz29_1 := a8 aY.out 1) | ((with_reducible refine aE (f := 29) rfl ?_); refine bw (some 5) rfl rfl Try.func29 (by kernel_rfl) rfl #[.agg #[.slice aC ai.length aA, .slice aI af.length au]] rfl (by (try simp only [List.map_toArray, List.map_cons, List.map_nil]); first | done | rfl | (simp only [List.length_drop, List.length_take]; rfl)) ?_; (with_reducible refine (fastiref15_short.calls k _ _ ai _ _ af false _ ?side1 ?side2 ?side3 ?side4 A2.out).mono ?_); (case side1 => repeat (first | exact (Kd.C_below bz.out HB.out) | (with_reducible refine Kd.C_alloc ?_ _) | (with_reducible refine Kd.C_drewN ?_ _) | (with_reducible refine Kd.C_drew ?_))); (case side2 => exact bG.out); (case side3 => repeat (first | exact (Kd.C_below br.out HB.out) | (with_reducible refine Kd.C_alloc ?_ _) | (with_reducible refine Kd.C_drewN ?_ _) | (with_reducible refine Kd.C_drew ?_))); (case side4 => exact bF.out); rintro e w30 ⟨rfl, hb⟩; refine ⟨_, rfl, ?_⟩; have n0_ := Aside0.mk (ae (g := bu) (o := .cells #[.slice aC ai.length aA, .slice aI af.length au] 25 (0, 0)) (by (with_reducible repeat (first | refine ab ?_ _ | refine ac ?_ | refine a9 ?_ _)); exact aY.out) hb); have n1_ := Aside0.mk (aj (by repeat (first | (with_reducible first | exact HB.out | apply a6 | apply a4 | apply a5 | refine aa ?_ dx.out) | exact HB.out)) hb); clear aY; clear HB; have aY := n0_; have HB := n1_; clear n0_ n1_; (try clear hb); (try clear hb2); (try clear hk); (try clear hi); have hcz31_0 : w30.cell? ⟨bu, 0, none⟩ = some (.slice aC ai.length aA) := (a7 aY.out 0).trans rfl; have hcz31_1 : w30.cell? ⟨bu, 1, none⟩ = some (.slice aI af.length au) := (a7 aY.out 1).trans rfl; have hfz31_0 := a8 aY.out 0; have hfz31_1 := a8 aY.out 1))
   go_ret
   exact ⟨by first | rfl | (simp [al, ak] <;> rfl) | (simp [*, al, ak] <;> rfl), by repeat (first | (with_reducible first | exact HB.out | apply a6 | apply a4 | apply a5 | refine aa ?_ dx.out) | exact HB.out)⟩
  ·rw [if_neg c27] at H
   have c27b0 : decide ((ai.length : Int) ≤ 100) = false := decide_eq_false c27
   have c27b1 : decide (ai.length ≤ 100) = false := decide_eq_false (by omega)
   clear c27
   obtain rfl := Option.some.inj H
   go_enter Try.func12, Try.ntmps12
   go_wp2_with (first | ((with_reducible refine aK (N := 1) rfl ?_); (try (refine aW (by rfl) ?_; dsimp only)); refine av ?hg (N := 1) ?hd (cs := #[.slice aC ai.length aA, .slice aI af.length au]) (t := 25) ?hr ?_; (case hd => rfl); (case hg => rfl); (case hr => first | (go_simp; done) | (go_simp; rfl)); intro bu hg w32 hbox hb; have n0_ := Aside0.mk (aj (by repeat (first | (with_reducible first | exact HB.out | apply a6 | apply a4 | apply a5) | exact HB.out)) hb); have n1_ := Aside0.mk (hbox); have n2_ := Aside0.mk ((by rw [hg]; exact (ah (by repeat (first | (with_reducible first | exact HB.out | apply a6 | apply a4 | apply a5) | exact HB.out))) : w.heap.size ≤ bu)); have n3_ := Aside0.mk ((by rw [hg]; exact (ah (by repeat (first | (with_reducible first | exact HB.out | apply a6 | apply a4 | apply a5) | exact HB.out))) : w.heap.size ≤ bu)); clear HB; have HB := n0_; have aY := n1_; have GW168 := n2_; have dx := n3_; clear n0_ n1_ n2_ n3_; clear hb hbox hg; have hcz33_0 : w32.cell? ⟨bu, 0, none⟩ = some (.slice aC ai.length aA) := (a7 aY.out 0).trans rfl; have hcz33_1 : w32.cell? ⟨bu, 1, none⟩ = some (.slice aI af.length au) := (a7 aY.out 1).trans rfl; have hfz33_0 := a8 aY.out 0; have hfz33_1 := a8 aY.out 1) | ((with_reducible refine aE (f := 29) rfl ?_); refine bw (some 5) rfl rfl Try.func29 (by kernel_rfl) rfl #[.agg #[.slice aC ai.length aA, .slice aI af.length au]] rfl (by (try simp only [List.map_toArray, List.map_cons, List.map_nil]); first | done | rfl | (simp only [List.length_drop, List.length_take]; rfl)) ?_; (with_reducible refine (fastiref15_short.calls k _ _ ai _ _ af false _ ?side1 ?side2 ?side3 ?side4 A2.out).mono ?_); (case side1 => repeat (first | exact (Kd.C_below bz.out HB.out) | (with_reducible refine Kd.C_alloc ?_ _) | (with_reducible refine Kd.C_drewN ?_ _) | (with_reducible refine Kd.C_drew ?_))); (case side2 => exact bG.out); (case side3 => repeat (first | exact (Kd.C_below br.out HB.out) | (with_reducible refine Kd.C_alloc ?_ _) | (with_reducible refine Kd.C_drewN ?_ _) | (with_reducible refine Kd.C_drew ?_))); (case side4 => exact bF.out); rintro e w34 ⟨rfl, hb⟩; refine ⟨_, rfl, ?_⟩; have n0_ := Aside0.mk (ae (g := bu) (o := .cells #[.slice aC ai.length aA, .slice aI af.length au] 25 (0, 0)) (by (with_reducible repeat (first | refine ab ?_ _ | refine ac ?_ | refine a9 ?_ _)); exact aY.out) hb); have n1_ := Aside0.mk (aj (by repeat (first | (with_reducible first | exact HB.out | apply a6 | apply a4 | apply a5 | refine aa ?_ dx.out) | exact HB.out)) hb); clear aY; clear HB; have aY := n0_; have HB := n1_; clear n0_ n1_; (try clear hb); (try clear hb2); (try clear hk); (try clear hi); have hcz35_0 : w34.cell? ⟨bu, 0, none⟩ = some (.slice aC ai.length aA) := (a7 aY.out 0).trans rfl; have hcz35_1 : w34.cell? ⟨bu, 1, none⟩ = some (.slice aI af.length au) := (a7 aY.out 1).trans rfl; have hfz35_0 := a8 aY.out 0; have hfz35_1 := a8 aY.out 1))
   go_ret
   exact ⟨by first | rfl | (simp [al, ak] <;> rfl) | (simp [*, al, ak] <;> rfl), by repeat (first | (with_reducible first | exact HB.out | apply a6 | apply a4 | apply a5 | refine aa ?_ dx.out) | exact HB.out)⟩
end Go.Proofs.Ytcbpkdemcdikaaa.X
