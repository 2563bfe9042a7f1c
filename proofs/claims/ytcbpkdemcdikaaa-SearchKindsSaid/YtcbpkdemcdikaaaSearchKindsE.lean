/- Proved here: parts of the walk and of the plain law of SearchKinds, put into one text (names and lines made short by a program). -/
import Derived.Test.YtcbpkdemcdikaaaSearchKindsD
import Derived.Shelf.Abstract
namespace Go.Proofs.Ytcbpkdemcdikaaa.X
open Go.RowKit Go.Proofs.YtcbpkdemcdikaaaW.PrintWords Go.Proofs.YtcbpkdemcdikaaaW.PrintLast Go.Proofs.YtcbpkdemcdikaaaW.PrintMore
attribute [local go_sem] ay az aN aM ao ap aw ax
set_option linter.unusedVariables false
set_option linter.unusedSimpArgs false
namespace SF
set_option maxHeartbeats 4000000
theorem wr64 (n : Int) (h : -9223372036854775808 ≤ n) (h2 : n ≤ 9223372036854775807) : wrap64 n = n := by unfold wrap64; omega
theorem eP (l : List Int) (k : Nat) (h : k < l.length) : l.take (k + 1) = l.take k ++ [rd l (k : Int)] := by
  rw [List.take_succ_eq_append_getElem h]
  simp [rd, List.getD, List.getElem?_eq_getElem h]
theorem equal_calls (A0 : Option Addr) (c0 : Nat) (l0 : List Int) (A1 : Option Addr) (c1 : Nat) (l1 : List Int) (w : World) (hr0 : Kd.C (Kd.int .i64) w A0 l0.length l0) (hr1 : Kd.C (Kd.int .i64) w A1 l1.length l1) :
    Calls Try.prog 74 #[.slice A0 l0.length c0, .slice A1 l1.length c1] w fun e w' => e = .returned (.bool (decide (l0 = l1))) ∧ Below w.heap.size w w' := by
  have HM := Aside0.mk (Kd.C_max hr0)
  have HR0 := Aside0.mk hr0
  have HR1 := Aside0.mk hr1
  clear hr0 hr1
  by_cases c3 : (l0.length : Int) = (l1.length : Int)
  · have c3b0 : ((l0.length : Int) == (l1.length : Int)) = true := beq_iff_eq.mpr c3
    have c3b1 : ((l0.length : Int) != (l1.length : Int)) = false := bne_eq_false_iff_eq.mpr c3
    have c3b2 : (l0.length == l1.length) = true := beq_iff_eq.mpr (by omega)
    have HL := Aside0.mk (show l0.length = l1.length by omega)
    clear c3
    go_enter Try.func74, Try.ntmps74
    go_wp2
    repeat (go_quiet (fail); try go_wp2)
    go_loopg [5, 13] l0.length (fun gg _ v13 wr => ∃ kk : Nat, v13 = .int .i64 kk ∧ Aside0 (kk ≤ l0.length) ∧ Aside0 (l0.length - kk ≤ gg) ∧ Aside0 (l0.take kk = l1.take kk) ∧ Aside0 (Below w.heap.size w wr))
    case atStart => exact ⟨0, rfl, ⟨Nat.zero_le _⟩, ⟨by omega⟩, ⟨rfl⟩, ⟨by repeat (first | exact Below.refl _ _ | apply a4 | apply a5)⟩⟩
    case round =>
      obtain ⟨kk, rfl, HK, HG, HT, HB⟩ := hrel
      by_cases c4 : kk < l0.length
      · have c4b : decide ((kk : Int) < (l0.length : Int)) = true := decide_eq_true (by omega)
        have c4n : decide (kk < l0.length) = true := decide_eq_true c4
        have p0 : 0 ≤ (kk : Int) := by omega
        have q0 : (kk : Int) < (l0.length : Int) := by omega
        have q1 : (kk : Int) < (l1.length : Int) := by have := HL.out; omega
        obtain ⟨ad0, e0, hx0⟩ := Kd.at_int (Kd.C_below HR0.out HB.out) kk p0 q0
        obtain ⟨ad1, e1, hx1⟩ := Kd.at_int (Kd.C_below HR1.out HB.out) kk p0 q1
        subst e0 e1
        rw [Int.toNat_natCast] at hx0 hx1
        have n0 : (kk < l0.length) = True := eq_true c4
        have n1 : (kk < l1.length) = True := eq_true (by omega)
        replace p0 := eq_true p0
        replace q0 := eq_true q0
        replace q1 := eq_true q1
        have HC := Aside0.mk c4
        clear c4
        by_cases c7 : (rd l0 kk) = (rd l1 kk)
        · have c7b1 : ((rd l0 kk) != (rd l1 kk)) = false := bne_eq_false_iff_eq.mpr c7
          have HE := Aside0.mk c7
          clear c7
          go_wp2
          repeat (go_quiet (fail); try go_wp2)
          go_roundg (l0.length - (kk + 1))
          case measure => have := HG.out; have := HC.out; omega
          case rel =>
            have hm := HM.out; have hc := HC.out
            exact ⟨kk + 1, by rw [wr64 _ (by omega) (by omega)]; rfl, ⟨HC.out⟩, ⟨by omega⟩, ⟨by rw [eP l0 kk HC.out, eP l1 kk (by have := HL.out; have := HC.out; omega), HT.out, HE.out]⟩, ⟨by repeat (first | exact HB.out | apply a4 | apply a5)⟩⟩
        · have c7b1 : ((rd l0 kk) != (rd l1 kk)) = true := bne_iff_ne.mpr c7
          have HE := Aside0.mk c7
          clear c7
          go_wp2
          repeat (go_quiet (fail); try go_wp2)
          go_ret
          refine ⟨?_, by repeat (first | exact HB.out | apply a4 | apply a5)⟩
          rw [decide_eq_false (by intro he; subst he; exact HE.out rfl)]; rfl
      · have c4b : decide ((kk : Int) < (l0.length : Int)) = false := decide_eq_false (by omega)
        have c4n : decide (kk < l0.length) = false := decide_eq_false c4
        have HC := Aside0.mk c4
        clear c4
        go_wp2
        repeat (go_quiet (fail); try go_wp2)
        go_ret
        refine ⟨?_, by repeat (first | exact HB.out | apply a4 | apply a5)⟩
        have hk : kk = l0.length := by have := HK.out; have := HC.out; omega
        have := HT.out
        rw [hk, List.take_length, HL.out, List.take_length] at this
        rw [decide_eq_true this]; rfl
  · have c3b0 : ((l0.length : Int) == (l1.length : Int)) = false := beq_eq_false_iff_ne.mpr c3
    have c3b1 : ((l0.length : Int) != (l1.length : Int)) = true := bne_iff_ne.mpr c3
    have c3b2 : (l0.length == l1.length) = false := by simpa using (show ¬ l0.length = l1.length by omega)
    have HC := Aside0.mk c3
    clear c3
    go_enter Try.func74, Try.ntmps74
    go_wp2
    repeat (go_quiet (fail); try go_wp2)
    go_ret
    refine ⟨?_, by repeat (first | exact Below.refl _ _ | apply a4 | apply a5)⟩
    rw [decide_eq_false (by intro he; subst he; exact HC.out rfl)]; rfl
def RowP (g : Nat) (lb : Array Value) (p : List Int → Bool) (w : World) : Prop :=
  ∀ (W : World) (A : Option Addr) (c : Nat) (l : List Int), Below w.heap.size w W → l.length ≤ c → Kd.C (Kd.int .i64) W A l.length l → Calls Try.prog g (#[.slice A l.length c] ++ lb) W fun e w' => e = .returned (.bool (p l)) ∧ Below W.heap.size W w'
theorem RowP.later {g : Nat} {lb : Array Value} {p : List Int → Bool} {w W : World} (h : RowP g lb p w) (hb : Below w.heap.size w W) : RowP g lb p W := fun W' A c l h1 h2 h3 => h W' A c l (hb.trans (h1.mono hb.size)) h2 h3
def bQ {α : Type} (p : α → Bool) : List α → Nat → Int
  | [], _ => -1
  | x :: l, i => if p x then (i : Int) else bQ p l (i + 1)
theorem fa {α : Type} (p : α → Bool) (z : α) : ∀ (l : List α) (k i : Nat), k < l.length → p (l.getD k z) = true → (∀ j, j < k → p (l.getD j z) = false) → bQ p l i = ((i + k : Nat) : Int)
  | [], k, i, h, _, _ => absurd h (by simp)
  | x :: l, 0, i, _, h, _ => by simp only [List.getD_cons_zero] at h; simp [bQ, h]
  | x :: l, k + 1, i, hk, h, hj => by
      have h0 := hj 0 (by omega)
      simp only [List.getD_cons_zero] at h0
      simp only [bQ, h0]
      rw [if_neg (by simp), fa p z l k (i + 1) (by simpa using hk) (by simpa using h) (fun j hjk => by simpa using hj (j + 1) (by omega))]
      congr 1; omega
theorem e7 {α : Type} (p : α → Bool) (z : α) : ∀ (l : List α) (i : Nat), (∀ j, j < l.length → p (l.getD j z) = false) → bQ p l i = -1
  | [], _, _ => rfl
  | x :: l, i, hj => by
      have h0 := hj 0 (by simp)
      simp only [List.getD_cons_zero] at h0
      simp only [bQ, h0]
      rw [if_neg (by simp), e7 p z l (i + 1) (fun j hjk => by simpa using hj (j + 1) (by simpa using hjk))]
theorem firstB_ge {α : Type} (p : α → Bool) : ∀ (l : List α) (i : Nat), 0 ≤ bQ p l i ↔ l.any p = true
  | [], _ => by simp [bQ]
  | x :: l, i => by
      have ih := firstB_ge p l (i + 1)
      unfold bQ
      by_cases h : p x = true
      · simp [h]
      · rw [if_neg h, ih]; simp [h]
theorem dP {α : Type} (p : α → Bool) (l : List α) (i : Nat) : decide (bQ p l i ≥ 0) = l.any p := by
  rw [Bool.eq_iff_iff, decide_eq_true_iff]; exact firstB_ge p l i
theorem firstB_any' {α : Type} (p : α → Bool) (l : List α) (i : Nat) : decide (0 ≤ bQ p l i) = l.any p := dP p l i
theorem fS (A0 : Option Addr) (c0 : Nat) (l0 : List (List Int)) (g : Nat) (lb : Array Value) (p : List Int → Bool) (eg : ∀ args w, (callFunc g args).run Try.prog w = .ok (.enter g args) w) (w : World)
    (hr0 : Kd.C (Kd.slice 3 (Kd.int .i64)) w A0 l0.length l0) (hp : RowP g lb p w) :
    Calls Try.prog 69 #[.slice A0 l0.length c0, .func (.func g) #[] lb] w fun e w' => e = .returned (.int .i64 (bQ p l0 0)) ∧ Below w.heap.size w w' := by
  have HM := Aside0.mk (Kd.C_max hr0)
  have HR0 := Aside0.mk hr0
  have HP := Aside0.mk hp
  clear hr0 hp
  go_enter Try.func69, Try.ntmps69
  go_wp2
  repeat (go_quiet (fail); try go_wp2)
  go_loopg [5, 8] l0.length (fun gg _ v8 wr => ∃ kk : Nat, v8 = .int .i64 kk ∧ Aside0 (kk ≤ l0.length) ∧ Aside0 (l0.length - kk ≤ gg) ∧ Aside0 (∀ j, j < kk → p (l0.getD j []) = false) ∧ Aside0 (Below w.heap.size w wr))
  case atStart => exact ⟨0, rfl, ⟨Nat.zero_le _⟩, ⟨by omega⟩, ⟨fun j hj => absurd hj (by omega)⟩, ⟨by repeat (first | exact Below.refl _ _ | apply a4 | apply a5)⟩⟩
  case round =>
    obtain ⟨kk, rfl, HK, HG, HT, HB⟩ := hrel
    by_cases c4 : kk < l0.length
    · have c4b : decide ((kk : Int) < (l0.length : Int)) = true := decide_eq_true (by omega)
      have c4n : decide (kk < l0.length) = true := decide_eq_true c4
      have p0 : 0 ≤ (kk : Int) := by omega
      have q0 : (kk : Int) < (l0.length : Int) := by omega
      obtain ⟨ad0, B0, d0, e0, hx0, hl0, hc0⟩ := f5 (Kd.C_below HR0.out HB.out) kk p0 q0
      subst e0
      rw [Int.toNat_natCast] at hx0
      have n0 : (kk < l0.length) = True := eq_true c4
      replace p0 := eq_true p0
      replace q0 := eq_true q0
      have HC := Aside0.mk c4
      clear c4
      have HP1 := Aside0.mk (fun (W : World) (hb : Below wr.heap.size wr W) => ((HP.out W B0 d0 (aJ l0 kk) (HB.out.trans (hb.mono HB.out.size)) hl0 (Kd.C_below hc0 hb)).mono (R' := fun e w' => e = .returned (.bool (p (aJ l0 kk))) ∧ Below w.heap.size w w') (fun e w' ⟨he, h⟩ => ⟨he, (HB.out.trans (hb.mono HB.out.size)).trans (h.mono (HB.out.trans (hb.mono HB.out.size)).size)⟩)))
      cases hq : p (aJ l0 kk) with
      | true =>
        have HQ := Aside0.mk hq
        clear hq
        go_wp2_with (go_at_fn g; refine (HP1.out _ (by repeat (first | exact Below.refl _ _ | apply a4 | apply a5))).mono ?_; rintro e w' ⟨rfl, hb'⟩; rw [HQ.out]; have HB' := Aside0.mk hb'; clear hb')
        go_ret
        refine ⟨?_, HB'.out⟩
        rw [fa p [] l0 kk 0 HC.out (by simpa [aJ] using HQ.out) HT.out, Nat.zero_add]
        rfl
      | false =>
        have HQ := Aside0.mk hq
        clear hq
        go_wp2_with (go_at_fn g; refine (HP1.out _ (by repeat (first | exact Below.refl _ _ | apply a4 | apply a5))).mono ?_; rintro e w' ⟨rfl, hb'⟩; rw [HQ.out]; have HB' := Aside0.mk hb'; clear hb')
        go_roundg (l0.length - (kk + 1))
        case measure => have := HG.out; have := HC.out; omega
        case rel =>
          have hm := HM.out; have hc := HC.out
          exact ⟨kk + 1, by rw [wr64 _ (by omega) (by omega)]; rfl, ⟨HC.out⟩, ⟨by omega⟩, ⟨fun j hj => by
            rcases Nat.lt_or_eq_of_le (Nat.le_of_lt_succ hj) with h | rfl
            · exact HT.out j h
            · simpa [aJ] using HQ.out⟩, ⟨by repeat (first | exact HB'.out | apply a4 | apply a5)⟩⟩
    · have c4b : decide ((kk : Int) < (l0.length : Int)) = false := decide_eq_false (by omega)
      have c4n : decide (kk < l0.length) = false := decide_eq_false c4
      have HC := Aside0.mk c4
      clear c4
      go_wp2
      repeat (go_quiet (fail); try go_wp2)
      go_ret
      refine ⟨?_, by repeat (first | exact HB.out | apply a4 | apply a5)⟩
      have hk : kk = l0.length := by have := HK.out; have := HC.out; omega
      rw [e7 p [] l0 0 (fun j hj => HT.out j (by omega))]
      rfl
theorem ce (A0 : Option Addr) (c0 : Nat) (l0 : List (List Int)) (g : Nat) (lb : Array Value) (p : List Int → Bool) (eg : ∀ args w, (callFunc g args).run Try.prog w = .ok (.enter g args) w) (w : World)
    (hr0 : Kd.C (Kd.slice 3 (Kd.int .i64)) w A0 l0.length l0) (hp : RowP g lb p w) :
    Calls Try.prog 55 #[.slice A0 l0.length c0, .func (.func g) #[] lb] w fun e w' => e = .returned (.bool (l0.any p)) ∧ Below w.heap.size w w' := by
  rw [← firstB_any' p l0 0]
  have H := Aside0.mk (fun (W : World) (hb : Below w.heap.size w W) => fS A0 c0 l0 g lb p eg W (Kd.C_below hr0 hb) (hp.later hb))
  clear hr0 hp
  go_enter Try.func55, Try.ntmps55
  go_wp2_with (go_at_call 69; refine (H.out _ (by repeat (first | exact Below.refl _ _ | apply a4 | apply a5))).mono ?_; rintro e w' ⟨rfl, hb'⟩; have HB' := Aside0.mk hb'; clear hb')
  go_ret
  exact ⟨rfl, HB'.out⟩
def RuleP (g : Nat) (lb : Array Value) (ok : S49 → Prop) (p : S49 → Bool) (w : World) : Prop :=
  ∀ (W : World) (x : S49) (A2 : Option Addr) (c2 : Nat) (A3 : Option Addr) (c3 : Nat), ok x → Below w.heap.size w W → x.f2.length ≤ c2 → Kd.C (Kd.int .i64) W A2 x.f2.length x.f2 → x.f3.length ≤ c3 → Kd.C (Kd.slice 3 (Kd.int .i64)) W A3 x.f3.length x.f3 →
    Calls Try.prog g (#[.agg #[.int .i64 x.f0, .int .i64 x.f1, .slice A2 x.f2.length c2, .slice A3 x.f3.length c3]] ++ lb) W fun e w' => e = .returned (.bool (p x)) ∧ Below W.heap.size W w'
theorem ft (A0 : Option Addr) (c0 : Nat) (l0 : List S49) (g : Nat) (lb : Array Value) (ok : S49 → Prop) (p : S49 → Bool) (eg : ∀ args w, (callFunc g args).run Try.prog w = .ok (.enter g args) w) (w : World)
    (hr0 : Kd.C k49 w A0 l0.length l0) (hok : ∀ x ∈ l0, ok x) (hp : RuleP g lb ok p w) :
    Calls Try.prog 71 #[.slice A0 l0.length c0, .func (.func g) #[] lb] w fun e w' => e = .returned (.int .i64 (bQ p l0 0)) ∧ Below w.heap.size w w' := by
  have HM := Aside0.mk (Kd.C_max hr0)
  have HR0 := Aside0.mk hr0
  have HP := Aside0.mk hp
  have HOK := Aside0.mk hok
  clear hr0 hp hok
  go_enter Try.func71, Try.ntmps71
  go_wp2
  repeat (go_quiet (fail); try go_wp2)
  go_loopg [5, 8] l0.length (fun gg _ v8 wr => ∃ kk : Nat, v8 = .int .i64 kk ∧ Aside0 (kk ≤ l0.length) ∧ Aside0 (l0.length - kk ≤ gg) ∧ Aside0 (∀ j, j < kk → p (l0.getD j z49) = false) ∧ Aside0 (Below w.heap.size w wr))
  case atStart => exact ⟨0, rfl, ⟨Nat.zero_le _⟩, ⟨by omega⟩, ⟨fun j hj => absurd hj (by omega)⟩, ⟨by repeat (first | exact Below.refl _ _ | apply a4 | apply a5)⟩⟩
  case round =>
    obtain ⟨kk, rfl, HK, HG, HT, HB⟩ := hrel
    by_cases c4 : kk < l0.length
    · have c4b : decide ((kk : Int) < (l0.length : Int)) = true := decide_eq_true (by omega)
      have c4n : decide (kk < l0.length) = true := decide_eq_true c4
      have p0 : 0 ≤ (kk : Int) := by omega
      have q0 : (kk : Int) < (l0.length : Int) := by omega
      obtain ⟨ad0, A2, c2, A3, c3, e0, hx0, hx1, hx2, hx3, hl2, hi2, hl3, hi3⟩ := dH (Kd.C_below HR0.out HB.out) kk p0 q0
      subst e0
      rw [Int.toNat_natCast] at hx0 hx1 hx2 hx3
      have hu49 := Try.underlying49
      have n0 : (kk < l0.length) = True := eq_true c4
      replace p0 := eq_true p0
      replace q0 := eq_true q0
      have HC := Aside0.mk c4
      clear c4
      have HP1 := Aside0.mk (fun (W : World) (hb : Below wr.heap.size wr W) => ((HP.out W (ag l0 kk) A2 c2 A3 c3 (HOK.out _ (by rw [show ag l0 (kk : Int) = l0[kk]'HC.out by simp [ag, List.getD, List.getElem?_eq_getElem HC.out]]; exact List.getElem_mem _)) (HB.out.trans (hb.mono HB.out.size)) hl2 (Kd.C_below hi2 hb) hl3 (Kd.C_below hi3 hb)).mono (R' := fun e w' => e = .returned (.bool (p (ag l0 kk))) ∧ Below w.heap.size w w') (fun e w' ⟨he, h⟩ => ⟨he, (HB.out.trans (hb.mono HB.out.size)).trans (h.mono (HB.out.trans (hb.mono HB.out.size)).size)⟩)))
      cases hq : p (ag l0 kk) with
      | true =>
        have HQ := Aside0.mk hq
        clear hq
        go_wp2_with (go_at_fn g; refine (HP1.out _ (by repeat (first | exact Below.refl _ _ | apply a4 | apply a5))).mono ?_; rintro e w' ⟨rfl, hb'⟩; rw [HQ.out]; have HB' := Aside0.mk hb'; clear hb')
        go_ret
        refine ⟨?_, HB'.out⟩
        rw [fa p z49 l0 kk 0 HC.out (by simpa [ag] using HQ.out) HT.out, Nat.zero_add]
        rfl
      | false =>
        have HQ := Aside0.mk hq
        clear hq
        go_wp2_with (go_at_fn g; refine (HP1.out _ (by repeat (first | exact Below.refl _ _ | apply a4 | apply a5))).mono ?_; rintro e w' ⟨rfl, hb'⟩; rw [HQ.out]; have HB' := Aside0.mk hb'; clear hb')
        go_roundg (l0.length - (kk + 1))
        case measure => have := HG.out; have := HC.out; omega
        case rel =>
          have hm := HM.out; have hc := HC.out
          exact ⟨kk + 1, by rw [wr64 _ (by omega) (by omega)]; rfl, ⟨HC.out⟩, ⟨by omega⟩, ⟨fun j hj => by
            rcases Nat.lt_or_eq_of_le (Nat.le_of_lt_succ hj) with h | rfl
            · exact HT.out j h
            · simpa [ag] using HQ.out⟩, ⟨by repeat (first | exact HB'.out | apply a4 | apply a5)⟩⟩
    · have c4b : decide ((kk : Int) < (l0.length : Int)) = false := decide_eq_false (by omega)
      have c4n : decide (kk < l0.length) = false := decide_eq_false c4
      have HC := Aside0.mk c4
      clear c4
      go_wp2
      repeat (go_quiet (fail); try go_wp2)
      go_ret
      refine ⟨?_, by repeat (first | exact HB.out | apply a4 | apply a5)⟩
      have hk : kk = l0.length := by have := HK.out; have := HC.out; omega
      rw [e7 p z49 l0 0 (fun j hj => HT.out j (by omega))]
      rfl
def IntP (g : Nat) (lb : Array Value) (bad : Int → Int → Bool) (w : World) : Prop :=
  ∀ (W : World) (a b : Int), Below w.heap.size w W → Calls Try.prog g (#[.int .i64 a, .int .i64 b] ++ lb) W fun e w' => e = .returned (.bool (bad a b)) ∧ Below W.heap.size W w'
def dZ (bad : Int → Int → Bool) (l : List Int) : Bool := (List.range l.length).all fun i => (List.range i).all fun j => !bad (rd l (j : Int)) (rd l (i : Int))
theorem noneB_true {bad : Int → Int → Bool} {l : List Int} (h : ∀ i, i < l.length → ∀ j, j < i → bad (rd l (j : Int)) (rd l (i : Int)) = false) : dZ bad l = true := by
  simp only [dZ, List.all_eq_true, List.mem_range]
  intro i hi j hj
  rw [h i hi j hj]; rfl
theorem noneB_false {bad : Int → Int → Bool} {l : List Int} (i j : Nat) (hi : i < l.length) (hj : j < i) (h : bad (rd l (j : Int)) (rd l (i : Int)) = true) : dZ bad l = false := by
  rw [Bool.eq_false_iff]
  intro hn
  simp only [dZ, List.all_eq_true, List.mem_range] at hn
  have := hn i hi j hj
  rw [h] at this
  exact absurd this (by simp)
theorem eZ (A0 : Option Addr) (c0 : Nat) (l0 : List Int) (fv : Value) (g : Nat) (lb : Array Value) (hfv : fv = .func (.func g) #[] lb) (bad : Int → Int → Bool) (eg : ∀ args w, (callFunc g args).run Try.prog w = .ok (.enter g args) w) (w : World)
    (hr0 : Kd.C (Kd.int .i64) w A0 l0.length l0) (hc0 : l0.length ≤ c0) (hp : IntP g lb bad w) :
    Calls Try.prog 75 #[.slice A0 l0.length c0, fv] w fun e w' => e = .returned (.bool (dZ bad l0)) ∧ Below w.heap.size w w' := by
  subst hfv
  have HM := Aside0.mk (Kd.C_max hr0)
  have HR0 := Aside0.mk hr0
  have HC0 := Aside0.mk hc0
  have HP := Aside0.mk hp
  clear hr0 hp hc0
  go_enter Try.func75, Try.ntmps75
  go_wp2
  repeat (go_quiet (fail); try go_wp2)
  go_loopg [5, 6, 11] l0.length (fun gg _ _ v8 wr => ∃ kk : Nat, v8 = .int .i64 kk ∧ Aside0 (kk ≤ l0.length) ∧ Aside0 (l0.length - kk ≤ gg) ∧ Aside0 (∀ i, i < kk → ∀ j, j < i → bad (rd l0 (j : Int)) (rd l0 (i : Int)) = false) ∧ Aside0 (Below w.heap.size w wr))
  case atStart => exact ⟨0, rfl, ⟨Nat.zero_le _⟩, ⟨by omega⟩, ⟨fun j hj => absurd hj (by omega)⟩, ⟨by repeat (first | exact Below.refl _ _ | apply a4 | apply a5)⟩⟩
  case round =>
    obtain ⟨kk, rfl, HK, HG, HT, HB⟩ := hrel
    by_cases c4 : kk < l0.length
    · have c4b : decide ((kk : Int) < (l0.length : Int)) = true := decide_eq_true (by omega)
      have c4n : decide (kk < l0.length) = true := decide_eq_true c4
      have p0 : 0 ≤ (kk : Int) := by omega
      have q0 : (kk : Int) < (l0.length : Int) := by omega
      obtain ⟨ad0, e0, hx0⟩ := Kd.at_int (Kd.C_below HR0.out HB.out) kk p0 q0
      subst e0
      rw [Int.toNat_natCast] at hx0
      have n0 : (kk < l0.length) = True := eq_true c4
      have n1 : (kk ≤ c0) = True := eq_true (by have := HC0.out; omega)
      have n2 : ((kk : Int) ≤ (c0 : Int)) = True := eq_true (by have := HC0.out; omega)
      replace p0 := eq_true p0
      replace q0 := eq_true q0
      have HC := Aside0.mk c4
      clear c4
      go_wp2_with (fail)
      repeat (go_quiet (fail); try go_wp2)
      go_loopg [8, 20] kk (fun gi _ v20 wi => ∃ jj : Nat, v20 = .int .i64 jj ∧ Aside0 (jj ≤ kk) ∧ Aside0 (kk - jj ≤ gi) ∧ Aside0 (∀ j, j < jj → bad (rd l0 (j : Int)) (rd l0 (kk : Int)) = false) ∧ Aside0 (Below w.heap.size w wi))
      case atStart => exact ⟨0, rfl, ⟨Nat.zero_le _⟩, ⟨by omega⟩, ⟨fun j hj => absurd hj (by omega)⟩, ⟨by repeat (first | exact HB.out | apply a4 | apply a5)⟩⟩
      case round =>
        obtain ⟨jj, rfl, HJ, HGi, HTi, HBi⟩ := hrel
        by_cases c5 : jj < kk
        · have c5b : decide ((jj : Int) < (kk : Int)) = true := decide_eq_true (by omega)
          have c5n : decide (jj < kk) = true := decide_eq_true c5
          have p1 : 0 ≤ (jj : Int) := by omega
          have q1 : (jj : Int) < (l0.length : Int) := by have := HC.out; omega
          obtain ⟨ad1, e1, hx1⟩ := Kd.at_int (Kd.C_below HR0.out HBi.out) jj p1 q1
          cases e1
          rw [Int.toNat_natCast] at hx1
          have n5 : (jj < kk) = True := eq_true c5
          have q5 : ((jj : Int) < (kk : Int)) = True := eq_true (by omega)
          replace p1 := eq_true p1
          have HCi := Aside0.mk c5
          clear c5 q1
          have HP1 := Aside0.mk (fun (W : World) (hb : Below wr.heap.size wr W) => ((HP.out W (rd l0 jj) (rd l0 kk) (HBi.out.trans (hb.mono HBi.out.size))).mono (R' := fun e w' => e = .returned (.bool (bad (rd l0 jj) (rd l0 kk))) ∧ Below w.heap.size w w') (fun e w' ⟨he, h⟩ => ⟨he, (HBi.out.trans (hb.mono HBi.out.size)).trans (h.mono (HBi.out.trans (hb.mono HBi.out.size)).size)⟩)))
          cases hq : bad (rd l0 jj) (rd l0 kk) with
          | true =>
            have HQ := Aside0.mk hq
            clear hq
            go_wp2_with (go_at_fn g; refine (HP1.out _ (by repeat (first | exact Below.refl _ _ | apply a4 | apply a5))).mono ?_; rintro e w' ⟨rfl, hb'⟩; rw [HQ.out]; have HB' := Aside0.mk hb'; clear hb')
            go_ret
            refine ⟨?_, HB'.out⟩
            rw [noneB_false kk jj HC.out HCi.out HQ.out]
            rfl
          | false =>
            have HQ := Aside0.mk hq
            clear hq
            go_wp2_with (go_at_fn g; refine (HP1.out _ (by repeat (first | exact Below.refl _ _ | apply a4 | apply a5))).mono ?_; rintro e w' ⟨rfl, hb'⟩; rw [HQ.out]; have HB' := Aside0.mk hb'; clear hb')
            go_roundg (kk - (jj + 1))
            case measure => have := HGi.out; have := HCi.out; omega
            case rel =>
              have hm := HM.out; have hc := HC.out; have hci := HCi.out
              exact ⟨jj + 1, by rw [wr64 _ (by omega) (by omega)]; rfl, ⟨HCi.out⟩, ⟨by omega⟩, ⟨fun j hj => by
                rcases Nat.lt_or_eq_of_le (Nat.le_of_lt_succ hj) with h | rfl
                · exact HTi.out j h
                · exact HQ.out⟩, ⟨by repeat (first | exact HB'.out | apply a4 | apply a5)⟩⟩
        · have c5b : decide ((jj : Int) < (kk : Int)) = false := decide_eq_false (by omega)
          have c5n : decide (jj < kk) = false := decide_eq_false c5
          have HCi := Aside0.mk c5
          clear c5
          go_wp2
          repeat (go_quiet (fail); try go_wp2)
          go_roundg (l0.length - (kk + 1))
          case measure => have := HG.out; have := HC.out; omega
          case rel =>
            have hm := HM.out; have hc := HC.out; have hci := HCi.out; have hj2 := HJ.out
            exact ⟨kk + 1, by rw [wr64 _ (by omega) (by omega)]; rfl, ⟨HC.out⟩, ⟨by omega⟩, ⟨fun i hi j hj => by
                rcases Nat.lt_or_eq_of_le (Nat.le_of_lt_succ hi) with h | rfl
                · exact HT.out i h j hj
                · exact HTi.out j (by omega)⟩, ⟨by repeat (first | exact HBi.out | apply a4 | apply a5)⟩⟩
    · have c4b : decide ((kk : Int) < (l0.length : Int)) = false := decide_eq_false (by omega)
      have c4n : decide (kk < l0.length) = false := decide_eq_false c4
      have HC := Aside0.mk c4
      clear c4
      go_wp2
      repeat (go_quiet (fail); try go_wp2)
      go_ret
      refine ⟨?_, by repeat (first | exact HB.out | apply a4 | apply a5)⟩
      rw [noneB_true (fun i hi j hj => HT.out i (by have := HC.out; have := HK.out; omega) j hj)]
      rfl
end SF
end Go.Proofs.Ytcbpkdemcdikaaa.X
namespace Go.Proofs.Ytcbpkdemcdikaaa.X
open Go.RowKit Go.Proofs.YtcbpkdemcdikaaaW.PrintWords Go.Proofs.YtcbpkdemcdikaaaW.PrintLast Go.Proofs.YtcbpkdemcdikaaaW.PrintMore
attribute [local go_sem] ay az aN aM ao ap aw ax
set_option linter.unusedVariables false
set_option linter.unusedSimpArgs false
namespace SF
set_option maxHeartbeats 4000000
theorem differ_pred (w : World) : IntP 76 #[] (fun a b => a == b) w := fun W a b _ => by
  show Calls Try.prog 76 #[.int .i64 a, .int .i64 b] W _
  go_enter Try.func76, Try.ntmps76
  go_wp2
  repeat (go_quiet (fail); try go_wp2)
  go_ret
  exact ⟨rfl, by repeat (first | exact Below.refl _ _ | apply a4 | apply a5)⟩
theorem order_pred (w : World) : IntP 78 #[] (fun a b => decide (a ≥ b)) w := fun W a b _ => by
  show Calls Try.prog 78 #[.int .i64 a, .int .i64 b] W _
  go_enter Try.func78, Try.ntmps78
  go_wp2
  repeat (go_quiet (fail); try go_wp2)
  go_ret
  exact ⟨rfl, by repeat (first | exact Below.refl _ _ | apply a4 | apply a5)⟩
theorem apart_pred (w : World) (B : Nat) (n : Int) (hB : B < w.heap.size) (hc : w.cell? ⟨B, 1, none⟩ = some (.int .i64 n)) : IntP 77 #[.pointer (some ⟨B, 0, none⟩)] (fun a b => decide (wrap64 (max a b - min a b) < n)) w := fun W a b hb => by
  have hc' : W.cell? ⟨B, 1, none⟩ = some (.int .i64 n) := (hb.cell (p := ⟨B, 1, none⟩) hB).trans hc
  show Calls Try.prog 77 #[.int .i64 a, .int .i64 b, .pointer (some ⟨B, 0, none⟩)] W _
  go_enter Try.func77, Try.ntmps77
  go_wp2
  all_goals
    repeat (go_quiet (fail); try go_wp2)
    go_ret
    refine ⟨?_, by repeat (first | exact Below.refl _ _ | apply a4 | apply a5)⟩
    first
    | (show Ending.returned (Value.bool (decide (wrap64 (b - a) < n))) = _; rw [show max a b - min a b = b - a by omega])
    | (show Ending.returned (Value.bool (decide (wrap64 (a - b) < n))) = _; rw [show max a b - min a b = a - b by omega])
    | (show Ending.returned (Value.bool (decide (wrap64 (a - a) < n))) = _; rw [show max a b - min a b = a - a by omega])
    | (show Ending.returned (Value.bool (decide (wrap64 0 < n))) = _; rw [show max a b - min a b = 0 by omega])
theorem differ_calls (A0 : Option Addr) (c0 : Nat) (l0 : List Int) (a b c d : Value) (w : World) (hr0 : Kd.C (Kd.int .i64) w A0 l0.length l0) (hc0 : l0.length ≤ c0) :
    Calls Try.prog 65 #[.slice A0 l0.length c0, .agg #[a, b, c, d]] w fun e w' => e = .returned (.bool (dZ (fun a b => a == b) l0)) ∧ Below w.heap.size w w' := by
  have H := Aside0.mk (fun (W : World) (hb : Below w.heap.size w W) => eZ A0 c0 l0 _ 76 #[] rfl _ (enters_of Try.func76 (by kernel_rfl) rfl) W (Kd.C_below hr0 hb) hc0 (differ_pred W))
  clear hr0 hc0
  have HB0 := Aside0.mk (Below.refl w.heap.size w)
  go_enter Try.func65, Try.ntmps65
  go_wp2_with (go_at_call 75; refine (H.out _ (by repeat (first | exact HB0.out | apply a6 | apply a4 | apply a5))).mono ?_; rintro e w' ⟨rfl, hb'⟩; have HB' := Aside0.mk ((show Below w.heap.size w _ by repeat (first | exact HB0.out | apply a6 | apply a4 | apply a5)).trans (hb'.mono (Below.size (by repeat (first | exact HB0.out | apply a6 | apply a4 | apply a5))))); clear hb')
  go_ret
  exact ⟨rfl, HB'.out⟩
theorem order_calls (A0 : Option Addr) (c0 : Nat) (l0 : List Int) (a b c d : Value) (w : World) (hr0 : Kd.C (Kd.int .i64) w A0 l0.length l0) (hc0 : l0.length ≤ c0) :
    Calls Try.prog 67 #[.slice A0 l0.length c0, .agg #[a, b, c, d]] w fun e w' => e = .returned (.bool (dZ (fun a b => decide (a ≥ b)) l0)) ∧ Below w.heap.size w w' := by
  have H := Aside0.mk (fun (W : World) (hb : Below w.heap.size w W) => eZ A0 c0 l0 _ 78 #[] rfl _ (enters_of Try.func78 (by kernel_rfl) rfl) W (Kd.C_below hr0 hb) hc0 (order_pred W))
  clear hr0 hc0
  have HB0 := Aside0.mk (Below.refl w.heap.size w)
  go_enter Try.func67, Try.ntmps67
  go_wp2_with (go_at_call 75; refine (H.out _ (by repeat (first | exact HB0.out | apply a6 | apply a4 | apply a5))).mono ?_; rintro e w' ⟨rfl, hb'⟩; have HB' := Aside0.mk ((show Below w.heap.size w _ by repeat (first | exact HB0.out | apply a6 | apply a4 | apply a5)).trans (hb'.mono (Below.size (by repeat (first | exact HB0.out | apply a6 | apply a4 | apply a5))))); clear hb')
  go_ret
  exact ⟨rfl, HB'.out⟩
theorem apart_calls (A0 : Option Addr) (c0 : Nat) (l0 : List Int) (a : Value) (n : Int) (c d : Value) (w : World) (hr0 : Kd.C (Kd.int .i64) w A0 l0.length l0) (hc0 : l0.length ≤ c0) :
    Calls Try.prog 66 #[.slice A0 l0.length c0, .agg #[a, .int .i64 n, c, d]] w fun e w' => e = .returned (.bool (dZ (fun a b => decide (wrap64 (max a b - min a b) < n)) l0)) ∧ Below w.heap.size w w' := by
  have H := Aside0.mk (fun (W : World) (hb : Below w.heap.size w W) (hB : w.heap.size < W.heap.size) (hx : W.cell? ⟨w.heap.size, 1, none⟩ = some (.int .i64 n)) => eZ A0 c0 l0 _ 77 #[.pointer (some ⟨w.heap.size, 0, none⟩)] rfl _ (enters_of Try.func77 (by kernel_rfl) rfl) W (Kd.C_below hr0 hb) hc0 (apart_pred W w.heap.size n hB hx))
  clear hr0 hc0
  have HB0 := Aside0.mk (Below.refl w.heap.size w)
  go_enter Try.func66, Try.ntmps66
  go_wp2_with (go_at_call 75; refine (H.out _ (by repeat (first | exact HB0.out | apply a6 | apply a4 | apply a5)) (by simp) (by simp)).mono ?_; rintro e w' ⟨rfl, hb'⟩; have HB' := Aside0.mk ((show Below w.heap.size w _ by repeat (first | exact HB0.out | apply a6 | apply a4 | apply a5)).trans (hb'.mono (Below.size (by repeat (first | exact HB0.out | apply a6 | apply a4 | apply a5))))); clear hb')
  go_ret
  exact ⟨rfl, HB'.out⟩
theorem listed_pred (w : World) (B : Nat) (A0 : Option Addr) (c0 : Nat) (l0 : List Int) (hr0 : Kd.C (Kd.int .i64) w A0 l0.length l0) (hB : B < w.heap.size) (hc : w.cell? ⟨B, 0, none⟩ = some (.slice A0 l0.length c0)) :
    RowP 73 #[.pointer (some ⟨B, 0, none⟩)] (fun row => decide (row = l0)) w := fun W A c l hb hl hC => by
  have hc' : W.cell? ⟨B, 0, none⟩ = some (.slice A0 l0.length c0) := (hb.cell (p := ⟨B, 0, none⟩) hB).trans hc
  have H := Aside0.mk (fun (W' : World) (hb' : Below W.heap.size W W') => equal_calls A c l A0 c0 l0 W' (Kd.C_below hC hb') (Kd.C_below hr0 (hb.trans (hb'.mono hb.size))))
  clear hr0 hC hc
  have HB0 := Aside0.mk (Below.refl W.heap.size W)
  show Calls Try.prog 73 #[.slice A l.length c, .pointer (some ⟨B, 0, none⟩)] W _
  go_enter Try.func73, Try.ntmps73
  go_wp2_with (go_at_call 74; refine (H.out _ (by repeat (first | exact HB0.out | apply a6 | apply a4 | apply a5))).mono ?_; rintro e w' ⟨rfl, hb'⟩; have HB' := Aside0.mk ((show Below W.heap.size W _ by repeat (first | exact HB0.out | apply a6 | apply a4 | apply a5)).trans (hb'.mono (Below.size (by repeat (first | exact HB0.out | apply a6 | apply a4 | apply a5))))); clear hb')
  go_ret
  exact ⟨rfl, HB'.out⟩
theorem listed_calls (A0 : Option Addr) (c0 : Nat) (l0 : List Int) (a b c : Value) (A3 : Option Addr) (c3 : Nat) (l3 : List (List Int)) (w : World) (hr0 : Kd.C (Kd.int .i64) w A0 l0.length l0) (hc0 : l0.length ≤ c0) (hr3 : Kd.C (Kd.slice 3 (Kd.int .i64)) w A3 l3.length l3) :
    Calls Try.prog 64 #[.slice A0 l0.length c0, .agg #[a, b, c, .slice A3 l3.length c3]] w fun e w' => e = .returned (.bool (l3.any fun row => decide (row = l0))) ∧ Below w.heap.size w w' := by
  have H := Aside0.mk (fun (W : World) (hb : Below w.heap.size w W) (hB : w.heap.size < W.heap.size) (hx : W.cell? ⟨w.heap.size, 0, none⟩ = some (.slice A0 l0.length c0)) => ce A3 c3 l3 73 #[.pointer (some ⟨w.heap.size, 0, none⟩)] _ (enters_of Try.func73 (by kernel_rfl) rfl) W (Kd.C_below hr3 hb) (listed_pred W w.heap.size A0 c0 l0 (Kd.C_below hr0 hb) hB hx))
  clear hr0 hc0 hr3
  have HB0 := Aside0.mk (Below.refl w.heap.size w)
  go_enter Try.func64, Try.ntmps64
  go_wp2_with (go_at_call 55; refine (H.out _ (by repeat (first | exact HB0.out | apply a6 | apply a4 | apply a5)) (by simp; try omega) (by simp)).mono ?_; rintro e w' ⟨rfl, hb'⟩; have HB' := Aside0.mk ((show Below w.heap.size w _ by repeat (first | exact HB0.out | apply a6 | apply a4 | apply a5)).trans (hb'.mono (Below.size (by repeat (first | exact HB0.out | apply a6 | apply a4 | apply a5))))); clear hb')
  go_ret
  exact ⟨rfl, HB'.out⟩
end SF
end Go.Proofs.Ytcbpkdemcdikaaa.X
