/- Proved here: what the law function RoundsPrices returns (true), for arguments as the statement hands them in (three of them within 16 bits). -/
import Derived.Test.YtaagpnbnjdpjgaaX0
import Derived.Test.YtaagpnbnjdpjgaaX6
import Derived.Test.YtaagpnbnjdpjgaaX7
import Derived.Test.YtaagpnbnjdpjgaaX8
import Derived.Test.YtaagpnbnjdpjgaaX9
import Derived.Test.YtaagpnbnjdpjgaaX10
import Derived.Deep.Cut
import Derived.Test.YtaagpnbnjdpjgaaK
import Derived.Test.YtaagpnbnjdpjgaaR
import Derived.Test.YtaagpnbnjdpjgaaQ
import Derived.Test.YtaagpnbnjdpjgaaQPrices
import Derived.StillTailTactics
import Derived.BigQuiet
namespace Go.Proofs.Ytaagpnbnjdpjgaa.X
open Go.RowKit Go.Proofs.YtaagpnbnjdpjgaaW.PrintWords Go.Proofs.YtaagpnbnjdpjgaaW.PrintLast Go.Proofs.YtaagpnbnjdpjgaaW.PrintMore
attribute [local go_sem] max2_int min2_int max_two min_two max_three min_three max_four min_four
set_option linter.unusedVariables false
set_option linter.unusedSimpArgs false
namespace LP
open Go.Proofs.Ytaagpnbnjdpjgaa.K Go.Proofs.Ytaagpnbnjdpjgaa.R Go.Proofs.Ytaagpnbnjdpjgaa.Q Go.Shelf Go.BigFrame
attribute [local go_sem] Oper.semAt_some
/-- A row of rows that came in: its cells, and what each of them reads as. -/
theorem rows_cells {W : World} {A : Option Addr} {l2 : List (List Int)} (h : Kd.C (Kd.slice 3 (Kd.int .i64)) W A l2.length l2) (hn : 0 < l2.length) :
    ∃ (ad : Addr) (vs : List Value), A = some ad ∧ vs.length = l2.length ∧ (∀ (j : Nat) (u : Value), vs[j]? = some u → W.cell? (ad.add j) = some u) ∧ ∀ (j : Nat) (p : List Int), l2[j]? = some p → ∃ u, vs[j]? = some u ∧ (Kd.slice 3 (Kd.int .i64)).K W p [u] := by
  have h' : ReadsRow ((Kd.slice 3 (Kd.int .i64)).K W) 1 W A l2.length l2 := h
  obtain ⟨ad, rfl, _⟩ := h'.2.2 hn
  obtain ⟨vs, hr, hc⟩ := ReadsRow.inner_ h'
  have hl : vs.length = l2.length := by have := hr.1; omega
  refine ⟨ad, vs, rfl, hl, hc, fun j p hp => ?_⟩
  have hj : j < l2.length := (List.getElem?_eq_some_iff.1 hp).1
  have := hr.2 j p hp
  rw [Nat.mul_one, List.drop_eq_getElem_cons (by omega : j < vs.length), List.take_succ_cons, List.take_zero] at this
  exact ⟨vs[j], List.getElem?_eq_getElem (by omega), this⟩
/-- A row of slices of the call's own reads as the lists that its elements read as. -/
theorem rows_read {W : World} {base : Nat} {v : Value} {vs : List Value} {l : List (List Int)} (ho : W.ownsRow base 22 1 v l.length vs) (h : ∀ (j : Nat) (p : List Int), l[j]? = some p → ∃ u, vs[j]? = some u ∧ (Kd.slice 3 (Kd.int .i64)).K W p [u]) :
    ∃ A c, v = .slice A l.length c ∧ l.length ≤ c ∧ Kd.C (Kd.slice 3 (Kd.int .i64)) W A l.length l := by
  have hvl : vs.length = l.length := by have := ho.1; omega
  obtain ⟨A, c, rfl, hc⟩ := own_reads_row (R := (Kd.slice 3 (Kd.int .i64)).K W) (ps := l) ho ⟨by omega, fun j p hp => by
    obtain ⟨u, hu, hk⟩ := h j p hp
    have hj : j < vs.length := (List.getElem?_eq_some_iff.1 hu).1
    rw [Nat.mul_one, List.drop_eq_getElem_cons hj, List.take_succ_cons, List.take_zero]
    rw [List.getElem?_eq_getElem hj] at hu
    rw [Option.some.inj hu]
    exact hk⟩ rfl
  exact ⟨A, c, rfl, own_le ho, hc⟩
theorem own_some {w : World} {base n : Nat} {e : TypeId} {size : Nat} {v : Value} {xs : List Value} (h : w.ownsRow base e size v n xs) (hn : 0 < n) : ∃ g c, v = .slice (some ⟨g, 0, none⟩) n c ∧ base ≤ g ∧ g < w.heap.size := by
  rcases h.2 with ⟨_, h1⟩ | ⟨g, cap, cur, rfl, hb, hh, _⟩
  · omega
  · exact ⟨g, cap, rfl, hb, (Array.getElem?_eq_some_iff.1 hh).1⟩
theorem own_cell1 {W : World} {base g n cap : Nat} {e : TypeId} {xs : List Value} (h : W.ownsRow base e 1 (.slice (some ⟨g, 0, none⟩) n cap) n xs) (j : Nat) {u : Value} (hu : xs[j]? = some u) :
    W.cell? ⟨g, j, none⟩ = some u ∧ W.frozen? ⟨g, j, none⟩ = false := by
  constructor
  · have hc := h.cells (g := g) rfl j u hu
    rwa [add_plain] at hc
  · rcases h.2 with ⟨h', _⟩ | ⟨g', cap', cur, h', _, hh, _⟩
    · cases h'
    · have : g = g' := by injection h' with h'; injection h' with h'; injection h' with h'
      subst this
      simp [World.frozen?, hh]
theorem row_cells {W : World} {ad : Addr} {xs : List Int} (h : Kd.C (Kd.int .i64) W (some ad) xs.length xs) (j : Nat) (u : Value) (hu : (nums .i64 xs)[j]? = some u) : W.cell? (ad.add j) = some u := by
  have hj : j < xs.length := by have := (List.getElem?_eq_some_iff.1 hu).1; simpa [nums] using this
  obtain ⟨_, e, hc⟩ := Kd.at_int h (j : Int) (by omega) (by omega)
  injection e with e
  subst e
  rw [Int.toNat_natCast, rd_lt hj] at hc
  rw [hc, ← hu]
  simp [nums, List.getElem?_eq_getElem hj]
theorem nums_one (k : IntKind) (xs : List Int) : ∀ u ∈ nums k xs, u.oneCell' = true := fun u hu => by
  obtain ⟨x, _, rfl⟩ := List.mem_map.1 hu
  rfl
/-- The row of rows once its row kk has been put in. -/
theorem rows_set {w W : World} {base kk s1 cp1 s2 cp2 n : Nat} {vs : List Value} {l2 : List (List Int)} {row' : List Int} (ho : W.ownsRow base 22 1 (.slice (some ⟨s1, 0, none⟩) l2.length cp1) l2.length (vs.set kk (.slice (some ⟨s2, 0, none⟩) n cp2)))
    (ho' : W.ownsRow base 3 1 (.slice (some ⟨s2, 0, none⟩) n cp2) n (nums .i64 row')) (hn : row'.length = n) (hb : Below w.heap.size w W) (hvl : vs.length = l2.length) (hk : kk < l2.length)
    (hK : ∀ (j : Nat) (p : List Int), l2[j]? = some p → ∃ u, vs[j]? = some u ∧ (Kd.slice 3 (Kd.int .i64)).K w p [u]) :
    ∃ c, cp1 = c ∧ (l2.set kk row').length ≤ c ∧ Kd.C (Kd.slice 3 (Kd.int .i64)) W (some ⟨s1, 0, none⟩) (l2.set kk row').length (l2.set kk row') := by
  subst hn
  have h := rows_read (l := l2.set kk row') (W := W) (base := base) (v := .slice (some ⟨s1, 0, none⟩) l2.length cp1) (vs := vs.set kk (.slice (some ⟨s2, 0, none⟩) row'.length cp2)) (by rw [List.length_set]; exact ho) (fun j p hp => by
    by_cases hj : kk = j
    · subst hj
      rw [List.getElem?_set_self hk] at hp
      obtain rfl := Option.some.inj hp
      refine ⟨_, List.getElem?_set_self (by omega), some ⟨s2, 0, none⟩, cp2, rfl, own_le ho', ?_⟩
      obtain ⟨A, c, e, _, hC⟩ := Kd.R_reads (Kd.R_of_own (enc := Value.int .i64) (h1 := fun _ => rfl) (ok := fun _ => True) ho' (fun _ _ => trivial))
      injection e with e1 _ _
      subst e1
      exact hC
    · rw [List.getElem?_set_ne hj] at hp
      obtain ⟨u, hu, hk'⟩ := hK j p hp
      exact ⟨u, by rw [List.getElem?_set_ne hj]; exact hu, (Kd.slice 3 (Kd.int .i64)).K_below hb hk'⟩)
  obtain ⟨A, c, e, hl, hC⟩ := h
  injection e with e1 _ e3
  subst e1
  exact ⟨c, e3, hl, hC⟩
theorem wpList_max2 {P : Program} {w : World} {ops : Array Oper} {rest : List Oper} {o : Oper} {a : Act} {Q : Exit → Act → World → Prop} (hgd : o.guard = none) (x y : Operand) (t t' : TypeId)
    (ho : o.op = .call { callee := .builtin .max, args := #[x, y], argTypes := #[t, t'] }) (k : IntKind) (u v m : Int) (hx : a.eval x = .int k u) (hy : a.eval y = .int k v) (hm : (if u < v then v else u) = m)
    (h : wpList P ops Q rest (a.put o.dst (.int k m)) w) : wpList P ops Q (o :: rest) a w := by
  refine wpList_plain hgd fun K hK => ?_
  unfold Oper.wp execOp
  simp only [ho, resolve, invoke, builtin, max_two, max2_int, Sem.run_bind, Sem.run_pure, Result.andThen_ok, List.map_toArray, List.map_cons, List.map_nil, hx, hy, hm]
  exact hK _ _ h
theorem wrap_eq {n : Int} (h0 : -9223372036854775808 ≤ n) (h1 : n ≤ 9223372036854775807) : IntKind.i64.wrap n = n := by
  rw [IntKind.wrap_i64]
  omega
/-- Prices that are raised. -/
def up (b : Nat) (p : Int) : Int := if 0 ≤ p then p + (b : Int) else p
def upRow (b : Nat) (row : List Int) (j : Nat) : List Int := (row.take j).map (up b) ++ row.drop j
theorem upRow_len (b : Nat) (row : List Int) (j : Nat) : (upRow b row j).length = row.length := by simp [upRow]; omega
theorem upRow_all (b : Nat) (row : List Int) : upRow b row row.length = row.map (up b) := by simp [upRow]
theorem upRow_at (b : Nat) {row : List Int} {j : Nat} (h : j < row.length) : (upRow b row j)[j]? = some row[j] := by
  unfold upRow
  rw [List.getElem?_append_right (by simp; omega)]
  simp [show min j row.length = j by omega, List.getElem?_eq_getElem h]
theorem upRow_set (b : Nat) {row : List Int} {j : Nat} (h : j < row.length) : (upRow b row j).set j (up b row[j]) = upRow b row (j + 1) := by
  unfold upRow
  rw [List.set_append, if_neg (by simp; omega)]
  simp only [List.length_map, List.length_take, show min j row.length = j by omega, Nat.sub_self]
  rw [List.drop_eq_getElem_cons h, List.set_cons_zero, List.take_succ_eq_append_getElem h, List.map_append, List.map_cons, List.map_nil, List.append_assoc]
  rfl
theorem upRow_next (b : Nat) {row : List Int} {j : Nat} (h : j < row.length) (hn : row[j] < 0) : upRow b row j = upRow b row (j + 1) := by
  rw [← upRow_set b h]
  have : up b row[j] = row[j] := by unfold up; rw [if_neg (by omega)]
  rw [this]
  refine (List.ext_getElem? fun i => ?_).symm
  rw [List.getElem?_set]
  split
  · rename_i e
    subst e
    rw [if_pos (by rw [upRow_len]; exact h), upRow_at b h]
  · rfl
theorem rowOk_of {n : Nat} {row : List Int} (hl : row.length = n) (h : ∀ p ∈ row, -1 ≤ p ∧ p ≤ 1048576) : PC.rowOk n row = true := by
  simp only [PC.rowOk, Bool.and_eq_true, decide_eq_true_eq, List.all_eq_true]
  exact ⟨⟨hl, fun p hp => (h p hp).1⟩, fun p hp => (h p hp).2⟩
theorem rd_map (b : Nat) {row : List Int} {x : Nat} (h : x < row.length) : rd (row.map (up b)) (x : Int) = up b (rd row (x : Int)) := by
  rw [rd_lt h, rd_lt (by rw [List.length_map]; exact h), List.getElem_map]
theorem getD_of {l2 : List (List Int)} {kk : Nat} {row : List Int} (h : l2[kk]? = some row) : l2.getD kk [] = row := by rw [List.getD_eq_getElem?_getD, h]; rfl
theorem less_rel {l0 row : List Int} {ii : Nat} {m0 : Int} (hrl : row.length = l0.length) (hil : ii < l0.length) (h0 : 0 ≤ m0) (h1 : 0 ≤ rd row (ii : Int) → m0 ≤ rd row (ii : Int)) :
    ∀ x : Nat, x < l0.length → 0 ≤ rd row (x : Int) → 0 ≤ rd (row.set ii m0) (x : Int) ∧ rd (row.set ii m0) (x : Int) ≤ rd row (x : Int) := fun x hx h => by
  by_cases e : ii = x
  · subst e
    rw [PC.rd_set_eq (by omega)]
    exact ⟨h0, h1 h⟩
  · rw [PC.rd_set_ne e]
    exact ⟨h, Int.le_refl _⟩
theorem less_ok {n : Nat} {row : List Int} {ii : Nat} {m0 : Int} (hrl : row.length = n) (h : ∀ p ∈ row, -1 ≤ p ∧ p ≤ 1048576) (h0 : 0 ≤ m0) (h1 : m0 ≤ 1048576) : PC.rowOk n (row.set ii m0) = true :=
  rowOk_of (by rw [List.length_set]; exact hrl) (fun p hp => by
    rcases List.mem_or_eq_of_mem_set hp with hp | rfl
    · exact h p hp
    · omega)
theorem more_rel (b : Nat) {l0 row : List Int} (hrl : row.length = l0.length) : ∀ x : Nat, x < l0.length → 0 ≤ rd row (x : Int) → 0 ≤ rd (row.map (up b)) (x : Int) ∧ rd (row.map (up b)) (x : Int) = rd row (x : Int) + (b : Int) := fun x hx h => by
  rw [rd_map b (by omega), up, if_pos h]
  omega
theorem more_rel' (b : Nat) {l0 row : List Int} (hrl : row.length = l0.length) : ∀ x : Nat, x < l0.length → 0 ≤ rd (row.map (up b)) (x : Int) → 0 ≤ rd row (x : Int) ∧ rd row (x : Int) = rd (row.map (up b)) (x : Int) + -(b : Int) := fun x hx h => by
  rw [rd_map b (by omega)] at h ⊢
  unfold up at h ⊢
  split at h
  · rename_i h'
    rw [if_pos h']
    omega
  · omega
theorem more_ok (b : Nat) {n : Nat} {row : List Int} (hrl : row.length = n) (h : ∀ p ∈ row, -1 ≤ p ∧ p ≤ 1048576) (h1 : ∀ x ∈ row, up b x ≤ 1048576) : PC.rowOk n (row.map (up b)) = true :=
  rowOk_of (by rw [List.length_map]; exact hrl) (fun p hp => by
    obtain ⟨x, hx, rfl⟩ := List.mem_map.1 hp
    have h2 := (h x hx).1
    refine ⟨?_, h1 x hx⟩
    unfold up
    split <;> omega)
theorem placed_small {l0 : List Int} {a1 : Int} {l2 : List (List Int)} {p : List Int} {q : Int} {b : Bool} (hc : PC.checkS l0 a1 l2 = 0) (h : PC.placeS l0 a1 l2 = (p, q, b)) : p.length ≤ 40 ∧ 0 ≤ q ∧ q ≤ 41943040 := by
  obtain ⟨hok, _, hl⟩ := PC.okB_of hc
  obtain ⟨_, _, _, _, _, hrow⟩ := PC.okB_parts hok
  have hb := PC.pl_bound l0 a1 l2 (fun r hr p hp => ((hrow r hr).2 p hp).2) 0
  unfold PC.placeS at h
  split at h
  · cases h
    simp
  · cases h
    rw [pick_len2]
    omega
theorem tmod_nat (a b : Nat) : (a : Int).tmod (b : Int) = ((a % b : Nat) : Int) := by simp [Int.tmod]
set_option maxRecDepth 100000 in
set_option maxHeartbeats 16000000 in
theorem prices_law (A0 : Option Addr) (c0 : Nat) (l0 : List Int) (a1 : Int) (A2 : Option Addr) (c2 : Nat) (l2 : List (List Int)) (n3 n4 n5 : Nat) (w : World) (hr0 : Kd.C (Kd.int .i64) w A0 l0.length l0) (hc0 : l0.length ≤ c0)
    (hr2 : Kd.C (Kd.slice 3 (Kd.int .i64)) w A2 l2.length l2) (hc2 : l2.length ≤ c2) (h3 : n3 ≤ 65535) (h4 : n4 ≤ 65535) (h5 : n5 ≤ 65535) :
    Calls Try.prog 8 #[.slice A0 l0.length c0, .int .i64 a1, .slice A2 l2.length c2, .int .u16 (n3 : Int), .int .u16 (n4 : Int), .int .u16 (n5 : Int)] w fun e w' => e = .returned (.bool true) ∧ Below w.heap.size w w' := by
  obtain ⟨kf, hkf⟩ := (few_ev l0 l2).rounds
  obtain ⟨kc, hkc⟩ := (rcheck_ev l0 a1 l2).rounds
  have hrW := fun W hb => Kd.C_below (w1 := W) hr0 hb
  have hrW2 := fun W hb => Kd.C_below (w1 := W) hr2 hb
  go_enter Try.func8, Try.ntmps8
  go_wp2_with fail
  refine (fastilaw32_sane.calls true w rfl).mono ?_
  rintro e w1 ⟨rfl, hb1⟩
  go_wp2_with fail
  refine (fastiref32_Few.calls kf A0 c0 l0 A2 c2 l2 (fewS l0 l2) w1 (hrW _ hb1) hc0 (hrW2 _ hb1) hc2 hkf).mono ?_
  rintro e w2 ⟨rfl, ⟨n2, rfl⟩⟩
  have hb2 := pw_below_drewN hb1 n2
  obtain ⟨w2, hw2'⟩ : ∃ w2, w1.drewN n2 = w2 := ⟨_, rfl⟩
  rw [hw2'] at hb2 ⊢
  clear hw2' hkf
  cases hf : fewS l0 l2
  · go_wp2_with fail
    exact bodyPost_ret (v := .bool true) (by simp [results, Try.results8, go_sem]) rfl ⟨rfl, hb2⟩
  · go_wp2_with fail
    refine (fastiref32_Check.calls kc A0 c0 l0 a1 A2 c2 l2 (PC.checkS l0 a1 l2) w2 (hrW _ hb2) hc0 (hrW2 _ hb2) hc2 hkc).mono ?_
    rintro e w3 ⟨rfl, ⟨n3', rfl⟩⟩
    have hb3 := pw_below_drewN hb2 n3'
    obtain ⟨w3, hw3'⟩ : ∃ w3, w2.drewN n3' = w3 := ⟨_, rfl⟩
    rw [hw3'] at hb3 ⊢
    clear hw3' hkc
    by_cases hc : PC.checkS l0 a1 l2 = 0
    · have hc' : (PC.checkS l0 a1 l2 != 0) = false := by simpa using hc
      obtain ⟨hok, hl4, hl2⟩ := PC.okB_of hc
      obtain ⟨hpos, hasc, hday, hra, hrb, hrow⟩ := PC.okB_parts hok
      by_cases hz : l2.length = 0
      · have hz' : ((l2.length : Int) == 0) = true := by rw [beq_iff_eq]; omega
        have HC := Aside0.mk hc
        clear hc
        go_wp2_with fail
        exact bodyPost_ret (v := .bool true) (by simp [results, Try.results8, go_sem]) rfl ⟨rfl, hb3⟩
      · have hz' : ((l2.length : Int) == 0) = false := by rw [beq_eq_false_iff_ne]; omega
        have hz0 : ((l0.length : Int) == 0) = false := by rw [beq_eq_false_iff_ne]; omega
        obtain ⟨⟨p1, q1, b1⟩, hp1⟩ : ∃ b, PC.placeS l0 a1 l2 = b := ⟨_, rfl⟩
        have hP1 : rounds_Place.f l0 a1 l2 = some (p1, q1, b1, 0) := by rw [place_eq, placeA, if_pos hc, hp1]
        have HP1 := Aside0.mk hp1
        have HC := Aside0.mk hc
        clear hc hp1 hok
        go_wp2_with fail
        refine (rounds_Place.calls A0 c0 l0 a1 A2 c2 l2 p1 q1 b1 0 w3 (hrW _ hb3) hc0 (hrW2 _ hb3) hc2 hP1).mono ?_
        rintro e w4 ⟨v0, rfl, hv0, hb4⟩
        have hb5 := below_then hb3 hb3.size hb4
        obtain ⟨Aat, cat, rfl, hcat, hCat⟩ := Kd.R_reads hv0
        obtain ⟨ad2, vs, hA2, hvl, hvc, hvK⟩ := rows_cells (hrW2 _ hb5) (by omega)
        subst hA2
        have HR0 := Aside0.mk (hrW _ hb5)
        have HR2 := Aside0.mk (hrW2 _ hb5)
        have HAT := Aside0.mk hCat
        have HVC := Aside0.mk hvc
        have HVK := Aside0.mk hvK
        have HB := Aside0.mk hb5
        have hm3 := tmod_nat n3 l2.length
        have hm4 := tmod_nat n4 l0.length
        obtain ⟨kk, hkk⟩ : ∃ kk, n3 % l2.length = kk := ⟨_, rfl⟩
        obtain ⟨ii, hii⟩ : ∃ ii, n4 % l0.length = ii := ⟨_, rfl⟩
        have hkl : kk < l2.length := by rw [← hkk]; exact Nat.mod_lt _ (by omega)
        have hil : ii < l0.length := by rw [← hii]; exact Nat.mod_lt _ hpos
        rw [hkk] at hm3
        rw [hii] at hm4
        have HKK := Aside0.mk hkk
        have HII := Aside0.mk hii
        clear hv0 hb4 hb5 hb1 hb2 hb3 hrW hrW2 hCat hvc hvK hP1 hkk hii hr0 hr2
        go_wp2_with fail
        go_quiet (fail)
        obtain ⟨W5, hW5⟩ : ∃ W5, w4.drewN nq = W5 := ⟨_, rfl⟩
        have HB5 := Aside0.mk (show Below w4.heap.size w4 W5 by rw [← hW5]; exact pw_below_drewN (Below.refl _ _) nq)
        have hz5 : w4.heap.size ≤ W5.heap.size := HB5.out.size
        rw [hW5]
        clear hW5
        obtain ⟨i22, hi22, hz22, hs22, hb22⟩ := info_parts info22
        obtain ⟨i3, hi3, hz3, hs3, hb3⟩ := info_parts info3
        obtain ⟨row, hrow0⟩ : ∃ row, l2[kk]? = some row := ⟨l2[kk], List.getElem?_eq_getElem hkl⟩
        obtain ⟨hrl, hrb⟩ := hrow row (List.mem_of_getElem? hrow0)
        obtain ⟨uk, huk, ak', ck, huk', hck, hCk⟩ := HVK.out kk row hrow0
        obtain rfl : uk = .slice ak' row.length ck := by simpa using huk'
        obtain ⟨ak, rfl, _⟩ := Kd.at_int hCk 0 (by omega) (by omega)
        have hv1 : ∀ u ∈ vs, u.oneCell' = true := fun u hu => by
          obtain ⟨j, hj⟩ := List.mem_iff_getElem?.1 hu
          have hjl : j < l2.length := by have := (List.getElem?_eq_some_iff.1 hj).1; omega
          obtain ⟨u', hu', hK⟩ := HVK.out j l2[j] (List.getElem?_eq_getElem hjl)
          rw [hj] at hu'
          obtain rfl := Option.some.inj hu'
          exact (Kd.slice 3 (Kd.int .i64)).K_one hK _ (by simp)
        have hkc := HVC.out kk _ huk
        obtain ⟨x0, hx0⟩ : ∃ x0, rd row (ii : Int) = x0 := ⟨_, rfl⟩
        have hxc := Kd.at_int hCk (ii : Int) (by omega) (by omega)
        obtain ⟨_, e_, hxc⟩ := hxc
        injection e_ with e_
        subst e_
        rw [Int.toNat_natCast, hx0] at hxc
        have hxb : -1 ≤ x0 ∧ x0 ≤ 1048576 := hrb x0 (by rw [← hx0]; exact rd_mem (by omega))
        have HX0 := Aside0.mk hx0
        have HRB := Aside0.mk hrb
        have HR0K := Aside0.mk hrow0
        have HUK := Aside0.mk huk
        have HCK := Aside0.mk hCk
        have HV1 := Aside0.mk hv1
        have HKC := Aside0.mk hkc
        have HXC := Aside0.mk hxc
        clear hrb hrow0 huk huk' hCk hv1 hkc hx0 hxc hrow
        go_wp2_with (first
          | (at_builtin; refine wpList_append_own_at _ rfl _ _ 29 rfl w4.heap.size 22 i22 (.slice none 0 0) 1 24 Try.underlying29 hi22 hz22 hs22 hb22 rfl (by decide) _ 0 [] rfl (World.ownsRow_lit W5 #[] 0 hz5 (by simp [maxLen]) rfl) ad2 l2.length c2 vs rfl (by omega) (fun j u hu => pw_cell_below (below_alloc HB5.out _) (HVC.out j u hu)) HV1.out (by simp only [maxLen]; omega) (by omega) (by simp; omega) ?_
             intro v1 w6 ho1 hg1 _ hat1
             have hb6 : Below w4.heap.size w4 w6 := (below_alloc HB5.out _).grown hg1 (by simp; omega) (fun k hk => own_base (World.ownsRow_lit (base := w4.heap.size) (e := 22) (size := 1) W5 #[] 0 hz5 (by simp [maxLen]) rfl) k hk)
             rw [Nat.zero_add, List.nil_append] at ho1
             obtain ⟨s1, cp1, rfl, hs1, hs1'⟩ := own_some ho1 (by omega)
             have hx6 := fun o => pw_cell_below (below_alloc hb6 o) HKC.out
             have HO1 := Aside0.mk ho1
             have HB6 := Aside0.mk hb6
             have hz6 : w4.heap.size ≤ w6.heap.size := hb6.size
             clear ho1 hb6 hg1 hat1)
          | (at_builtin; refine wpList_append_own_at _ rfl _ _ 22 rfl w4.heap.size 3 i3 (.int .i64 0) 1 8 Try.underlying22 hi3 hz3 hs3 hb3 rfl (by decide) _ 0 [] rfl (World.ownsRow_lit w6 #[] 0 hz6 (by simp [maxLen]) rfl) ak l0.length ck (nums .i64 row) rfl (by simp [nums, hrl]) (fun j u hu => pw_cell_below (below_alloc HB6.out _) (row_cells HCK.out j u hu)) (nums_one .i64 row) (by simp only [maxLen]; omega) (by omega) (by simp; omega) ?_
             intro v2 w8 ho2 hg2 _ hat2
             have hb8 : Below w4.heap.size w4 w8 := (below_alloc HB6.out _).grown hg2 (by simp; omega) (fun k hk => own_base (World.ownsRow_lit (base := w4.heap.size) (e := 3) (size := 1) w6 #[] 0 hz6 (by simp [maxLen]) rfl) k hk)
             rw [Nat.zero_add, List.nil_append] at ho2
             obtain ⟨s2, cp2, rfl, hs2, hs2'⟩ := own_some ho2 hpos
             have hne1 : s1 ≠ w6.heap.size := by omega
             have hg2' : World.grownBy (w6.alloc (.cells #[] 3)) w8 (some w6.heap.size) := hg2
             have ho1' := own_other (HO1.out.alloc (.cells #[] 3)) hg2' (.inr (by simpa [Value.ownBlock] using hne1))
             obtain ⟨hc1, hf1⟩ := own_cell1 ho1' kk HUK.out
             have HO1' := Aside0.mk ho1'
             have HO2 := Aside0.mk ho2
             have HB8 := Aside0.mk hb8
             have hz8 : w4.heap.size ≤ w8.heap.size := hb8.size
             clear ho1' ho2 hb8 hg2 hg2' hat2 HO1))
        have hne2 : s1 ≠ s2 := fun e => by
          rcases own_type_ne HO1'.out HO2.out (by decide) with h | h
          · simp [Value.ownBlock] at h
          · exact h (by simp [Value.ownBlock, e])
        obtain ⟨W9, hW9⟩ : ∃ W9, w8.setCell ⟨s1, kk, none⟩ (.slice (some ⟨s2, 0, none⟩) l0.length cp2) = W9 := ⟨_, rfl⟩
        have ho9 := (HO1'.out.stored kk (.slice (some ⟨s2, 0, none⟩) l0.length cp2)).1
        have ho9' := own_setCell HO2.out (p := ⟨s1, kk, none⟩) (by simpa [Value.ownBlock] using hne2) (.slice (some ⟨s2, 0, none⟩) l0.length cp2)
        have hb9 : Below w4.heap.size w4 W9 := by rw [← hW9]; exact below_set HB8.out hs1
        rw [hW9] at ho9 ho9' ⊢
        have hkv : (vs.set kk (.slice (some ⟨s2, 0, none⟩) l0.length cp2))[kk]? = some (.slice (some ⟨s2, 0, none⟩) l0.length cp2) := List.getElem?_set_self (by omega)
        have hxv : (nums .i64 row)[ii]? = some (.int .i64 x0) := by rw [← HX0.out, rd_lt (by omega)]; simp [nums, List.getElem?_eq_getElem (show ii < row.length by omega)]
        obtain ⟨g1, _⟩ := own_cell1 ho9 kk hkv
        obtain ⟨g2, g3⟩ := own_cell1 ho9' ii hxv
        have g4 := pw_cell_below hb9 HKC.out
        have g5 := pw_cell_below hb9 HXC.out
        have HO9 := Aside0.mk ho9
        have HO9' := Aside0.mk ho9'
        have HB9 := Aside0.mk hb9
        have hz9 : w4.heap.size ≤ W9.heap.size := hb9.size
        have hw9 := w64 (x := x0 - (n5 : Int)) (by omega) (by omega)
        clear hW9 ho9 ho9' hb9 hkv hxv hc1 hf1
        go_cut [] from 31 (fun wc => ∃ m0 : Int, (0 ≤ m0 ∧ m0 ≤ 1048576 ∧ (0 ≤ x0 → m0 ≤ x0)) ∧ wc.ownsRow w4.heap.size 22 1 (.slice (some ⟨s1, 0, none⟩) l2.length cp1) l2.length (vs.set kk (.slice (some ⟨s2, 0, none⟩) l0.length cp2)) ∧ wc.ownsRow w4.heap.size 3 1 (.slice (some ⟨s2, 0, none⟩) l0.length cp2) l0.length (nums .i64 (row.set ii m0)) ∧ Below w4.heap.size w4 wc)
        case first =>
          go_still_tail 17, (by kernel_rfl)
          change wpList _ _ _ _ _ W9.drew
          obtain ⟨W10, hW10⟩ : ∃ W, W9.drew = W := ⟨_, rfl⟩
          have hb10 : Below w4.heap.size w4 W10 := by rw [← hW10]; exact below_drew1 HB9.out
          have ho10 : W10.ownsRow w4.heap.size 22 1 (.slice (some ⟨s1, 0, none⟩) l2.length cp1) l2.length (vs.set kk (.slice (some ⟨s2, 0, none⟩) l0.length cp2)) := by rw [← hW10]; exact HO9.out
          have ho10' : W10.ownsRow w4.heap.size 3 1 (.slice (some ⟨s2, 0, none⟩) l0.length cp2) l0.length (nums .i64 row) := by rw [← hW10]; exact HO9'.out
          replace g1 : W10.cell? ⟨s1, kk, none⟩ = some (.slice (some ⟨s2, 0, none⟩) l0.length cp2) := by rw [← hW10]; exact g1
          replace g2 : W10.cell? ⟨s2, ii, none⟩ = some (.int .i64 x0) := by rw [← hW10]; exact g2
          replace g3 : W10.frozen? ⟨s2, ii, none⟩ = false := by rw [← hW10]; exact g3
          replace g4 : W10.cell? (ad2.add kk) = some (.slice (some ak) row.length ck) := by rw [← hW10]; exact g4
          replace g5 : W10.cell? (ak.add ii) = some (.int .i64 x0) := by rw [← hW10]; exact g5
          rw [hW10]
          have HO10 := Aside0.mk ho10
          have HO10' := Aside0.mk ho10'
          have HB10 := Aside0.mk hb10
          have hz10 : w4.heap.size ≤ W10.heap.size := hb10.size
          clear hW10 ho10 ho10' hb10 HO9 HO9' HB9 HO1' HO2 HB8
          obtain ⟨m0, hm0⟩ : ∃ m0, (if 0 < x0 - (n5 : Int) then x0 - (n5 : Int) else 0) = m0 := ⟨_, rfl⟩
          have hm0b : 0 ≤ m0 ∧ m0 ≤ 1048576 ∧ (0 ≤ x0 → m0 ≤ x0) := by rw [← hm0]; split <;> omega
          have HM0 := Aside0.mk hm0
          have he1 : IntKind.i64.wrap (n5 : Int) = (n5 : Int) := wrap_eq (by omega) (by omega)
          have he2 : IntKind.i64.wrap (x0 - (n5 : Int)) = x0 - (n5 : Int) := wrap_eq (by omega) (by omega)
          have HE1 := Aside0.mk he1
          have HE2 := Aside0.mk he2
          clear hm0 he1 he2
          have hx1 : (if 0 < IntKind.i64.wrap (x0 - IntKind.i64.wrap (n5 : Int)) then IntKind.i64.wrap (x0 - IntKind.i64.wrap (n5 : Int)) else 0) = m0 := by rw [HE1.out, HE2.out, HM0.out]
          have hx2 : (if 0 < x0 - (n5 : Int) then x0 - (n5 : Int) else 0) = m0 := HM0.out
          have hx3 : (if (n5 : Int) < x0 then x0 - (n5 : Int) else 0) = m0 := by rw [← HM0.out]; split <;> split <;> omega
          go_wp2_with fail
          all_goals
            have ho11 := (own_store HO10'.out (ii : Int) m0).1
            rw [Int.toNat_natCast] at ho11
            have ho11' := own_setCell HO10.out (p := ⟨s2, ii, none⟩) (by simpa [Value.ownBlock] using hne2.symm) (.int .i64 m0)
            have hb11 : Below w4.heap.size w4 (W10.setCell ⟨s2, ii, none⟩ (.int .i64 m0)) := below_set HB10.out hs2
            go_meet
            case rel => exact ⟨m0, hm0b, ho11', ho11, hb11⟩
        case rest =>
          obtain ⟨m0, hm0b, ho11', ho11, hb11⟩ := hcut
          clear g1 g2 g3 g4 g5 HO9 HO9' HB9 hw9 HO1' HO2 HB8
          go_wp2_with fail
          obtain ⟨cl, hcl1, hcl, hCl⟩ := rows_set (l2 := l2) (row' := row.set ii m0) ho11' ho11 (by rw [List.length_set]; exact hrl) hb11 hvl hkl HVK.out
          subst hcl1
          obtain ⟨⟨p2, q2, b2⟩, hp2⟩ : ∃ b, PC.placeS l0 a1 (l2.set kk (row.set ii m0)) = b := ⟨_, rfl⟩
          have hP2 : rounds_Place.f l0 a1 (l2.set kk (row.set ii m0)) = some (p2, q2, b2, 0) := by rw [place_eq, placeA, if_pos (check_set HC.out kk _ (less_ok hrl HRB.out hm0b.1 hm0b.2.1)), hp2]
          have hless : b1 = true → b2 = true ∧ q2 ≤ q1 := fun hb => by
            have := place_less (l0 := l0) (a1 := a1) (l2 := l2) kk (row.set ii m0) (by rw [getD_of HR0K.out]; exact less_rel hrl hil hm0b.1 (by rw [HX0.out]; exact hm0b.2.2)) (by rw [HP1.out]; exact hb)
            rw [hp2, HP1.out] at this
            exact this
          have hls : (l2.set kk (row.set ii m0)).length = l2.length := List.length_set
          have hcall := rounds_Place.calls A0 c0 l0 a1 (some ⟨s1, 0, none⟩) cp1 (l2.set kk (row.set ii m0)) p2 q2 b2 0 wc (Kd.C_below HR0.out hb11) hc0 hCl hcl hP2
          rw [hls] at hcall
          refine hcall.mono ?_
          rintro e w12 ⟨v0', rfl, hv0', hb12'⟩
          obtain ⟨Al, cl', rfl, _, _⟩ := Kd.R_reads hv0'
          have hb12 : Below w4.heap.size w4 w12 := below_then hb11 hb11.size hb12'
          have HB12 := Aside0.mk hb12
          have hz12 : w4.heap.size ≤ w12.heap.size := hb12.size
          clear hcall hls hP2 hp2 hCl hb11 hb12 hb12' hv0' ho11 ho11' hcl
          have HLS := Aside0.mk hless
          clear hless
          go_upto_region 11 with fail
          go_cut [123] from 31 (fun s123 wd => s123 = .bool false ∧ w12 = wd)
          case first =>
            cases b1
            · go_wp2_with fail
              go_meet
              case rel => exact ⟨rfl, rfl⟩
            · obtain ⟨rfl, hq⟩ := HLS.out rfl
              have hq1 : decide (q2 > q1) = false := decide_eq_false (by omega)
              have hq2 : decide (q1 < q2) = false := decide_eq_false (by omega)
              go_wp2_with fail
              go_meet
              case rel => exact ⟨rfl, rfl⟩
          case rest =>
            obtain ⟨rfl, rfl⟩ := hcut
            go_wp2_with (first
              | (at_builtin; refine wpList_append_own_at _ rfl _ _ 29 rfl w4.heap.size 22 i22 (.slice none 0 0) 1 24 Try.underlying29 hi22 hz22 hs22 hb22 rfl (by decide) _ 0 [] rfl (World.ownsRow_lit w12 #[] 0 hz12 (by simp [maxLen]) rfl) ad2 l2.length c2 vs rfl (by omega) (fun j u hu => pw_cell_below (below_alloc HB12.out _) (HVC.out j u hu)) HV1.out (by simp only [maxLen]; omega) (by omega) (by simp; omega) ?_
                 intro v3 w13 ho3 hg3 _ hat3
                 have hb13 : Below w4.heap.size w4 w13 := (below_alloc HB12.out _).grown hg3 (by simp; omega) (fun k hk => own_base (World.ownsRow_lit (base := w4.heap.size) (e := 22) (size := 1) w12 #[] 0 hz12 (by simp [maxLen]) rfl) k hk)
                 rw [Nat.zero_add, List.nil_append] at ho3
                 obtain ⟨s3, cp3, rfl, hs3', hs3''⟩ := own_some ho3 (by omega)
                 have hx13 := fun o => pw_cell_below (below_alloc hb13 o) HKC.out
                 have HO3 := Aside0.mk ho3
                 have HB13 := Aside0.mk hb13
                 have hz13 : w4.heap.size ≤ w13.heap.size := hb13.size
                 clear ho3 hb13 hg3 hat3)
              | (at_builtin; refine wpList_append_own_at _ rfl _ _ 22 rfl w4.heap.size 3 i3 (.int .i64 0) 1 8 Try.underlying22 hi3 hz3 hs3 hb3 rfl (by decide) _ 0 [] rfl (World.ownsRow_lit w13 #[] 0 hz13 (by simp [maxLen]) rfl) ak l0.length ck (nums .i64 row) rfl (by simp [nums, hrl]) (fun j u hu => pw_cell_below (below_alloc HB13.out _) (row_cells HCK.out j u hu)) (nums_one .i64 row) (by simp only [maxLen]; omega) (by omega) (by simp; omega) ?_
                 intro v4 w14 ho4 hg4 _ hat4
                 have hb14 : Below w4.heap.size w4 w14 := (below_alloc HB13.out _).grown hg4 (by simp; omega) (fun k hk => own_base (World.ownsRow_lit (base := w4.heap.size) (e := 3) (size := 1) w13 #[] 0 hz13 (by simp [maxLen]) rfl) k hk)
                 rw [Nat.zero_add, List.nil_append] at ho4
                 obtain ⟨s4, cp4, rfl, hs4, hs4'⟩ := own_some ho4 hpos
                 have hne3 : s3 ≠ w13.heap.size := by omega
                 have hg4' : World.grownBy (w13.alloc (.cells #[] 3)) w14 (some w13.heap.size) := hg4
                 have ho3' := own_other (HO3.out.alloc (.cells #[] 3)) hg4' (.inr (by simpa [Value.ownBlock] using hne3))
                 obtain ⟨hc3, hf3⟩ := own_cell1 ho3' kk HUK.out
                 have hne4 : s3 ≠ s4 := fun e => by
                   rcases own_type_ne ho3' ho4 (by decide) with h | h
                   · simp [Value.ownBlock] at h
                   · exact h (by simp [Value.ownBlock, e])
                 have hx15 := pw_cell_below (below_set (j := kk) (v := .slice (some ⟨s4, 0, none⟩) l0.length cp4) hb14 hs3') HKC.out
                 have HO3' := Aside0.mk ho3'
                 have HO4 := Aside0.mk ho4
                 have HB14 := Aside0.mk hb14
                 have hz14 : w4.heap.size ≤ w14.heap.size := hb14.size
                 clear ho3' ho4 hb14 hg4 hg4' hat4 HO3))
            have ho15 := (HO3'.out.stored kk (.slice (some ⟨s4, 0, none⟩) l0.length cp4)).1
            have ho15' := own_setCell HO4.out (p := ⟨s3, kk, none⟩) (by simpa [Value.ownBlock] using hne4) (.slice (some ⟨s4, 0, none⟩) l0.length cp4)
            have hb15 : Below w4.heap.size w4 (w14.setCell ⟨s3, kk, none⟩ (.slice (some ⟨s4, 0, none⟩) l0.length cp4)) := below_set HB14.out hs3'
            obtain ⟨W15, hW15⟩ : ∃ W, w14.setCell ⟨s3, kk, none⟩ (.slice (some ⟨s4, 0, none⟩) l0.length cp4) = W := ⟨_, rfl⟩
            rw [hW15] at ho15 ho15' hb15 ⊢
            have HO15 := Aside0.mk ho15
            have HO15' := Aside0.mk ho15'
            have HB15 := Aside0.mk hb15
            clear hW15 ho15 ho15' hb15 HO3' HO4 HB14 hc3 hf3 hx15 hx13
            refine wp_loop_ghost_k (fun m a W => ∃ (j : Nat) (u : Nat → Value), m = l0.length - j ∧ j ≤ l0.length ∧ (∀ x ∈ row.take j, up n5 x ≤ 1048576) ∧ W.ownsRow w4.heap.size 22 1 (.slice (some ⟨s3, 0, none⟩) l2.length cp3) l2.length (vs.set kk (.slice (some ⟨s4, 0, none⟩) l0.length cp4)) ∧ W.ownsRow w4.heap.size 3 1 (.slice (some ⟨s4, 0, none⟩) l0.length cp4) l0.length (nums .i64 (upRow n5 row j)) ∧ Below w4.heap.size w4 W ∧ a = { tmps := List.toArray ((.slice A0 l0.length c0 : Value) :: (.int .i64 a1 : Value) :: u 2 :: u 3 :: u 4 :: (.int .u16 (n5 : Int) : Value) :: u 6 :: u 7 :: u 8 :: u 9 :: u 10 :: u 11 :: u 12 :: (.slice Aat p1.length cat : Value) :: (.int .i64 q1 : Value) :: (.bool b1 : Value) :: u 16 :: (.int .i64 (kk : Int) : Value) :: u 18 :: u 19 :: u 20 :: u 21 :: u 22 :: u 23 :: (.slice (some ⟨s3, 0, none⟩) l2.length cp3 : Value) :: u 25 :: u 26 :: u 27 :: u 28 :: u 29 :: u 30 :: u 31 :: u 32 :: u 33 :: u 34 :: u 35 :: u 36 :: u 37 :: u 38 :: u 39 :: u 40 :: u 41 :: u 42 :: u 43 :: u 44 :: u 45 :: u 46 :: u 47 :: u 48 :: u 49 :: u 50 :: u 51 :: u 52 :: u 53 :: u 54 :: u 55 :: u 56 :: u 57 :: u 58 :: u 59 :: u 60 :: u 61 :: u 62 :: u 63 :: u 64 :: u 65 :: u 66 :: u 67 :: u 68 :: u 69 :: u 70 :: u 71 :: u 72 :: u 73 :: u 74 :: u 75 :: u 76 :: u 77 :: u 78 :: u 79 :: u 80 :: u 81 :: u 82 :: u 83 :: u 84 :: u 85 :: u 86 :: u 87 :: u 88 :: u 89 :: u 90 :: u 91 :: u 92 :: u 93 :: u 94 :: u 95 :: u 96 :: u 97 :: u 98 :: u 99 :: u 100 :: u 101 :: u 102 :: u 103 :: u 104 :: u 105 :: u 106 :: u 107 :: u 108 :: u 109 :: u 110 :: u 111 :: u 112 :: u 113 :: u 114 :: u 115 :: u 116 :: u 117 :: u 118 :: u 119 :: u 120 :: u 121 :: u 122 :: u 123 :: u 124 :: u 125 :: u 126 :: u 127 :: u 128 :: u 129 :: u 130 :: u 131 :: u 132 :: u 133 :: u 134 :: u 135 :: u 136 :: u 137 :: u 138 :: (.slice (some ak) l0.length ck : Value) :: (.int .i64 (l0.length : Int) : Value) :: (.int .i64 (j : Int) : Value) :: u 142 :: u 143 :: u 144 :: u 145 :: u 146 :: u 147 :: u 148 :: u 149 :: u 150 :: u 151 :: u 152 :: u 153 :: u 154 :: u 155 :: u 156 :: u 157 :: u 158 :: u 159 :: u 160 :: u 161 :: u 162 :: u 163 :: u 164 :: u 165 :: u 166 :: u 167 :: u 168 :: u 169 :: u 170 :: u 171 :: u 172 :: u 173 :: u 174 :: u 175 :: u 176 :: u 177 :: u 178 :: u 179 :: u 180 :: u 181 :: u 182 :: u 183 :: u 184 :: u 185 :: u 186 :: u 187 :: u 188 :: u 189 :: u 190 :: u 191 :: u 192 :: u 193 :: u 194 :: u 195 :: u 196 :: u 197 :: u 198 :: u 199 :: []), defers := [] }) l0.length ?start ?round
            case start =>
              have st : ∀ T : Array Value, T = List.toArray ((.slice A0 l0.length c0 : Value) :: (.int .i64 a1 : Value) :: T.getD 2 undef :: T.getD 3 undef :: T.getD 4 undef :: (.int .u16 (n5 : Int) : Value) :: T.getD 6 undef :: T.getD 7 undef :: T.getD 8 undef :: T.getD 9 undef :: T.getD 10 undef :: T.getD 11 undef :: T.getD 12 undef :: (.slice Aat p1.length cat : Value) :: (.int .i64 q1 : Value) :: (.bool b1 : Value) :: T.getD 16 undef :: (.int .i64 (kk : Int) : Value) :: T.getD 18 undef :: T.getD 19 undef :: T.getD 20 undef :: T.getD 21 undef :: T.getD 22 undef :: T.getD 23 undef :: (.slice (some ⟨s3, 0, none⟩) l2.length cp3 : Value) :: T.getD 25 undef :: T.getD 26 undef :: T.getD 27 undef :: T.getD 28 undef :: T.getD 29 undef :: T.getD 30 undef :: T.getD 31 undef :: T.getD 32 undef :: T.getD 33 undef :: T.getD 34 undef :: T.getD 35 undef :: T.getD 36 undef :: T.getD 37 undef :: T.getD 38 undef :: T.getD 39 undef :: T.getD 40 undef :: T.getD 41 undef :: T.getD 42 undef :: T.getD 43 undef :: T.getD 44 undef :: T.getD 45 undef :: T.getD 46 undef :: T.getD 47 undef :: T.getD 48 undef :: T.getD 49 undef :: T.getD 50 undef :: T.getD 51 undef :: T.getD 52 undef :: T.getD 53 undef :: T.getD 54 undef :: T.getD 55 undef :: T.getD 56 undef :: T.getD 57 undef :: T.getD 58 undef :: T.getD 59 undef :: T.getD 60 undef :: T.getD 61 undef :: T.getD 62 undef :: T.getD 63 undef :: T.getD 64 undef :: T.getD 65 undef :: T.getD 66 undef :: T.getD 67 undef :: T.getD 68 undef :: T.getD 69 undef :: T.getD 70 undef :: T.getD 71 undef :: T.getD 72 undef :: T.getD 73 undef :: T.getD 74 undef :: T.getD 75 undef :: T.getD 76 undef :: T.getD 77 undef :: T.getD 78 undef :: T.getD 79 undef :: T.getD 80 undef :: T.getD 81 undef :: T.getD 82 undef :: T.getD 83 undef :: T.getD 84 undef :: T.getD 85 undef :: T.getD 86 undef :: T.getD 87 undef :: T.getD 88 undef :: T.getD 89 undef :: T.getD 90 undef :: T.getD 91 undef :: T.getD 92 undef :: T.getD 93 undef :: T.getD 94 undef :: T.getD 95 undef :: T.getD 96 undef :: T.getD 97 undef :: T.getD 98 undef :: T.getD 99 undef :: T.getD 100 undef :: T.getD 101 undef :: T.getD 102 undef :: T.getD 103 undef :: T.getD 104 undef :: T.getD 105 undef :: T.getD 106 undef :: T.getD 107 undef :: T.getD 108 undef :: T.getD 109 undef :: T.getD 110 undef :: T.getD 111 undef :: T.getD 112 undef :: T.getD 113 undef :: T.getD 114 undef :: T.getD 115 undef :: T.getD 116 undef :: T.getD 117 undef :: T.getD 118 undef :: T.getD 119 undef :: T.getD 120 undef :: T.getD 121 undef :: T.getD 122 undef :: T.getD 123 undef :: T.getD 124 undef :: T.getD 125 undef :: T.getD 126 undef :: T.getD 127 undef :: T.getD 128 undef :: T.getD 129 undef :: T.getD 130 undef :: T.getD 131 undef :: T.getD 132 undef :: T.getD 133 undef :: T.getD 134 undef :: T.getD 135 undef :: T.getD 136 undef :: T.getD 137 undef :: T.getD 138 undef :: (.slice (some ak) l0.length ck : Value) :: (.int .i64 (l0.length : Int) : Value) :: (.int .i64 0 : Value) :: T.getD 142 undef :: T.getD 143 undef :: T.getD 144 undef :: T.getD 145 undef :: T.getD 146 undef :: T.getD 147 undef :: T.getD 148 undef :: T.getD 149 undef :: T.getD 150 undef :: T.getD 151 undef :: T.getD 152 undef :: T.getD 153 undef :: T.getD 154 undef :: T.getD 155 undef :: T.getD 156 undef :: T.getD 157 undef :: T.getD 158 undef :: T.getD 159 undef :: T.getD 160 undef :: T.getD 161 undef :: T.getD 162 undef :: T.getD 163 undef :: T.getD 164 undef :: T.getD 165 undef :: T.getD 166 undef :: T.getD 167 undef :: T.getD 168 undef :: T.getD 169 undef :: T.getD 170 undef :: T.getD 171 undef :: T.getD 172 undef :: T.getD 173 undef :: T.getD 174 undef :: T.getD 175 undef :: T.getD 176 undef :: T.getD 177 undef :: T.getD 178 undef :: T.getD 179 undef :: T.getD 180 undef :: T.getD 181 undef :: T.getD 182 undef :: T.getD 183 undef :: T.getD 184 undef :: T.getD 185 undef :: T.getD 186 undef :: T.getD 187 undef :: T.getD 188 undef :: T.getD 189 undef :: T.getD 190 undef :: T.getD 191 undef :: T.getD 192 undef :: T.getD 193 undef :: T.getD 194 undef :: T.getD 195 undef :: T.getD 196 undef :: T.getD 197 undef :: T.getD 198 undef :: T.getD 199 undef :: []) → ∃ (j : Nat) (u : Nat → Value), l0.length = l0.length - j ∧ j ≤ l0.length ∧ (∀ x ∈ row.take j, up n5 x ≤ 1048576) ∧ W15.ownsRow w4.heap.size 22 1 (.slice (some ⟨s3, 0, none⟩) l2.length cp3) l2.length (vs.set kk (.slice (some ⟨s4, 0, none⟩) l0.length cp4)) ∧ W15.ownsRow w4.heap.size 3 1 (.slice (some ⟨s4, 0, none⟩) l0.length cp4) l0.length (nums .i64 (upRow n5 row j)) ∧ Below w4.heap.size w4 W15 ∧ (Act.mk T []) = { tmps := List.toArray ((.slice A0 l0.length c0 : Value) :: (.int .i64 a1 : Value) :: u 2 :: u 3 :: u 4 :: (.int .u16 (n5 : Int) : Value) :: u 6 :: u 7 :: u 8 :: u 9 :: u 10 :: u 11 :: u 12 :: (.slice Aat p1.length cat : Value) :: (.int .i64 q1 : Value) :: (.bool b1 : Value) :: u 16 :: (.int .i64 (kk : Int) : Value) :: u 18 :: u 19 :: u 20 :: u 21 :: u 22 :: u 23 :: (.slice (some ⟨s3, 0, none⟩) l2.length cp3 : Value) :: u 25 :: u 26 :: u 27 :: u 28 :: u 29 :: u 30 :: u 31 :: u 32 :: u 33 :: u 34 :: u 35 :: u 36 :: u 37 :: u 38 :: u 39 :: u 40 :: u 41 :: u 42 :: u 43 :: u 44 :: u 45 :: u 46 :: u 47 :: u 48 :: u 49 :: u 50 :: u 51 :: u 52 :: u 53 :: u 54 :: u 55 :: u 56 :: u 57 :: u 58 :: u 59 :: u 60 :: u 61 :: u 62 :: u 63 :: u 64 :: u 65 :: u 66 :: u 67 :: u 68 :: u 69 :: u 70 :: u 71 :: u 72 :: u 73 :: u 74 :: u 75 :: u 76 :: u 77 :: u 78 :: u 79 :: u 80 :: u 81 :: u 82 :: u 83 :: u 84 :: u 85 :: u 86 :: u 87 :: u 88 :: u 89 :: u 90 :: u 91 :: u 92 :: u 93 :: u 94 :: u 95 :: u 96 :: u 97 :: u 98 :: u 99 :: u 100 :: u 101 :: u 102 :: u 103 :: u 104 :: u 105 :: u 106 :: u 107 :: u 108 :: u 109 :: u 110 :: u 111 :: u 112 :: u 113 :: u 114 :: u 115 :: u 116 :: u 117 :: u 118 :: u 119 :: u 120 :: u 121 :: u 122 :: u 123 :: u 124 :: u 125 :: u 126 :: u 127 :: u 128 :: u 129 :: u 130 :: u 131 :: u 132 :: u 133 :: u 134 :: u 135 :: u 136 :: u 137 :: u 138 :: (.slice (some ak) l0.length ck : Value) :: (.int .i64 (l0.length : Int) : Value) :: (.int .i64 (j : Int) : Value) :: u 142 :: u 143 :: u 144 :: u 145 :: u 146 :: u 147 :: u 148 :: u 149 :: u 150 :: u 151 :: u 152 :: u 153 :: u 154 :: u 155 :: u 156 :: u 157 :: u 158 :: u 159 :: u 160 :: u 161 :: u 162 :: u 163 :: u 164 :: u 165 :: u 166 :: u 167 :: u 168 :: u 169 :: u 170 :: u 171 :: u 172 :: u 173 :: u 174 :: u 175 :: u 176 :: u 177 :: u 178 :: u 179 :: u 180 :: u 181 :: u 182 :: u 183 :: u 184 :: u 185 :: u 186 :: u 187 :: u 188 :: u 189 :: u 190 :: u 191 :: u 192 :: u 193 :: u 194 :: u 195 :: u 196 :: u 197 :: u 198 :: u 199 :: []), defers := [] } := fun T hT =>
                ⟨0, fun i => T.getD i undef, rfl, Nat.zero_le _, (fun x h => by simp at h), HO15.out, HO15'.out, HB15.out, congrArg (fun T => (Act.mk T _)) hT⟩
              exact st _ rfl
            case round =>
              rintro m a W ⟨j, u, rfl, hj, hle, ho, ho', hb, rfl⟩ J K hJ hK
              have HLE := Aside0.mk hle
              have HO := Aside0.mk ho
              have HO' := Aside0.mk ho'
              have HBW := Aside0.mk hb
              have hzW : w4.heap.size ≤ W.heap.size := hb.size
              clear hle ho ho' hb HO15 HO15' HB15
              have hkv : (vs.set kk (.slice (some ⟨s4, 0, none⟩) l0.length cp4))[kk]? = some (.slice (some ⟨s4, 0, none⟩) l0.length cp4) := List.getElem?_set_self (by omega)
              by_cases hjl : j < l0.length
              · have fin : ∀ (T : Array Value) (W' : World), T = List.toArray ((.slice A0 l0.length c0 : Value) :: (.int .i64 a1 : Value) :: T.getD 2 undef :: T.getD 3 undef :: T.getD 4 undef :: (.int .u16 (n5 : Int) : Value) :: T.getD 6 undef :: T.getD 7 undef :: T.getD 8 undef :: T.getD 9 undef :: T.getD 10 undef :: T.getD 11 undef :: T.getD 12 undef :: (.slice Aat p1.length cat : Value) :: (.int .i64 q1 : Value) :: (.bool b1 : Value) :: T.getD 16 undef :: (.int .i64 (kk : Int) : Value) :: T.getD 18 undef :: T.getD 19 undef :: T.getD 20 undef :: T.getD 21 undef :: T.getD 22 undef :: T.getD 23 undef :: (.slice (some ⟨s3, 0, none⟩) l2.length cp3 : Value) :: T.getD 25 undef :: T.getD 26 undef :: T.getD 27 undef :: T.getD 28 undef :: T.getD 29 undef :: T.getD 30 undef :: T.getD 31 undef :: T.getD 32 undef :: T.getD 33 undef :: T.getD 34 undef :: T.getD 35 undef :: T.getD 36 undef :: T.getD 37 undef :: T.getD 38 undef :: T.getD 39 undef :: T.getD 40 undef :: T.getD 41 undef :: T.getD 42 undef :: T.getD 43 undef :: T.getD 44 undef :: T.getD 45 undef :: T.getD 46 undef :: T.getD 47 undef :: T.getD 48 undef :: T.getD 49 undef :: T.getD 50 undef :: T.getD 51 undef :: T.getD 52 undef :: T.getD 53 undef :: T.getD 54 undef :: T.getD 55 undef :: T.getD 56 undef :: T.getD 57 undef :: T.getD 58 undef :: T.getD 59 undef :: T.getD 60 undef :: T.getD 61 undef :: T.getD 62 undef :: T.getD 63 undef :: T.getD 64 undef :: T.getD 65 undef :: T.getD 66 undef :: T.getD 67 undef :: T.getD 68 undef :: T.getD 69 undef :: T.getD 70 undef :: T.getD 71 undef :: T.getD 72 undef :: T.getD 73 undef :: T.getD 74 undef :: T.getD 75 undef :: T.getD 76 undef :: T.getD 77 undef :: T.getD 78 undef :: T.getD 79 undef :: T.getD 80 undef :: T.getD 81 undef :: T.getD 82 undef :: T.getD 83 undef :: T.getD 84 undef :: T.getD 85 undef :: T.getD 86 undef :: T.getD 87 undef :: T.getD 88 undef :: T.getD 89 undef :: T.getD 90 undef :: T.getD 91 undef :: T.getD 92 undef :: T.getD 93 undef :: T.getD 94 undef :: T.getD 95 undef :: T.getD 96 undef :: T.getD 97 undef :: T.getD 98 undef :: T.getD 99 undef :: T.getD 100 undef :: T.getD 101 undef :: T.getD 102 undef :: T.getD 103 undef :: T.getD 104 undef :: T.getD 105 undef :: T.getD 106 undef :: T.getD 107 undef :: T.getD 108 undef :: T.getD 109 undef :: T.getD 110 undef :: T.getD 111 undef :: T.getD 112 undef :: T.getD 113 undef :: T.getD 114 undef :: T.getD 115 undef :: T.getD 116 undef :: T.getD 117 undef :: T.getD 118 undef :: T.getD 119 undef :: T.getD 120 undef :: T.getD 121 undef :: T.getD 122 undef :: T.getD 123 undef :: T.getD 124 undef :: T.getD 125 undef :: T.getD 126 undef :: T.getD 127 undef :: T.getD 128 undef :: T.getD 129 undef :: T.getD 130 undef :: T.getD 131 undef :: T.getD 132 undef :: T.getD 133 undef :: T.getD 134 undef :: T.getD 135 undef :: T.getD 136 undef :: T.getD 137 undef :: T.getD 138 undef :: (.slice (some ak) l0.length ck : Value) :: (.int .i64 (l0.length : Int) : Value) :: (.int .i64 ((j : Int) + 1) : Value) :: T.getD 142 undef :: T.getD 143 undef :: T.getD 144 undef :: T.getD 145 undef :: T.getD 146 undef :: T.getD 147 undef :: T.getD 148 undef :: T.getD 149 undef :: T.getD 150 undef :: T.getD 151 undef :: T.getD 152 undef :: T.getD 153 undef :: T.getD 154 undef :: T.getD 155 undef :: T.getD 156 undef :: T.getD 157 undef :: T.getD 158 undef :: T.getD 159 undef :: T.getD 160 undef :: T.getD 161 undef :: T.getD 162 undef :: T.getD 163 undef :: T.getD 164 undef :: T.getD 165 undef :: T.getD 166 undef :: T.getD 167 undef :: T.getD 168 undef :: T.getD 169 undef :: T.getD 170 undef :: T.getD 171 undef :: T.getD 172 undef :: T.getD 173 undef :: T.getD 174 undef :: T.getD 175 undef :: T.getD 176 undef :: T.getD 177 undef :: T.getD 178 undef :: T.getD 179 undef :: T.getD 180 undef :: T.getD 181 undef :: T.getD 182 undef :: T.getD 183 undef :: T.getD 184 undef :: T.getD 185 undef :: T.getD 186 undef :: T.getD 187 undef :: T.getD 188 undef :: T.getD 189 undef :: T.getD 190 undef :: T.getD 191 undef :: T.getD 192 undef :: T.getD 193 undef :: T.getD 194 undef :: T.getD 195 undef :: T.getD 196 undef :: T.getD 197 undef :: T.getD 198 undef :: T.getD 199 undef :: []) → (∀ x ∈ row.take (j + 1), up n5 x ≤ 1048576) → W'.ownsRow w4.heap.size 22 1 (.slice (some ⟨s3, 0, none⟩) l2.length cp3) l2.length (vs.set kk (.slice (some ⟨s4, 0, none⟩) l0.length cp4)) → W'.ownsRow w4.heap.size 3 1 (.slice (some ⟨s4, 0, none⟩) l0.length cp4) l0.length (nums .i64 (upRow n5 row (j + 1))) → Below w4.heap.size w4 W' → Handed J (l0.length - j) { tmps := T, defers := [] } W' := fun T W' hT h1 h2 h3 h4 =>
                  ⟨l0.length - (j + 1), by omega, hJ _ _ _ ⟨j + 1, fun i => T.getD i undef, rfl, by omega, h1, h2, h3, h4, congrArg (fun T => (Act.mk T _)) hT⟩⟩
                have hjr : j < row.length := by omega
                obtain ⟨y, hy0⟩ : ∃ y, row[j] = y := ⟨_, rfl⟩
                have hyb : -1 ≤ y ∧ y ≤ 1048576 := by rw [← hy0]; exact HRB.out _ (List.getElem_mem hjr)
                have gk := pw_cell_below HBW.out (row_cells HCK.out j (.int .i64 y) (by simp [nums, List.getElem?_eq_getElem hjr, hy0]))
                obtain ⟨g1, _⟩ := own_cell1 HO.out kk hkv
                have hat : (nums .i64 (upRow n5 row j))[j]? = some (.int .i64 y) := by simp [nums, upRow_at n5 hjr, hy0]
                obtain ⟨g2, g3⟩ := own_cell1 HO'.out j hat
                have hstep : ∀ z, up n5 y = z → z ≤ 1048576 → ∀ x ∈ row.take (j + 1), up n5 x ≤ 1048576 := fun z hz hz' x hx => by
                  rw [take_get hjr] at hx
                  rcases List.mem_append.1 hx with hx | hx
                  · exact HLE.out x hx
                  · rw [List.mem_singleton.1 hx, hy0, hz]; exact hz'
                have HST := Aside0.mk hstep
                have HY0 := Aside0.mk hy0
                clear hstep hy0 hat
                by_cases hy : 0 ≤ y
                · have hw := w64 (x := y + (n5 : Int)) (by omega) (by omega)
                  have hoS := own_store HO'.out (j : Int) (y + (n5 : Int))
                  rw [Int.toNat_natCast] at hoS
                  have ho1 := hoS.1
                  have ho2 := own_setCell HO.out (p := ⟨s4, j, none⟩) (by simpa [Value.ownBlock] using hne4.symm) (.int .i64 (y + (n5 : Int)))
                  obtain ⟨g4, _⟩ := own_cell1 ho2 kk hkv
                  have g5 := World.cell?_setCell_same W ⟨s4, j, none⟩ (.int .i64 (y + (n5 : Int))) g2
                  have hbS : Below w4.heap.size w4 (W.setCell ⟨s4, j, none⟩ (.int .i64 (y + (n5 : Int)))) := below_set HBW.out hs4
                  have hup : up n5 y = y + (n5 : Int) := by unfold up; rw [if_pos hy]
                  have hnext : (upRow n5 row j).set j (y + (n5 : Int)) = upRow n5 row (j + 1) := by rw [← hup, ← HY0.out]; exact upRow_set n5 hjr
                  rw [hnext] at ho1
                  have HOA := Aside0.mk ho1
                  have HOB := Aside0.mk ho2
                  have HBS := Aside0.mk hbS
                  have HUP := Aside0.mk hup
                  clear ho1 ho2 hbS hup hnext hoS
                  have hyd := decide_eq_true hy
                  by_cases hmax : y + (n5 : Int) > 1048576
                  · have hmd := decide_eq_true hmax
                    go_wp2_with fail
                    exact bodyPost_ret (v := .bool true) (by simp [results, Try.results8, go_sem]) rfl ⟨rfl, below_then HB.out HB.out.size HBS.out⟩
                  · have hmd := decide_eq_false hmax
                    have hmx' : y + (n5 : Int) ≤ 1048576 := by omega
                    go_wp2_with fail
                    exact fin _ _ rfl (HST.out _ HUP.out hmx') HOB.out HOA.out HBS.out
                · have hyd := decide_eq_false hy
                  have hmd : decide (y > 1048576) = false := decide_eq_false (by omega)
                  have hup : up n5 y = y := by unfold up; rw [if_neg hy]
                  have hnext : upRow n5 row j = upRow n5 row (j + 1) := upRow_next n5 hjr (by rw [HY0.out]; omega)
                  have HUP := Aside0.mk hup
                  have HNX := Aside0.mk hnext
                  clear hup hnext
                  have hyb2 := hyb.2
                  go_wp2_with fail
                  exact fin _ _ rfl (HST.out _ HUP.out hyb2) HO.out (by rw [← HNX.out]; exact HO'.out) HBW.out
              · obtain rfl : j = l0.length := by omega
                clear hJ hK
                have hle := HLE.out
                have ho' := HO'.out
                rw [← hrl, upRow_all, hrl] at ho'
                rw [← hrl, List.take_length] at hle
                obtain ⟨cm, hcm1, hcm, hCm⟩ := rows_set (l2 := l2) (row' := row.map (up n5)) HO.out ho' (by rw [List.length_map]; exact hrl) HBW.out hvl hkl HVK.out
                subst hcm1
                obtain ⟨⟨p3, q3, b3⟩, hp3⟩ : ∃ b, PC.placeS l0 a1 (l2.set kk (row.map (up n5))) = b := ⟨_, rfl⟩
                have hP3 : rounds_Place.f l0 a1 (l2.set kk (row.map (up n5))) = some (p3, q3, b3, 0) := by rw [place_eq, placeA, if_pos (check_set HC.out kk _ (more_ok n5 hrl HRB.out hle)), hp3]
                have hmore := place_raised (l0 := l0) (a1 := a1) (l2 := l2) kk (row.map (up n5)) (n5 : Int) hkl (by rw [getD_of HR0K.out]; exact more_rel n5 hrl) (by rw [getD_of HR0K.out]; exact more_rel' n5 hrl)
                rw [hp3, HP1.out] at hmore
                obtain ⟨hm1, hm2⟩ := hmore
                simp only at hm1 hm2
                subst hm1
                have hls : (l2.set kk (row.map (up n5))).length = l2.length := List.length_set
                have hcall := rounds_Place.calls A0 c0 l0 a1 (some ⟨s3, 0, none⟩) cp3 (l2.set kk (row.map (up n5))) p3 q3 b3 0 W (Kd.C_below HR0.out HBW.out) hc0 hCm hcm hP3
                rw [hls] at hcall
                obtain ⟨hps, hq0, hq1⟩ := placed_small HC.out HP1.out
                have HM2 := Aside0.mk hm2
                have HCALL := Aside0.mk hcall
                clear hcall hls hP3 hp3 hCm hm2 hle ho' HO' HO hcm
                go_wp2_with fail
                refine HCALL.out.mono ?_
                rintro e w16 ⟨v0'', rfl, hv0'', hb16'⟩
                obtain ⟨A3, c3, rfl, hc3', hC3⟩ := Kd.R_reads hv0''
                have hb16 : Below w4.heap.size w4 w16 := below_then HBW.out HBW.out.size hb16'
                have HB16 := Aside0.mk hb16
                have HC3 := Aside0.mk hC3
                clear hv0'' hb16' hb16 hC3
                cases b3
                · go_wp2_with fail
                  exact bodyPost_ret (v := .bool true) (by simp [results, Try.results8, go_sem]) rfl ⟨rfl, below_then HB.out HB.out.size HB16.out⟩
                · obtain ⟨hm3', rfl⟩ := HM2.out rfl
                  subst hm3'
                  have hw := w64 (x := q1 + (n5 : Int)) (by omega) (by omega)
                  obtain ⟨ks, hks⟩ := (same_ev p1 p1 (by omega)).rounds
                  rw [decide_eq_true rfl] at hks
                  have HKS := Aside0.mk hks
                  clear hks
                  go_wp2_with fail
                  refine (fastiref32_Same.calls ks Aat cat p1 A3 c3 p1 true w16 (Kd.C_below HAT.out HB16.out) hcat HC3.out hc3' HKS.out).mono ?_
                  rintro e w17 ⟨rfl, ⟨n17, rfl⟩⟩
                  have hb17 := pw_below_drewN HB16.out n17
                  obtain ⟨w17, hw17⟩ : ∃ w17, w16.drewN n17 = w17 := ⟨_, rfl⟩
                  rw [hw17] at hb17 ⊢
                  have HB17 := Aside0.mk hb17
                  clear hw17 hb17
                  go_wp2_with fail
                  exact bodyPost_ret (v := .bool true) (by simp [results, Try.results8, go_sem]) rfl ⟨rfl, below_then HB.out HB.out.size HB17.out⟩
    · have hc' : (PC.checkS l0 a1 l2 != 0) = true := by simpa using hc
      go_wp2_with fail
      exact bodyPost_ret (v := .bool true) (by simp [results, Try.results8, go_sem]) rfl ⟨rfl, hb3⟩
end LP
def fastilaw32_RoundsPrices.f (_l0 : List Int) (_a1 : Int) (_l2 : List (List Int)) (a3 a4 a5 : Int) : Option Bool := if (0 ≤ a3 ∧ a3 ≤ 65535) ∧ (0 ≤ a4 ∧ a4 ≤ 65535) ∧ (0 ≤ a5 ∧ a5 ≤ 65535) then some true else none
theorem fastilaw32_RoundsPrices.calls (A0 : Option Addr) (c0 : Nat) (l0 : List Int) (a1 : Int) (A2 : Option Addr) (c2 : Nat) (l2 : List (List Int)) (a3 a4 a5 : Int) (r : Bool) (w : World) (hr0 : Kd.C (Kd.int .i64) w A0 l0.length l0) (hc0 : l0.length ≤ c0)
    (hr2 : Kd.C (Kd.slice 3 (Kd.int .i64)) w A2 l2.length l2) (hc2 : l2.length ≤ c2) (h : fastilaw32_RoundsPrices.f l0 a1 l2 a3 a4 a5 = some r) :
    Calls Try.prog 8 #[.slice A0 l0.length c0, .int .i64 a1, .slice A2 l2.length c2, .int .u16 a3, .int .u16 a4, .int .u16 a5] w fun e w' => e = .returned (.bool r) ∧ Below w.heap.size w w' := by
  unfold fastilaw32_RoundsPrices.f at h
  split at h
  · rename_i hb
    obtain ⟨h3, h4, h5⟩ := hb
    cases h
    obtain ⟨n3, rfl⟩ : ∃ n : Nat, a3 = (n : Int) := ⟨a3.toNat, (Int.toNat_of_nonneg h3.1).symm⟩
    obtain ⟨n4, rfl⟩ : ∃ n : Nat, a4 = (n : Int) := ⟨a4.toNat, (Int.toNat_of_nonneg h4.1).symm⟩
    obtain ⟨n5, rfl⟩ : ∃ n : Nat, a5 = (n : Int) := ⟨a5.toNat, (Int.toNat_of_nonneg h5.1).symm⟩
    exact LP.prices_law A0 c0 l0 a1 A2 c2 l2 n3 n4 n5 w hr0 hc0 hr2 hc2 (by omega) (by omega) (by omega)
  · cases h
end Go.Proofs.Ytaagpnbnjdpjgaa.X
