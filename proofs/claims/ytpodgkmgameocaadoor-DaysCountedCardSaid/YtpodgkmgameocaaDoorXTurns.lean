/- Proved here: what days.turns returns (CT) -/
import Derived.Test.YtpodgkmgameocaaDoorX0
import Derived.Test.YtpodgkmgameocaaDoorK
import Derived.Test.YtpodgkmgameocaaDoorX5
import Derived.Test.YtpodgkmgameocaaDoorXConcat
import Derived.Test.YtpodgkmgameocaaDoorXSets
import Derived.Test.YtpodgkmgameocaaDoorXSorts
namespace Go.Proofs.YtpodgkmgameocaaDoor.X
open Go.RowKit Go.Proofs.YtpodgkmgameocaaDoorW.PrintWords Go.Proofs.YtpodgkmgameocaaDoorW.PrintLast Go.Proofs.YtpodgkmgameocaaDoorW.PrintMore
attribute [local go_sem] max2_int min2_int max_two min_two max_three min_three max_four min_four
set_option linter.unusedVariables false
set_option linter.unusedSimpArgs false
namespace CT
open Go.Proofs.YtpodgkmgameocaaDoor.K
attribute [local go_sem] Oper.semAt_some
theorem new_cells {W : World} {g : Nat} (hg : g = W.heap.size) (cs : List Value) (t : TypeId) : ∀ j u, cs[j]? = some u → (W.alloc (.cells cs.toArray t)).cell? ((⟨g, 0, none⟩ : Addr).add j) = some u := by
  intro j u hu
  subst hg
  rw [add_plain, blk_cell (blk_new W (.cells cs.toArray t)) j]
  simpa using hu
theorem blk_keep {W w3 : World} {gt : Nat} {row : Option Nat} {o o1 o2 : Obj} (h : W.heap[gt]? = some o) (hg : ((W.alloc o1).alloc o2).grownBy w3 row) (_ : True) (hr : some gt ≠ row) : w3.heap[gt]? = some o := by
  have hlt := blk_lt h
  rw [hg.block gt (by simp; omega) hr, Below.heap_alloc _ o2 gt (by simp; omega), Below.heap_alloc _ o1 gt hlt]
  exact h
theorem atL_snoc (l : List S45) (y0 y1 : Int) : nums .i64 (SS.atL (l ++ [⟨y0, y1⟩])) = nums .i64 (SS.atL l) ++ [.int .i64 y0, .int .i64 (y1 + 1)] := by
  simp [SS.atL, nums]
theorem atL_length (l : List S45) : (SS.atL l).length = 2 * l.length := by
  induction l with
  | nil => rfl
  | cons x l ih =>
    have : SS.atL (x :: l) = x.f0 :: (x.f1 + 1) :: SS.atL l := rfl
    rw [this]
    simp only [List.length_cons, ih]
    omega
theorem gb_set {w2 W : World} {gt b : Nat} (h : w2.grownBy W (some gt)) (hb : b = gt ∨ w2.heap.size ≤ b) (j : Nat) (v : Value) : w2.grownBy (W.setCell ⟨b, j, none⟩ v) (some gt) :=
  ⟨h.os, h.tape, h.output, by rw [World.size_setCell]; exact h.size, fun k hk hr => by
    rw [Below.heap_setCell W _ _ k (fun e => by
      rcases hb with rfl | hb
      · exact hr (by rw [e])
      · have : k = b := e
        omega)]
    exact h.block k hk hr⟩
theorem blk_here (w : World) (o : Obj) {k : Nat} (h : k = w.heap.size) : (w.alloc o).heap[k]? = some o := by subst h; exact blk_new w o
theorem gb_alloc {w2 W : World} {r : Option Nat} (h : w2.grownBy W r) (o : Obj) : w2.grownBy (W.alloc o) r :=
  ⟨h.os, h.tape, h.output, by rw [World.size_alloc]; have := h.size; omega, fun k hk hr => by
    rw [Below.heap_alloc W o k (by have := h.size; omega)]
    exact h.block k hk hr⟩
theorem gb_grown {w2 W W' : World} {gt : Nat} {row : Option Nat} (h : w2.grownBy W (some gt)) (hg : W.grownBy W' row) (hr : ∀ k, row = some k → w2.heap.size ≤ k) : w2.grownBy W' (some gt) :=
  ⟨hg.os.trans h.os, hg.tape.trans h.tape, hg.output.trans h.output, Nat.le_trans h.size hg.size, fun k hk hr' => by
    rw [hg.block k (by have := h.size; omega) (fun e => by have := hr k e.symm; omega)]
    exact h.block k hk hr'⟩
set_option maxRecDepth 100000 in
set_option maxHeartbeats 8000000 in
theorem turns_calls (A0 : Option Addr) (c0 : Nat) (l0 : List S45) (A1 : Option Addr) (c1 : Nat) (l1 : List S45) (w : World) 
    (hr0 : Kd.C k45 w A0 l0.length l0) (hc0 : l0.length ≤ c0) (hr1 : Kd.C k45 w A1 l1.length l1) (hc1 : l1.length ≤ c1) (hl0 : l0.length ≤ 256) (hl1 : l1.length ≤ 256) (hv : ∀ x ∈ l0 ++ l1, 0 ≤ x.f1 ∧ x.f1 ≤ 73048) :
    Calls Tryd.prog 42 #[.slice A0 l0.length c0, .slice A1 l1.length c1] w fun e w' => e = .returned (.func (.func 47) #[] #[.pointer (some ⟨w.heap.size, 0, none⟩), .pointer (some ⟨w.heap.size + 1, 0, none⟩), .pointer (some ⟨w.heap.size + 1 + 1, 0, none⟩)]) ∧ ∃ V, w'.heap[w.heap.size]? = some (.cells #[.slice A0 l0.length c0] 32 (0, 0)) ∧ w'.heap[w.heap.size + 1]? = some (.cells #[.slice A1 l1.length c1] 32 (0, 0)) ∧ w'.heap[w.heap.size + 1 + 1]? = some (.cells #[V] 43 (0, 0)) ∧ w'.ownsRow (w.heap.size + 4) 3 1 V (SS.atL (l0 ++ l1)).length (nums .i64 (SS.isort (SS.atL (l0 ++ l1)))) ∧ Below w.heap.size w w' := by
  obtain ⟨n0, hn0⟩ : ∃ n0 : Nat, l0.length = n0 := ⟨_, rfl⟩
  obtain ⟨n1, hn1⟩ : ∃ n1 : Nat, l1.length = n1 := ⟨_, rfl⟩
  have hinfo3 := info3
  obtain ⟨i3, hi3, hz⟩ := Option.map_eq_some_iff.1 hinfo3
  simp only [Prod.mk.injEq] at hz
  obtain ⟨hz3, hs3, hb3⟩ := hz
  clear hinfo3
  have HR0 := Aside0.mk hr0
  have HR1 := Aside0.mk hr1
  have HV := Aside0.mk hv
  clear hv
  have HC0 := Aside0.mk hc0
  have HC1 := Aside0.mk hc1
  have HN := Aside0.mk (And.intro hn0 hn1)
  rw [hn0] at hl0 hc0 ⊢
  rw [hn1] at hl1 hc1 ⊢
  clear hr0 hr1 hn0 hn1
  go_enter Tryd.func42, Tryd.ntmps42
  go_wp2_with fail
  have hB4 : Below w.heap.size w ((((w.alloc (Obj.cells #[Value.slice A0 n0 c0] 32)).alloc (Obj.cells #[Value.slice A1 n1 c1] 32)).alloc (Obj.cells #[Value.slice none 0 0] 43)).alloc (Obj.cells #[Value.slice A0 n0 c0, Value.slice A1 n1 c1] 32)) := below_alloc (below_alloc (below_alloc (below_alloc (Below.refl _ _) _) _) _) _
  have b0 := blk_alloc (blk_alloc (blk_alloc (blk_new w (.cells #[Value.slice A0 n0 c0] 32)) (Obj.cells #[Value.slice A1 n1 c1] 32)) (Obj.cells #[Value.slice none 0 0] 43)) (Obj.cells #[Value.slice A0 n0 c0, Value.slice A1 n1 c1] 32)
  have b1 := blk_alloc (blk_alloc (blk_here (w.alloc (.cells #[Value.slice A0 n0 c0] 32)) (Obj.cells #[Value.slice A1 n1 c1] 32) (k := w.heap.size + 1) (by simp)) (Obj.cells #[Value.slice none 0 0] 43)) (Obj.cells #[Value.slice A0 n0 c0, Value.slice A1 n1 c1] 32)
  have b2 := blk_alloc (blk_here ((w.alloc (.cells #[Value.slice A0 n0 c0] 32)).alloc (Obj.cells #[Value.slice A1 n1 c1] 32)) (Obj.cells #[Value.slice none 0 0] 43) (k := w.heap.size + 1 + 1) (by simp)) (Obj.cells #[Value.slice A0 n0 c0, Value.slice A1 n1 c1] 32)
  have b3 := blk_here (((w.alloc (.cells #[Value.slice A0 n0 c0] 32)).alloc (Obj.cells #[Value.slice A1 n1 c1] 32)).alloc (Obj.cells #[Value.slice none 0 0] 43)) (Obj.cells #[Value.slice A0 n0 c0, Value.slice A1 n1 c1] 32) (k := w.heap.size + 1 + 1 + 1) (by simp)
  obtain ⟨W4, hW4⟩ : ∃ W4, ((((w.alloc (Obj.cells #[Value.slice A0 n0 c0] 32)).alloc (Obj.cells #[Value.slice A1 n1 c1] 32)).alloc (Obj.cells #[Value.slice none 0 0] 43)).alloc (Obj.cells #[Value.slice A0 n0 c0, Value.slice A1 n1 c1] 32)) = W4 := ⟨_, rfl⟩
  have hsz4 : W4.heap.size = w.heap.size + 4 := by rw [← hW4]; simp
  rw [hW4] at hB4 b0 b1 b2 b3 ⊢
  clear hW4
  refine (CC.concat_calls (w.heap.size + 1 + 1 + 1) A0 c0 l0 A1 c1 l1 W4 (by rw [HN.out.1, HN.out.2]; exact b3) (Kd.C_below HR0.out hB4) HC0.out (Kd.C_below HR1.out hB4) HC1.out (by rw [HN.out.1]; exact hl0) (by rw [HN.out.2]; exact hl1)).mono ?_
  rintro e w2 ⟨v, rfl, ho, hb⟩
  obtain ⟨Ax, cx, rfl, hcx, hCx⟩ := Kd.R_reads ho
  obtain ⟨N, hNN⟩ : ∃ N : Nat, (l0 ++ l1).length = N := ⟨_, rfl⟩
  have hN5 : N ≤ 512 := by rw [← hNN, List.length_append, HN.out.1, HN.out.2]; omega
  obtain ⟨ga, hga⟩ : ∃ ga, w.heap.size = ga := ⟨_, rfl⟩
  have d0 := blk_below b0 hb
  have d1 := blk_below b1 hb
  have d2 := blk_below b2 hb
  have hB2 := below_then hB4 (by omega) hb
  have hz2 : w.heap.size + 4 ≤ w2.heap.size := by have := hb.size; omega
  have hRr := Kd.R_mono (Kd.R_bound ho) (ok' := fun k => W4.heap.size ≤ k ∧ k < w2.heap.size) (fun k hk => ⟨hk.2.1, hk.2.2.1⟩)
  rw [hsz4, hga] at hRr
  rw [hga] at d0 d1 d2 hB2 hz2 ⊢
  rw [hNN] at hcx ⊢
  have HRR := Aside0.mk hRr
  have HD := Aside0.mk (And.intro d0 (And.intro d1 d2))
  have HB2 := Aside0.mk hB2
  have HNN := Aside0.mk hNN
  have HGA := Aside0.mk hga
  clear b0 b1 b2 b3 hB4 ho hb hCx d0 d1 d2 hB2 hRr hNN hga hsz4
  go_wp2_with fail
  refine wp_loop_ghost_k (fun q a W => ∃ (i : Nat) (V : Value) (u : Nat → Value), q = N - i ∧ i ≤ N ∧ w2.grownBy W (some (ga + 1 + 1)) ∧ W.heap[ga + 1 + 1]? = some (.cells #[V] 43 (0, 0)) ∧ W.ownsRow w2.heap.size 3 1 V (2 * i) (nums .i64 (SS.atL ((l0 ++ l1).take i))) ∧ a = { tmps := List.toArray ((.slice A0 n0 c0 : Value) :: (.slice A1 n1 c1 : Value) :: (.pointer (some ⟨ga, 0, none⟩) : Value) :: (.pointer (some ⟨ga + 1, 0, none⟩) : Value) :: (.nilFunc : Value) :: (.pointer (some ⟨ga + 1 + 1, 0, none⟩) : Value) :: u 6 :: u 7 :: u 8 :: u 9 :: u 10 :: (.slice Ax N cx : Value) :: (.int .i64 (N : Int) : Value) :: (.int .i64 (i : Int) : Value) :: u 14 :: u 15 :: u 16 :: u 17 :: u 18 :: u 19 :: u 20 :: u 21 :: u 22 :: u 23 :: u 24 :: u 25 :: u 26 :: u 27 :: u 28 :: []), defers := [] }) N ?start ?round
  case start =>
    have sta : ∀ T : Array Value, T = List.toArray ((.slice A0 n0 c0 : Value) :: (.slice A1 n1 c1 : Value) :: (.pointer (some ⟨ga, 0, none⟩) : Value) :: (.pointer (some ⟨ga + 1, 0, none⟩) : Value) :: (.nilFunc : Value) :: (.pointer (some ⟨ga + 1 + 1, 0, none⟩) : Value) :: T.getD 6 undef :: T.getD 7 undef :: T.getD 8 undef :: T.getD 9 undef :: T.getD 10 undef :: (.slice Ax N cx : Value) :: (.int .i64 (N : Int) : Value) :: (.int .i64 0 : Value) :: T.getD 14 undef :: T.getD 15 undef :: T.getD 16 undef :: T.getD 17 undef :: T.getD 18 undef :: T.getD 19 undef :: T.getD 20 undef :: T.getD 21 undef :: T.getD 22 undef :: T.getD 23 undef :: T.getD 24 undef :: T.getD 25 undef :: T.getD 26 undef :: T.getD 27 undef :: T.getD 28 undef :: []) → ∃ (i : Nat) (V : Value) (u : Nat → Value), N = N - i ∧ i ≤ N ∧ w2.grownBy w2 (some (ga + 1 + 1)) ∧ w2.heap[ga + 1 + 1]? = some (.cells #[V] 43 (0, 0)) ∧ w2.ownsRow w2.heap.size 3 1 V (2 * i) (nums .i64 (SS.atL ((l0 ++ l1).take i))) ∧ (Act.mk T []) = { tmps := List.toArray ((.slice A0 n0 c0 : Value) :: (.slice A1 n1 c1 : Value) :: (.pointer (some ⟨ga, 0, none⟩) : Value) :: (.pointer (some ⟨ga + 1, 0, none⟩) : Value) :: (.nilFunc : Value) :: (.pointer (some ⟨ga + 1 + 1, 0, none⟩) : Value) :: u 6 :: u 7 :: u 8 :: u 9 :: u 10 :: (.slice Ax N cx : Value) :: (.int .i64 (N : Int) : Value) :: (.int .i64 (i : Int) : Value) :: u 14 :: u 15 :: u 16 :: u 17 :: u 18 :: u 19 :: u 20 :: u 21 :: u 22 :: u 23 :: u 24 :: u 25 :: u 26 :: u 27 :: u 28 :: []), defers := [] } := fun T hT =>
      ⟨0, .slice none 0 0, fun i => T.getD i undef, rfl, Nat.zero_le _, World.grownBy.refl _ _, HD.out.2.2, World.ownsRow_nil _ _ _ _, congrArg (fun T => (Act.mk T _)) hT⟩
    exact sta _ rfl
  case round =>
    rintro q a W ⟨i, V, u, rfl, hi, hg, hbt, ho, rfl⟩ J K hJ hK
    by_cases hlt : i < N
    · have k1 : decide ((i : Int) < (N : Int)) = true := decide_eq_true (by omega)
      have hRW := Kd.R_grown HRR.out hg (fun k hk e => by cases e; omega)
      have hiL : i < (l0 ++ l1).length := by rw [HNN.out]; exact hlt
      obtain ⟨_, _, hC⟩ := Kd.R_reads' hRW
      obtain ⟨ad, e, h0, h1⟩ := at_T45 hC (i : Int) (by omega) (by omega)
      subst e
      rw [SS.rd45_lt hiL, Int.toNat_natCast] at h0 h1
      obtain ⟨y, hy⟩ : ∃ y, (l0 ++ l1)[i] = y := ⟨_, rfl⟩
      rw [hy] at h0 h1
      have hyv := HV.out y (by rw [← hy]; exact List.getElem_mem hiL)
      have HY := Aside0.mk hy
      obtain ⟨y0, y1⟩ := y
      obtain ⟨hv0, hv1⟩ := hyv
      simp only at h0 h1 hv0 hv1
      have t0 := blk_cell (blk_alloc hbt (.cells #[.int .i64 y0, .int .i64 y1] 45)) 0
      simp only [List.getElem?_toArray, List.getElem?_cons_zero] at t0
      have HG := Aside0.mk hg
      have HBT := Aside0.mk hbt
      have HO := Aside0.mk ho
      have HRW := Aside0.mk hRW
      clear hg hbt ho hRW hC hy
      have hws : w2.heap.size ≤ W.heap.size := HG.out.size
      have fin : ∀ (V' : Value) (W2 : World) (T : Array Value), w2.grownBy W2 (some (ga + 1 + 1)) → W2.heap[ga + 1 + 1]? = some (.cells #[V'] 43 (0, 0)) → W2.ownsRow w2.heap.size 3 1 V' (2 * (i + 1)) (nums .i64 (SS.atL ((l0 ++ l1).take (i + 1)))) → T = List.toArray ((.slice A0 n0 c0 : Value) :: (.slice A1 n1 c1 : Value) :: (.pointer (some ⟨ga, 0, none⟩) : Value) :: (.pointer (some ⟨ga + 1, 0, none⟩) : Value) :: (.nilFunc : Value) :: (.pointer (some ⟨ga + 1 + 1, 0, none⟩) : Value) :: T.getD 6 undef :: T.getD 7 undef :: T.getD 8 undef :: T.getD 9 undef :: T.getD 10 undef :: (.slice (some ad) N cx : Value) :: (.int .i64 (N : Int) : Value) :: (.int .i64 ((i : Int) + 1) : Value) :: T.getD 14 undef :: T.getD 15 undef :: T.getD 16 undef :: T.getD 17 undef :: T.getD 18 undef :: T.getD 19 undef :: T.getD 20 undef :: T.getD 21 undef :: T.getD 22 undef :: T.getD 23 undef :: T.getD 24 undef :: T.getD 25 undef :: T.getD 26 undef :: T.getD 27 undef :: T.getD 28 undef :: []) → Handed J (N - i) { tmps := T, defers := [] } W2 := fun V' W2 T h1 h2 h3 hT =>
        ⟨N - (i + 1), by omega, hJ _ _ _ ⟨i + 1, V', fun k => T.getD k undef, rfl, by omega, h1, h2, h3, congrArg (fun T => (Act.mk T _)) hT⟩⟩
      have hne : some (ga + 1 + 1) ≠ V.ownBlock := fun e => by
        have := own_base HO.out _ e.symm
        omega
      go_wp2_with ((at_builtin; refine wpList_append_own_at _ rfl (.tmp 17) (.tmp 23) 43 rfl w2.heap.size 3 i3 (.int .i64 0) 1 8 Tryd.underlying43 hi3 hz3 hs3 hb3 rfl (by decide) V (2 * i) _ rfl ((HO.out.alloc _).alloc _) ⟨W.heap.size + 1, 0, none⟩ 2 2 [.int .i64 y0, .int .i64 (y1 + 1)] rfl rfl (new_cells (by simp) _ 3) (by simp [Value.oneCell']) (by simp only [maxLen]; omega) (by omega) (by simp; omega) ?_; intro v1 w3 ho3 hg3 _ hat; obtain ⟨g, cap, hv1e, hgb, _⟩ := World.ownsRow.form ho3 (by omega); subst hv1e; have hb3 := blk_keep HBT.out hg3 trivial hne; have c3 := blk_cell hb3 0; have f3 := blk_frozen hb3 0; simp only [List.getElem?_toArray, List.getElem?_cons_zero] at c3))
      have hne2 : some (ga + 1 + 1) ≠ (Value.slice (some ⟨g, 0, none⟩) (2 * i + 2) cap).ownBlock := by
        simp [Value.ownBlock]
        omega
      refine fin (.slice (some ⟨g, 0, none⟩) (2 * i + 2) cap) _ _ (gb_set (gb_grown (gb_alloc (gb_alloc HG.out _) _) hg3 (fun k hk => own_base HO.out k hk)) (.inl rfl) 0 _) ?_ ?_ rfl
      · have := blk_set hb3 0 (.slice (some ⟨g, 0, none⟩) (2 * i + 2) cap)
        simpa using this
      · have h := own_setCell ho3 (p := ⟨ga + 1 + 1, 0, none⟩) hne2 (.slice (some ⟨g, 0, none⟩) (2 * i + 2) cap)
        rw [take_get hiL, HY.out, atL_snoc]
        exact h
    · obtain rfl : i = N := by omega
      have k1 : decide ((i : Int) < (i : Int)) = false := decide_eq_false (by omega)
      have t0 := blk_cell hbt 0
      simp only [List.getElem?_toArray, List.getElem?_cons_zero] at t0
      have HG := Aside0.mk hg
      have HBT := Aside0.mk hbt
      have HO := Aside0.mk ho
      clear hg hbt ho hi hJ
      have ho' := HO.out
      rw [List.take_of_length_le (by rw [HNN.out]; exact Nat.le_refl _), show 2 * i = (SS.atL (l0 ++ l1)).length by rw [atL_length, HNN.out]] at ho'
      have hal : (SS.atL (l0 ++ l1)).length ≤ 4096 := by rw [atL_length, HNN.out]; omega
      have HO2 := Aside0.mk ho'
      clear ho' HO
      go_wp2_with fail
      refine (SO.sort_own HO2.out hal).mono ?_
      rintro e w5 ⟨rfl, ho5, hg5⟩
      have HO5 := Aside0.mk ho5
      have HG5 := Aside0.mk hg5
      clear ho5 hg5
      go_wp2_with fail
      have hgg := gb_grown HG.out HG5.out (fun k hk => own_base HO2.out k hk)
      have hsW := HG.out.size
      have q0 := hgg.block ga (by omega) (fun e => by have := Option.some.inj e; omega)
      have q1 := hgg.block (ga + 1) (by omega) (fun e => by have := Option.some.inj e; omega)
      have q2 := HG5.out.block (ga + 1 + 1) (by omega) (fun e => by
        have := own_base HO2.out _ e.symm
        omega)
      refine bodyPost_ret (v := .func (.func 47) #[] #[.pointer (some ⟨ga, 0, none⟩), .pointer (some ⟨ga + 1, 0, none⟩), .pointer (some ⟨ga + 1 + 1, 0, none⟩)]) (by simp [results, Tryd.results42, go_sem]) rfl ?_
      rw [HGA.out]
      exact ⟨rfl, V, q0.trans HD.out.1, q1.trans HD.out.2.1, q2.trans HBT.out, own_weaken HO5.out (by omega), HB2.out.grown hgg (by omega) (fun k hk => by cases hk; omega)⟩
end CT
end Go.Proofs.YtpodgkmgameocaaDoor.X
