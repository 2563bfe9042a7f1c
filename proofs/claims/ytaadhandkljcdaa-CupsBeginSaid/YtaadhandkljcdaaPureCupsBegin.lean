/- Proved here: the plain law behind CupsBegin: a beginning of valid scores is valid and eliminates nobody that is not eliminated later, for at most 500 scores. -/
import Derived.Test.YtaadhandkljcdaaQCount
import Derived.Test.YtaadhandkljcdaaX11
namespace Go.Proofs.Ytaadhandkljcdaa.Pure
open Go.RowKit Go.Proofs.Ytaadhandkljcdaa.X Go.Proofs.YtaadhandkljcdaaW.PrintWords Go.Proofs.YtaadhandkljcdaaW.PrintLast Go.Proofs.Ytaadhandkljcdaa.K Go.Proofs.Ytaadhandkljcdaa.X.CQ Go.Proofs.Ytaadhandkljcdaa.Q
set_option linter.unusedVariables false
set_option linter.unusedSimpArgs false
theorem play_append (ts : List S42) : ∀ (xs ys : List S45) (p : PS), playS ts (xs ++ ys) p = (playS ts xs p).bind (playS ts ys)
  | [], ys, p => rfl
  | x :: xs, ys, p => by
    show (stepP ts x p).bind (fun q => playS ts (xs ++ ys) q) = ((stepP ts x p).bind fun q => playS ts xs q).bind _
    cases stepP ts x p with
    | none => rfl
    | some q => exact play_append ts xs ys q
theorem out_step {n : Nat} {ts : List S42} {x : S45} {p q : PS} (hw : Wf n ts) (h : stepP ts x p = some q) (y : Int) (hy : (CQ.look p.out y).getD false = true) : (CQ.look q.out y).getD false = true := by
  obtain ⟨hm, aw, h0, hlt, hn, h1, h2, hg, hcase⟩ := step_inv h
  rcases hcase with ⟨_, _, ho⟩ | ⟨_, w, l, _, _, ho⟩
  · rw [ho]; exact hy
  · rw [ho, look_cons]
    by_cases e : y = l
    · rw [if_pos e]; rfl
    · rw [if_neg e]; exact hy
theorem out_play {n : Nat} {ts : List S42} (hw : Wf n ts) : ∀ {xs : List S45} {p q : PS}, playS ts xs p = some q → ∀ y : Int, (CQ.look p.out y).getD false = true → (CQ.look q.out y).getD false = true
  | [], p, q, h, y, hy => by cases h; exact hy
  | x :: xs, p, q, h, y, hy => by
    unfold playS at h
    obtain ⟨r, hr, h⟩ := Option.bind_eq_some_iff.1 h
    exact out_play hw h y (out_step hw hr y hy)
theorem alive_sub {p q : PS} (h : ∀ y : Int, (CQ.look p.out y).getD false = true → (CQ.look q.out y).getD false = true) (n : Nat) : (CS.aliveTo q n).Sublist (CS.aliveTo p n) := by
  unfold CS.aliveTo
  refine List.Sublist.map _ ?_
  have : (List.range n).filter (fun (x : Nat) => !((CQ.look q.out (x : Int)).getD false)) = ((List.range n).filter (fun (x : Nat) => !((CQ.look p.out (x : Int)).getD false))).filter (fun (x : Nat) => !((CQ.look q.out (x : Int)).getD false)) := by
    rw [List.filter_filter]
    refine List.filter_congr fun x _ => ?_
    have := h (x : Int)
    cases hq : (CQ.look q.out (x : Int)).getD false with
    | true => rfl
    | false =>
      cases hp : (CQ.look p.out (x : Int)).getD false with
      | false => rfl
      | true => rw [this hp] at hq; cases hq
  rw [this]
  exact List.filter_sublist
/-- Going along two lists, the first a sublist of the second. -/
theorem sub_loop (a b : List Int) (hb : b.length ≤ 100) (d : Nat) : ∀ i k : Nat, b.length - i = d → i ≤ b.length → k ≤ a.length → k ≤ i → (a.drop k).Sublist (b.drop i) → Ev (fun m => fastilaw23_CupsBegin.l0 m a b (k : Int) (i : Int)) true := by
  induction d with
  | zero =>
    intro i k hd hi hk hki hs
    obtain rfl : i = b.length := by omega
    rw [List.drop_length] at hs
    have hl := hs.length_le
    simp only [List.length_drop, List.length_nil] at hl
    refine Ev.step (f := fun m => fastilaw23_CupsBegin.j3 m a b (k : Int) (b.length : Int) false) (fun m => ?_) (Ev.eq fun m => ?_)
    · simp only [fastilaw23_CupsBegin.l0]
      rw [if_neg (by omega)]
    · simp only [fastilaw23_CupsBegin.j3, Bool.false_eq_true, if_false]
      congr 1
      rw [beq_iff_eq]
      omega
  | succ d ih =>
    intro i k hd hi hk hki hs
    have hil : i < b.length := by omega
    by_cases hka : k < a.length
    · refine Ev.step (f := fun m => fastilaw23_CupsBegin.j3 m a b (k : Int) (i : Int) true) (fun m => ?_) ?_
      · simp only [fastilaw23_CupsBegin.l0]
        rw [if_pos (by omega), decide_eq_true (by omega)]
      · rw [List.drop_eq_getElem_cons hka, List.drop_eq_getElem_cons hil] at hs
        by_cases e : b[i] = a[k]
        · have hs' : (a.drop (k + 1)).Sublist (b.drop (i + 1)) := by
            rw [e] at hs
            exact List.cons_sublist_cons.1 hs
          refine Ev.step (fun m => ?_) (ih (i + 1) (k + 1) (by omega) (by omega) (by omega) (by omega) hs')
          simp only [fastilaw23_CupsBegin.j3, if_true]
          rw [if_pos (by omega), if_pos (by omega), if_pos (by omega), if_pos (by omega), rd_lt hil, rd_lt hka, if_pos e, w64s i (by omega), w64s k (by omega)]
        · have hs' : (a.drop k).Sublist (b.drop (i + 1)) := by
            rw [List.drop_eq_getElem_cons hka]
            rcases List.sublist_cons_iff.1 hs with h | ⟨r, hr, h⟩
            · exact h
            · exact absurd (List.cons.inj hr).1.symm e
          refine Ev.step (fun m => ?_) (ih (i + 1) k (by omega) (by omega) (by omega) (by omega) hs')
          simp only [fastilaw23_CupsBegin.j3, if_true]
          rw [if_pos (by omega), if_pos (by omega), if_pos (by omega), if_pos (by omega), rd_lt hil, rd_lt hka, if_neg e, w64s i (by omega)]
    · refine Ev.step (f := fun m => fastilaw23_CupsBegin.j3 m a b (k : Int) (i : Int) false) (fun m => ?_) (Ev.eq fun m => ?_)
      · simp only [fastilaw23_CupsBegin.l0]
        rw [if_pos (by omega), decide_eq_false (by omega)]
      · simp only [fastilaw23_CupsBegin.j3, Bool.false_eq_true, if_false]
        congr 1
        rw [beq_iff_eq]
        omega
theorem CupsBegin (a0 : Int) (l1 : List S45) (a2 : Int) (_ : (Lit.int .i64 a0).wf = true) (_ : (Lit.int .i64 a2).wf = true) : ∃ k, fastilaw23_CupsBegin.f k a0 l1 a2 = some true := by
  refine Ev.rounds (g := fun k => fastilaw23_CupsBegin.f k a0 l1 a2) ?_
  unfold fastilaw23_CupsBegin.f
  simp only [fastilaw23_sane.f, Option.bind_some, if_true]
  have out : Ev (fun k => fastilaw23_CupsBegin.j0 k a0 l1 a2 true) true := Ev.eq fun k => by simp only [fastilaw23_CupsBegin.j0, if_true]
  by_cases hl : (l1.length : Int) > 500
  · simp only [if_pos hl]; exact out
  simp only [if_neg hl]
  by_cases ha : a2 < 0
  · simp only [if_pos ha]; exact out
  simp only [if_neg ha]
  by_cases hb : a2 > (l1.length : Int)
  · simp only [decide_eq_true hb]; exact out
  simp only [decide_eq_false hb]
  obtain ⟨at', rfl⟩ : ∃ m : Nat, a2 = (m : Int) := ⟨_, (Int.toNat_of_nonneg (by omega)).symm⟩
  by_cases h : 2 ≤ a0 ∧ a0 ≤ 64
  · obtain ⟨n, rfl⟩ : ∃ n : Nat, a0 = (n : Int) := ⟨a0.toNat, (Int.toNat_of_nonneg (by omega)).symm⟩
    have h2 : 2 ≤ n := by omega
    have h64 : n ≤ 64 := by omega
    cases ho : playS (CK.ties n) l1 ⟨[], [], []⟩ with
    | none =>
      refine Ev.eq fun k => ?_
      simp only [fastilaw23_CupsBegin.j0, Bool.false_eq_true, if_false, play_none h2 h64 ho, Option.bind_some]
      rfl
    | some p =>
      have hsplit := ho
      rw [← List.take_append_drop at' l1, play_append] at hsplit
      obtain ⟨q, hq, hrest⟩ := Option.bind_eq_some_iff.1 hsplit
      have hsub := alive_sub (out_play (wf h2 h64) hrest) n
      have hll := hsub.length_le
      have hlen := CS.alive_len q n
      refine Ev.step (f := fun k => fastilaw23_CupsBegin.j1 k (CS.aliveTo p n) (CS.aliveTo q n) false) (fun k => ?_) ?_
      · simp only [fastilaw23_CupsBegin.j0, Bool.false_eq_true, if_false, play_some h2 h64 ho, Option.bind_some, if_true]
        rw [if_pos (by omega), if_pos (by omega), Int.toNat_natCast, play_some h2 h64 hq]
        simp only [Option.bind_some, if_true]
        rw [decide_eq_false (by omega)]
      · refine Ev.step (f := fun k => fastilaw23_CupsBegin.l0 k (CS.aliveTo p n) (CS.aliveTo q n) ((0 : Nat) : Int) ((0 : Nat) : Int)) (fun k => ?_) (sub_loop _ _ (by omega) _ 0 0 rfl (Nat.zero_le _) (Nat.zero_le _) (Nat.le_refl _) (by simpa using hsub))
        simp only [fastilaw23_CupsBegin.j1, Bool.false_eq_true, if_false]
        rfl
  · refine Ev.eq fun k => ?_
    simp only [fastilaw23_CupsBegin.j0, Bool.false_eq_true, if_false, play_out h, Option.bind_some]
    rfl
end Go.Proofs.Ytaadhandkljcdaa.Pure
