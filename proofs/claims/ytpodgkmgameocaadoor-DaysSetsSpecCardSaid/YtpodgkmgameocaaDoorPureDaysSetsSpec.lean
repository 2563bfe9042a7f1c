/- Proved here: the reference's union, meet and difference are those of days.combine; DaysSetsSpec's plain law. -/
import Derived.Test.YtpodgkmgameocaaDoorQSets
import Derived.Test.YtpodgkmgameocaaDoorX20
namespace Go.Proofs.YtpodgkmgameocaaDoor.DQ
open Go.RowKit Go.Proofs.YtpodgkmgameocaaDoorW.PrintWords Go.Proofs.YtpodgkmgameocaaDoorW.PrintMore Go.Proofs.YtpodgkmgameocaaDoor.X Go.Proofs.YtpodgkmgameocaaDoor.K
set_option linter.unusedVariables false
set_option linter.unusedSimpArgs false
theorem refGo_one (p : Int → Bool) (n : Int) (r : List S45) : refGo p [n] r = r := rfl
theorem snoc_of {l : List S45} (h : l ≠ []) : ∃ q y, l = q ++ [y] := ⟨l.dropLast, l.getLast h, (List.dropLast_concat_getLast h).symm⟩
theorem getLast_snoc (q : List S45) (y : S45) : (q ++ [y]).getLast? = some y := by rw [List.getLast?_append]; rfl
theorem rd_snoc (q : List S45) (y : S45) : rd_T45 (q ++ [y]) ((q.length : Nat) : Int) = y := by
  rw [SS.rd45_lt (by simp)]
  simp
theorem rof_loop (a b : List S45) (ha : a.length ≤ 256) (hb : b.length ≤ 256) (o : Int) (P : List Int) (hP : P.length ≤ 1024) (hv : ∀ n ∈ P, 0 ≤ n ∧ n ≤ 73049) (d : Nat) : ∀ (i : Nat) (r : List S45), P.length - i = d → i ≤ P.length → r.length ≤ i → (∀ y ∈ r, -1 ≤ y.f1 ∧ y.f1 ≤ 73049) →
    Ev (fun k => fastiref12_of.l0 k a b o P r (i : Int)) (if 256 < (refGo (fun n => opF o (has a n) (has b n)) (P.drop i) r).length then ([], 2) else (refGo (fun n => opF o (has a n) (has b n)) (P.drop i) r, 0)) := by
  induction d with
  | zero =>
    intro i r hd hi hr hy
    rw [List.drop_of_length_le (by omega)]
    refine Ev.eq fun k => ?_
    rw [fastiref12_of.l0, w64s i (by omega), if_neg (by omega)]
    show _ = some (if 256 < r.length then _ else _)
    by_cases h : 256 < r.length
    · rw [if_pos h, if_pos (by omega)]
    · rw [if_neg h, if_neg (by omega)]
      rfl
  | succ d ih =>
    intro i r hd hi hr hy
    have hlt : i < P.length := by omega
    by_cases hl2 : i + 1 < P.length
    · have hd1 : P.drop i = rd P (i : Int) :: rd P ((i + 1 : Nat) : Int) :: P.drop (i + 1 + 1) := by rw [drop_rd hlt, drop_rd hl2]
      have hd2 : P.drop (i + 1) = rd P ((i + 1 : Nat) : Int) :: P.drop (i + 1 + 1) := drop_rd hl2
      rw [hd1, refGo, ← hd2]
      have hn := hv _ (rd_mem hlt)
      have hm := hv _ (rd_mem hl2)
      have e3 : wrap64 (rd P ((i + 1 : Nat) : Int) - 1) = rd P ((i + 1 : Nat) : Int) - 1 := w64 (by omega) (by omega)
      refine Ev.step (f := fun k => (fastiref12_in.f k a b o (rd P (i : Int))).bind fun t => if t = true then (if (∃ y, r.getLast? = some y ∧ y.f1 + 1 = rd P (i : Int)) then fastiref12_of.l0 k a b o P (SS.shut (rd P ((i + 1 : Nat) : Int) - 1) r) ((i + 1 : Nat) : Int) else fastiref12_of.l0 k a b o P (r ++ [⟨rd P (i : Int), rd P ((i + 1 : Nat) : Int) - 1⟩]) ((i + 1 : Nat) : Int)) else fastiref12_of.l0 k a b o P r ((i + 1 : Nat) : Int)) (fun k => ?_) ?_
      · rw [fastiref12_of.l0, w64s i (by omega), if_pos (by omega), if_pos (by omega), if_pos (by omega)]
        congr 1
        funext t
        by_cases ht : t = true
        · rw [if_pos ht, if_pos ht]
          by_cases hne : r = []
          · subst hne
            have e4 : wrap64 (((([] : List S45).length : Nat) : Int) - 1) = -1 := by decide +kernel
            rw [e4, if_neg (by omega), if_pos (by omega), if_pos (by simp), if_neg (by rintro ⟨y, h, _⟩; simp at h), e3]
          · obtain ⟨q, y, rfl⟩ := snoc_of hne
            have e4 : wrap64 ((((q ++ [y]).length : Nat) : Int) - 1) = ((q.length : Nat) : Int) := by
              rw [w64p _ (by simp) (by omega)]
              simp
            have hyb := hy y (by simp)
            rw [e4, if_pos (by omega), if_pos (by omega), if_pos (by simp; omega), rd_snoc, w64 (x := y.f1 + 1) (by omega) (by omega), e3, CB.shut_snoc]
            by_cases hc : y.f1 + 1 = rd P (i : Int)
            · rw [if_pos hc, if_pos (by omega), if_pos ⟨y, getLast_snoc q y, hc⟩, Int.toNat_natCast]
              simp
            · rw [if_neg hc, if_pos (by omega), if_pos (by omega), if_neg (by rintro ⟨y', h, h'⟩; rw [getLast_snoc] at h; cases h; exact hc h')]
        · rw [if_neg ht, if_neg ht]
      · refine Ev.bind (in_ev a b (by omega) (by omega) o _) ?_
        by_cases ht : opF o (has a (rd P (i : Int))) (has b (rd P (i : Int))) = true
        · simp only [if_pos ht]
          by_cases hc : ∃ y, r.getLast? = some y ∧ y.f1 + 1 = rd P (i : Int)
          · simp only [if_pos hc]
            obtain ⟨y, hyl, _⟩ := hc
            have hne : r ≠ [] := by intro e; subst e; simp at hyl
            obtain ⟨q, y, rfl⟩ := snoc_of hne
            rw [CB.shut_snoc]
            refine ih (i + 1) _ (by omega) (by omega) (by simp at hr ⊢; omega) ?_
            intro z hz
            rcases List.mem_append.1 hz with h | h
            · exact hy z (List.mem_append_left _ h)
            · rw [List.mem_singleton.1 h]
              simp only
              omega
          · simp only [if_neg hc]
            refine ih (i + 1) _ (by omega) (by omega) (by simp; omega) ?_
            intro z hz
            rcases List.mem_append.1 hz with h | h
            · exact hy z h
            · rw [List.mem_singleton.1 h]
              simp only
              omega
        · simp only [if_neg ht]
          exact ih (i + 1) r (by omega) (by omega) (by omega) hy
    · have hie : i + 1 = P.length := by omega
      have hd1 : P.drop i = [rd P (i : Int)] := by rw [drop_rd hlt, List.drop_of_length_le (by omega)]
      rw [hd1, refGo_one]
      refine Ev.eq fun k => ?_
      rw [fastiref12_of.l0, w64s i (by omega), if_neg (by omega)]
      by_cases h : 256 < r.length
      · rw [if_pos h, if_pos (by omega)]
      · rw [if_neg h, if_neg (by omega)]
theorem pts_val {a b : List S45} (ha : SS.chk a = 0) (hb : SS.chk b = 0) : ∀ n ∈ SS.pts a b, 0 ≤ n ∧ n ≤ 73049 := by
  intro n hn
  have key : ∀ l : List S45, SS.chk l = 0 → n ∈ SS.atL l → 0 ≤ n ∧ n ≤ 73049 := by
    intro l hl h
    obtain ⟨x, hx, h3⟩ := List.mem_flatMap.1 h
    have := (chk_good hl).2 x hx
    simp only [List.mem_cons, List.not_mem_nil, or_false] at h3
    omega
  rcases (pts_mem a b n).1 hn with h | h
  · exact key a ha h
  · exact key b hb h
theorem rof_ev (a b : List S45) (o : Int) : Ev (fun k => fastiref12_of.f k a b o) (SS.comb (opF o) a b) := by
  have hff : opF o false false = false := by
    unfold opF
    by_cases h1 : o = 1
    · rw [if_pos h1]; rfl
    · rw [if_neg h1]
      by_cases h2 : o = 2
      · rw [if_pos h2]; rfl
      · rw [if_neg h2]; rfl
  rw [comb_eq _ hff]
  unfold fastiref12_of.f
  refine Ev.bind (rchk_ev a) ?_
  refine Ev.bind (rchk_ev b) ?_
  by_cases ha : SS.chk a = 0
  · simp only [if_pos ha]
    by_cases hb : SS.chk b = 0
    · simp only [if_pos hb]
      have ga := chk_good ha
      have gb := chk_good hb
      have h1 := endsS_len a []
      have h2 := endsS_len b (endsS [] a)
      simp only [List.length_nil] at h1
      refine Ev.bind (ends_ev a ga.1 ga.2 [] (by simp)) ?_
      refine Ev.bind (ends_ev b gb.1 gb.2 (endsS [] a) (by omega)) ?_
      rw [ends_pts] at h2 ⊢
      have := rof_loop a b ga.1 gb.1 o (SS.pts a b) (by omega) (pts_val ha hb) _ 0 [] rfl (Nat.zero_le _) (Nat.le_refl _) (by simp)
      rw [List.drop_zero] at this
      exact this
    · simp only [if_neg hb]
      exact Ev.now _
  · simp only [if_neg ha]
    exact Ev.now _
theorem comb_len (f : Bool → Bool → Bool) (a b : List S45) : (SS.comb f a b).1.length ≤ 256 := by
  unfold SS.comb
  split
  · split
    · split
      · simp
      · simp only; omega
    · simp
  · simp
end Go.Proofs.YtpodgkmgameocaaDoor.DQ
namespace Go.Proofs.YtpodgkmgameocaaDoor.Pure
open Go Go.RowKit Go.Proofs.YtpodgkmgameocaaDoorW.PrintWords Go.Proofs.YtpodgkmgameocaaDoorW.PrintMore Go.Proofs.YtpodgkmgameocaaDoor.X Go.Proofs.YtpodgkmgameocaaDoor.K Go.Proofs.YtpodgkmgameocaaDoor.DQ
theorem DaysSetsSpec (l0 l1 : List S45) : ∃ k, fastilaw12_DaysSetsSpec.f k l0 l1 = some true := by
  have key : Ev (fun k => fastilaw12_DaysSetsSpec.f k l0 l1) true := by
    unfold fastilaw12_DaysSetsSpec.f
    refine Ev.bind (a := true) (Ev.now _) ?_
    simp only [if_true]
    by_cases hf : (l0.length : Int) ≤ 260 ∧ (l1.length : Int) ≤ 260
    · have hF : fastiref12_Few.f l0 l1 = some true := by unfold fastiref12_Few.f; rw [if_pos hf.1, decide_eq_true hf.2]
      rw [hF]
      simp only [Option.bind_some, if_true]
      have u := rof_ev l0 l1 1
      have m := rof_ev l0 l1 2
      have w := rof_ev l0 l1 3
      have e1 : opF 1 = fun u v => u || v := rfl
      have e2 : opF 2 = fun u v => u && v := rfl
      have e3 : opF 3 = fun u v => u && !v := rfl
      rw [e1] at u
      rw [e2] at m
      rw [e3] at w
      have lu := comb_len (fun u v => u || v) l0 l1
      have lm := comb_len (fun u v => u && v) l0 l1
      have lw := comb_len (fun u v => u && !v) l0 l1
      refine Ev.bind (Ev.now (SS.comb (fun u v => u || v) l0 l1)) ?_
      refine Ev.bind (a := SS.comb (fun u v => u || v) l0 l1) (Ev.bind u (Ev.now _)) ?_
      refine Ev.bind (Ev.now (SS.comb (fun u v => u && v) l0 l1)) ?_
      refine Ev.bind (a := SS.comb (fun u v => u && v) l0 l1) (Ev.bind m (Ev.now _)) ?_
      refine Ev.bind (Ev.now (SS.comb (fun u v => u && !v) l0 l1)) ?_
      refine Ev.bind (a := SS.comb (fun u v => u && !v) l0 l1) (Ev.bind w (Ev.now _)) ?_
      refine Ev.bind (a := true) ?_ ?_
      · have := same_ev (SS.comb (fun u v => u || v) l0 l1).1 (SS.comb (fun u v => u || v) l0 l1).1 (by omega)
        rwa [decide_eq_true rfl] at this
      simp only [if_true]
      refine Ev.bind (a := true) ?_ ?_
      · have := same_ev (SS.comb (fun u v => u && v) l0 l1).1 (SS.comb (fun u v => u && v) l0 l1).1 (by omega)
        rwa [decide_eq_true rfl] at this
      simp only [if_true]
      refine Ev.bind (a := true) ?_ ?_
      · have := same_ev (SS.comb (fun u v => u && !v) l0 l1).1 (SS.comb (fun u v => u && !v) l0 l1).1 (by omega)
        rwa [decide_eq_true rfl] at this
      simp only [if_true, beq_self_eq_true]
      exact Ev.now _
    · have hF : fastiref12_Few.f l0 l1 = some false := by
        unfold fastiref12_Few.f
        by_cases h1 : (l0.length : Int) ≤ 260
        · rw [if_pos h1, decide_eq_false (fun h2 => hf ⟨h1, h2⟩)]
        · rw [if_neg h1]
      rw [hF]
      simp only [Option.bind_some, Bool.false_eq_true, if_false]
      exact Ev.now _
  obtain ⟨k, hk⟩ := key
  exact ⟨k, hk k (Nat.le_refl _)⟩
end Go.Proofs.YtpodgkmgameocaaDoor.Pure
