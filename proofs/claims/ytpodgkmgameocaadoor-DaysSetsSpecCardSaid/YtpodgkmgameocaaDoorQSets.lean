/- Proved here: days.combine's answer in terms of the points and of which days are in the lists (comb_eq), and the reference's operations in closed form (rof_ev, comb_ref). -/
import Derived.Test.YtpodgkmgameocaaDoorQBase
import Derived.Test.YtpodgkmgameocaaDoorX15
import Derived.Test.YtpodgkmgameocaaDoorXIter
import Derived.Test.YtpodgkmgameocaaDoorXCombp
namespace Go.Proofs.YtpodgkmgameocaaDoor.DQ
open Go.RowKit Go.Proofs.YtpodgkmgameocaaDoorW.PrintWords Go.Proofs.YtpodgkmgameocaaDoorW.PrintMore Go.Proofs.YtpodgkmgameocaaDoor.X Go.Proofs.YtpodgkmgameocaaDoor.K
set_option linter.unusedVariables false
set_option linter.unusedSimpArgs false
/-! the reference's put and ends -/
def putS (n : Int) : List Int → List Int
  | [] => [n]
  | x :: l => if x < n then x :: putS n l else if x = n then n :: l else n :: x :: l
theorem putS_mem (n y : Int) : ∀ l, y ∈ putS n l ↔ y = n ∨ y ∈ l
  | [] => by simp [putS]
  | x :: l => by
    unfold putS
    have ih := putS_mem n y l
    split
    · simp only [List.mem_cons, ih]
      constructor
      · rintro (h | h | h)
        · exact .inr (.inl h)
        · exact .inl h
        · exact .inr (.inr h)
      · rintro (h | h | h)
        · exact .inr (.inl h)
        · exact .inl h
        · exact .inr (.inr h)
    · split
      · rename_i h1 h2
        subst h2
        simp only [List.mem_cons]
        constructor
        · rintro (h | h)
          · exact .inl h
          · exact .inr (.inr h)
        · rintro (h | h | h)
          · exact .inl h
          · exact .inl h
          · exact .inr h
      · simp only [List.mem_cons]
theorem putS_asc (n : Int) : ∀ l : List Int, l.Pairwise (· < ·) → (putS n l).Pairwise (· < ·)
  | [], _ => by simp [putS]
  | x :: l, h => by
    have h1 := List.pairwise_cons.1 h
    unfold putS
    split
    · rename_i hxn
      refine List.pairwise_cons.2 ⟨fun y hy => ?_, putS_asc n l h1.2⟩
      rcases (putS_mem n y l).1 hy with rfl | hy
      · exact hxn
      · exact h1.1 y hy
    · split
      · rename_i h2 h3
        subst h3
        exact h
      · refine List.pairwise_cons.2 ⟨fun y hy => ?_, h⟩
        rcases List.mem_cons.1 hy with rfl | hy
        · omega
        · have := h1.1 y hy; omega
theorem putS_len (n : Int) : ∀ l : List Int, (putS n l).length ≤ l.length + 1
  | [] => by simp [putS]
  | x :: l => by
    have ih := putS_len n l
    unfold putS
    split
    · simp only [List.length_cons]; omega
    · split <;> simp only [List.length_cons] <;> omega
theorem put_loop (l : List Int) (n : Int) (hl : l.length < 1000000) (d : Nat) : ∀ (i : Nat) (out : List Int), l.length - i = d → i ≤ l.length → out.length ≤ i → Ev (fun k => fastiref12_put.l0 k l n out (i : Int)) (out ++ putS n (l.drop i)) := by
  induction d with
  | zero =>
    intro i out hd hi ho
    refine Ev.eq fun k => ?_
    rw [fastiref12_put.l0, if_neg (by omega), if_pos (by omega)]
    simp only [Option.bind_some]
    rw [if_pos (by omega), if_pos (by omega), if_pos (by simp; omega), Int.toNat_natCast, List.drop_of_length_le (by omega)]
    simp [putS]
  | succ d ih =>
    intro i out hd hi ho
    have hlt : i < l.length := by omega
    rw [drop_rd hlt]
    unfold putS
    by_cases h1 : rd l (i : Int) < n
    · rw [if_pos h1]
      have h := ih (i + 1) (out ++ [rd l (i : Int)]) (by omega) (by omega) (by simp; omega)
      rw [List.append_assoc] at h
      refine Ev.step (fun k => ?_) h
      rw [fastiref12_put.l0, if_pos (by omega), if_pos (by omega), if_pos h1, if_pos (by omega), w64s i (by omega)]
    · rw [if_neg h1]
      by_cases h2 : rd l (i : Int) = n
      · rw [if_pos h2]
        refine Ev.eq fun k => ?_
        rw [fastiref12_put.l0, if_pos (by omega), if_pos (by omega), if_neg h1, if_pos (by omega)]
        simp only [Option.bind_some]
        rw [if_pos h2, w64s i (by omega), if_pos (by omega), if_pos (by omega), if_pos (by simp; omega), Int.toNat_natCast]
        simp
      · rw [if_neg h2]
        refine Ev.eq fun k => ?_
        rw [fastiref12_put.l0, if_pos (by omega), if_pos (by omega), if_neg h1, if_pos (by omega)]
        simp only [Option.bind_some]
        rw [if_neg h2, if_pos (by omega), if_pos (by simp; omega), Int.toNat_natCast, drop_rd hlt]
        simp
theorem put_ev (l : List Int) (n : Int) (hl : l.length < 1000000) : Ev (fun k => fastiref12_put.f k l n) (putS n l) := by
  have := put_loop l n hl _ 0 [] rfl (Nat.zero_le _) (Nat.le_refl _)
  rwa [List.drop_zero, List.nil_append] at this
def endsS (at_ : List Int) : List S45 → List Int
  | [] => at_
  | x :: l => endsS (putS (x.f1 + 1) (putS x.f0 at_)) l
theorem endsS_mem (y : Int) : ∀ (l : List S45) (at_ : List Int), y ∈ endsS at_ l ↔ y ∈ at_ ∨ y ∈ SS.atL l
  | [], at_ => by simp [endsS, SS.atL]
  | x :: l, at_ => by
    have e : SS.atL (x :: l) = x.f0 :: (x.f1 + 1) :: SS.atL l := rfl
    rw [endsS, endsS_mem y l, putS_mem, putS_mem, e]
    simp only [List.mem_cons]
    constructor
    · rintro ((h | h | h) | h)
      · exact .inr (.inr (.inl h))
      · exact .inr (.inl h)
      · exact .inl h
      · exact .inr (.inr (.inr h))
    · rintro (h | h | h | h)
      · exact .inl (.inr (.inr h))
      · exact .inl (.inr (.inl h))
      · exact .inl (.inl h)
      · exact .inr h
theorem endsS_asc : ∀ (l : List S45) (at_ : List Int), at_.Pairwise (· < ·) → (endsS at_ l).Pairwise (· < ·)
  | [], at_, h => h
  | x :: l, at_, h => endsS_asc l _ (putS_asc _ _ (putS_asc _ _ h))
theorem endsS_len : ∀ (l : List S45) (at_ : List Int), (endsS at_ l).length ≤ at_.length + 2 * l.length
  | [], at_ => by simp [endsS]
  | x :: l, at_ => by
    have h := endsS_len l (putS (x.f1 + 1) (putS x.f0 at_))
    have h1 := putS_len (x.f1 + 1) (putS x.f0 at_)
    have h2 := putS_len x.f0 at_
    rw [endsS]
    simp only [List.length_cons]
    omega
theorem ends_loop (l : List S45) (hl : l.length ≤ 256) (hg : good45 l) (d : Nat) : ∀ (i : Nat) (at_ : List Int), l.length - i = d → i ≤ l.length → at_.length ≤ 1024 + 2 * i → Ev (fun k => fastiref12_ends.l0 k at_ l (i : Int)) (endsS at_ (l.drop i)) := by
  induction d with
  | zero =>
    intro i at_ hd hi ha
    refine Ev.eq fun k => ?_
    rw [fastiref12_ends.l0, if_neg (by omega), List.drop_of_length_le (by omega)]
    rfl
  | succ d ih =>
    intro i at_ hd hi ha
    have hlt : i < l.length := by omega
    have hx := hg l[i] (List.getElem_mem hlt)
    have h1 := putS_len l[i].f0 at_
    have h2 := putS_len (l[i].f1 + 1) (putS l[i].f0 at_)
    rw [drop_get hlt, endsS]
    have h := ih (i + 1) (putS (l[i].f1 + 1) (putS l[i].f0 at_)) (by omega) (by omega) (by omega)
    have hp1 := put_ev at_ l[i].f0 (by omega)
    have hp2 := put_ev (putS l[i].f0 at_) (l[i].f1 + 1) (by omega)
    refine Ev.step (f := fun k => (fastiref12_put.f k at_ l[i].f0).bind fun t => (fastiref12_put.f k t (l[i].f1 + 1)).bind fun t' => fastiref12_ends.l0 k t' l ((i + 1 : Nat) : Int)) (fun k => ?_) (Ev.bind hp1 (Ev.bind hp2 h))
    rw [fastiref12_ends.l0, if_pos (by omega), if_pos (by omega), SS.rd45_lt hlt, w64 (x := l[i].f1 + 1) (by omega) (by omega), w64s i (by omega)]
theorem ends_ev (l : List S45) (hl : l.length ≤ 256) (hg : good45 l) (at_ : List Int) (ha : at_.length ≤ 1024) : Ev (fun k => fastiref12_ends.f k at_ l) (endsS at_ l) := by
  have := ends_loop l hl hg _ 0 at_ rfl (Nat.zero_le _) (by omega)
  rwa [List.drop_zero] at this
/-! the points -/
theorem uniq_mem : ∀ (l : List Int) (x : Int), x ∈ SS.uniq l ↔ x ∈ l
  | [], x => by simp [SS.uniq]
  | [y], x => by simp [SS.uniq]
  | y :: z :: l, x => by
    have ih := uniq_mem (z :: l) x
    unfold SS.uniq
    split
    · rename_i h
      subst h
      rw [ih]
      simp only [List.mem_cons]
      constructor
      · intro h; exact .inr h
      · rintro (h | h)
        · exact .inl h
        · exact h
    · rw [List.mem_cons, ih, List.mem_cons (a := x) (b := y)]
theorem uniq_asc : ∀ (l : List Int), l.Pairwise (· ≤ ·) → (SS.uniq l).Pairwise (· < ·)
  | [], _ => by simp [SS.uniq]
  | [y], _ => by simp [SS.uniq]
  | y :: z :: l, h => by
    have h1 := List.pairwise_cons.1 h
    have ih := uniq_asc (z :: l) h1.2
    unfold SS.uniq
    split
    · exact ih
    · rename_i hne
      refine List.pairwise_cons.2 ⟨fun x hx => ?_, ih⟩
      have hx2 := (uniq_mem (z :: l) x).1 hx
      have h3 := h1.1 z List.mem_cons_self
      rcases List.mem_cons.1 hx2 with rfl | hx3
      · omega
      · have h4 := (List.pairwise_cons.1 h1.2).1 x hx3
        omega
theorem pts_asc (a b : List S45) : (SS.pts a b).Pairwise (· < ·) := uniq_asc _ (SS.isort_asc _)
theorem pts_mem (a b : List S45) (x : Int) : x ∈ SS.pts a b ↔ x ∈ SS.atL a ∨ x ∈ SS.atL b := by
  unfold SS.pts
  rw [uniq_mem, (SS.isort_perm _).mem_iff]
  simp [SS.atL]
theorem asc_ext {l m : List Int} (hl : l.Pairwise (· < ·)) (hm : m.Pairwise (· < ·)) (h : ∀ x, x ∈ l ↔ x ∈ m) : l = m := by
  have nd : ∀ {q : List Int}, q.Pairwise (· < ·) → q.Nodup := fun hq => hq.imp (fun h e => by omega)
  exact List.Perm.eq_of_pairwise (le := (· < ·)) (fun a b _ _ h1 h2 => by omega) hl hm ((List.perm_ext_iff_of_nodup (nd hl) (nd hm)).2 h)
theorem ends_pts (a b : List S45) : endsS (endsS [] a) b = SS.pts a b := by
  refine asc_ext (endsS_asc _ _ (endsS_asc _ _ List.Pairwise.nil)) (pts_asc a b) fun x => ?_
  rw [endsS_mem, endsS_mem, pts_mem]
  simp
/-! which days are in a list -/
def Canon : Int → List S45 → Prop
  | _, [] => True
  | last, x :: l => last + 2 ≤ x.f0 ∧ 0 ≤ x.f0 ∧ x.f0 ≤ x.f1 ∧ x.f1 ≤ 73048 ∧ Canon x.f1 l
theorem canon_of : ∀ (l : List S45) (last : Int), SS.chkGo last l = 0 → Canon last l
  | [], _, _ => trivial
  | y :: l, last, h => by
    unfold SS.chkGo at h
    by_cases hk : SS.okS last y = true
    · rw [if_pos hk] at h
      unfold SS.okS at hk
      simp only [Bool.and_eq_true, decide_eq_true_eq] at hk
      exact ⟨by omega, by omega, by omega, by omega, canon_of l _ h⟩
    · rw [if_neg hk] at h
      cases h
theorem chk_canon {l : List S45} (h : SS.chk l = 0) : Canon (-2) l := by
  unfold SS.chk at h
  by_cases hl : 256 < l.length
  · rw [if_pos hl] at h; cases h
  · rw [if_neg hl] at h
    exact canon_of l _ h
theorem canon_low : ∀ {l : List S45} {last n : Int}, Canon last l → n < last + 2 → has l n = false
  | [], _, _, _, _ => rfl
  | x :: l, last, n, h, hn => by
    obtain ⟨h1, h2, h3, h4, h5⟩ := h
    rw [has_cons, decide_eq_false (by omega), canon_low (l := l) h5 (by omega)]
    rfl
theorem adv_in (n : Int) : ∀ {l : List S45} {last : Int}, Canon last l → SS.isIn n (SS.adv n l) = has l n
  | [], _, _ => rfl
  | x :: l, last, h => by
    obtain ⟨h1, h2, h3, h4, h5⟩ := h
    by_cases hx : x.f1 < n
    · rw [CI.adv_cons_lt hx, has_cons, decide_eq_false (p := n ≤ x.f1) (by omega), Bool.and_false, Bool.false_or]
      exact adv_in n h5
    · rw [CI.adv_cons_ge hx, has_cons, decide_eq_true (p := n ≤ x.f1) (by omega), Bool.and_true]
      by_cases hf : x.f0 ≤ n
      · rw [decide_eq_true hf, Bool.true_or]
        exact decide_eq_true hf
      · rw [decide_eq_false hf, Bool.false_or, canon_low h5 (by omega)]
        exact decide_eq_false hf
theorem adv_has {n m : Int} (hnm : n ≤ m) : ∀ (l : List S45), has (SS.adv n l) m = has l m
  | [] => rfl
  | x :: l => by
    by_cases hx : x.f1 < n
    · rw [CI.adv_cons_lt hx, has_cons, decide_eq_false (p := m ≤ x.f1) (by omega), Bool.and_false, Bool.false_or]
      exact adv_has hnm l
    · rw [CI.adv_cons_ge hx]
theorem adv_canon (n : Int) : ∀ {l : List S45} {last : Int}, Canon last l → ∃ last', Canon last' (SS.adv n l)
  | [], last, h => ⟨last, h⟩
  | x :: l, last, h => by
    by_cases hx : x.f1 < n
    · rw [CI.adv_cons_lt hx]
      exact adv_canon n h.2.2.2.2
    · rw [CI.adv_cons_ge hx]
      exact ⟨last, h⟩
theorem walkEv_eq : ∀ (ns : List Int) {la lb : List S45} {pa pb : Int}, ns.Pairwise (· < ·) → Canon pa la → Canon pb lb → SS.walkEv ns la lb = ns.map fun n => (n, has la n, has lb n)
  | [], _, _, _, _, _, _, _ => rfl
  | n :: ns, la, lb, pa, pb, hs, ha, hb => by
    have h1 := List.pairwise_cons.1 hs
    obtain ⟨pa', ha'⟩ := adv_canon n ha
    obtain ⟨pb', hb'⟩ := adv_canon n hb
    rw [SS.walkEv, List.map_cons, adv_in n ha, adv_in n hb, walkEv_eq ns h1.2 ha' hb']
    congr 1
    refine List.map_congr_left fun m hm => ?_
    have := h1.1 m hm
    rw [adv_has (by omega), adv_has (by omega)]
theorem evs_eq {a b : List S45} (ha : SS.chk a = 0) (hb : SS.chk b = 0) : SS.evs a b = (SS.pts a b).map fun n => (n, has a n, has b n) := walkEv_eq _ (pts_asc a b) (chk_canon ha) (chk_canon hb)
/-! the round of combine, and the reference's loop -/
def refGo (p : Int → Bool) : List Int → List S45 → List S45
  | n :: m :: l, r => refGo p (m :: l) (if p n = true then (if (∃ y, r.getLast? = some y ∧ y.f1 + 1 = n) then SS.shut (m - 1) r else r ++ [⟨n, m - 1⟩]) else r)
  | [_], r => r
  | [], r => r
def Rel (n : Int) (s : SS.CSt) (r : List S45) : Prop :=
  (s.op = false ∧ s.out = r ∧ ∀ y, r.getLast? = some y → y.f1 + 1 < n) ∨ (s.op = true ∧ ∃ q st, s.out = q ++ [⟨st, st⟩] ∧ r = q ++ [⟨st, n - 1⟩])
theorem step_rel (f : Bool → Bool → Bool) (n m : Int) (u v : Bool) (hnm : n < m) (s : SS.CSt) (r : List S45) (h : Rel n s r) :
    Rel m (SS.step f s (n, u, v)) (if f u v = true then (if (∃ y, r.getLast? = some y ∧ y.f1 + 1 = n) then SS.shut (m - 1) r else r ++ [⟨n, m - 1⟩]) else r) := by
  obtain ⟨o, out⟩ := s
  rw [CB.step_O]
  rcases h with ⟨h1, h2, h3⟩ | ⟨h1, q, st, h2, h3⟩
  · simp only at h1 h2
    subst h1 h2
    cases hf : f u v
    · simp only [CB.stepO, Bool.false_eq_true, if_false]
      exact .inl ⟨rfl, rfl, fun y hy => by have := h3 y hy; omega⟩
    · simp only [CB.stepO, if_true]
      rw [if_neg (by rintro ⟨y, hy, he⟩; have := h3 y hy; omega)]
      exact .inr ⟨rfl, out, n, rfl, rfl⟩
  · simp only at h1 h2
    subst h1 h2 h3
    cases hf : f u v
    · simp only [CB.stepO, Bool.false_eq_true, if_false]
      refine .inl ⟨rfl, by rw [CB.shut_snoc], fun y hy => ?_⟩
      rw [List.getLast?_append] at hy
      simp at hy
      subst hy
      simp only
      omega
    · simp only [CB.stepO, if_true]
      rw [if_pos ⟨⟨st, n - 1⟩, by rw [List.getLast?_append]; rfl, by simp only; omega⟩, CB.shut_snoc]
      exact .inr ⟨rfl, q, st, rfl, rfl⟩
theorem fold_ref (f : Bool → Bool → Bool) (ga gb : Int → Bool) : ∀ (l : List Int) (n : Int) (s : SS.CSt) (r : List S45), (n :: l).Pairwise (· < ·) → Rel n s r → f (ga ((n :: l).getLast (by simp))) (gb ((n :: l).getLast (by simp))) = false →
    (((n :: l).map fun n => (n, ga n, gb n)).foldl (SS.step f) s).out = refGo (fun n => f (ga n) (gb n)) (n :: l) r
  | [], n, s, r, _, h, hp => by
    obtain ⟨o, out⟩ := s
    simp only [List.getLast_singleton] at hp
    rw [List.map_cons, List.map_nil, List.foldl_cons, List.foldl_nil, CB.step_O, refGo, hp]
    rcases h with ⟨h1, h2, h3⟩ | ⟨h1, q, st, h2, h3⟩
    · simp only at h1 h2
      subst h1 h2
      rfl
    · simp only at h1 h2
      subst h1 h2 h3
      show SS.shut (n - 1) _ = _
      rw [CB.shut_snoc]
  | m :: l, n, s, r, hs, h, hp => by
    have h1 := List.pairwise_cons.1 hs
    have hnm := h1.1 m List.mem_cons_self
    rw [List.map_cons, List.foldl_cons, refGo]
    refine fold_ref f ga gb l m _ _ h1.2 (step_rel f n m (ga n) (gb n) hnm s r h) ?_
    rwa [List.getLast_cons (by simp)] at hp
/-- The result of an operation, out of the points. -/
def setS (f : Bool → Bool → Bool) (a b : List S45) : List S45 := refGo (fun n => f (has a n) (has b n)) (SS.pts a b) []
theorem has_above {l : List S45} {n : Int} (h : ∀ x ∈ l, x.f1 < n) : has l n = false := by
  unfold has
  rw [List.any_eq_false]
  intro x hx
  have := h x hx
  simp only [Bool.and_eq_true, decide_eq_true_eq]
  omega
theorem atL_mem {l : List S45} {x : S45} (h : x ∈ l) : x.f0 ∈ SS.atL l ∧ x.f1 + 1 ∈ SS.atL l :=
  ⟨List.mem_flatMap.2 ⟨x, h, by simp⟩, List.mem_flatMap.2 ⟨x, h, by simp⟩⟩
theorem last_ge {l : List Int} (hs : l.Pairwise (· < ·)) (hne : l ≠ []) {x : Int} (hx : x ∈ l) : x ≤ l.getLast hne := by
  have he : l = l.dropLast ++ [l.getLast hne] := (List.dropLast_concat_getLast hne).symm
  rw [he] at hx
  rcases List.mem_append.1 hx with h | h
  · rw [he] at hs
    have := (List.pairwise_append.1 hs).2.2 x h _ List.mem_cons_self
    omega
  · rw [List.mem_singleton.1 h]
    exact Int.le_refl _
theorem fold_set (f : Bool → Bool → Bool) (hff : f false false = false) {a b : List S45} (ha : SS.chk a = 0) (hb : SS.chk b = 0) : ((SS.evs a b).foldl (SS.step f) ⟨false, []⟩).out = setS f a b := by
  rw [evs_eq ha hb]
  unfold setS
  have hs := pts_asc a b
  have hm := pts_mem a b
  cases hP : SS.pts a b with
  | nil => rfl
  | cons n l =>
    rw [hP] at hs hm
    refine fold_ref f (has a) (has b) l n _ [] hs (.inl ⟨rfl, rfl, fun y hy => by simp at hy⟩) ?_
    have hA : has a ((n :: l).getLast (by simp)) = false := has_above fun x hx => by
      have := last_ge hs (by simp) ((hm _).2 (.inl (atL_mem hx).2))
      omega
    have hB : has b ((n :: l).getLast (by simp)) = false := has_above fun x hx => by
      have := last_ge hs (by simp) ((hm _).2 (.inr (atL_mem hx).2))
      omega
    rw [hA, hB, hff]
theorem comb_eq (f : Bool → Bool → Bool) (hff : f false false = false) (a b : List S45) :
    SS.comb f a b = if SS.chk a = 0 then (if SS.chk b = 0 then (if 256 < (setS f a b).length then ([], 2) else (setS f a b, 0)) else ([], SS.chk b)) else ([], SS.chk a) := by
  unfold SS.comb
  by_cases ha : SS.chk a = 0
  · by_cases hb : SS.chk b = 0
    · rw [if_pos ha, if_pos hb, if_pos ha, if_pos hb, fold_set f hff ha hb]
    · rw [if_pos ha, if_neg hb, if_pos ha, if_neg hb]
  · rw [if_neg ha, if_neg ha]
/-! the reference's operations -/
def opF (o : Int) : Bool → Bool → Bool := if o = 1 then (fun u v => u || v) else if o = 2 then (fun u v => u && v) else (fun u v => u && !v)
theorem in_ev (a b : List S45) (ha : a.length < 1000000) (hb : b.length < 1000000) (o n : Int) : Ev (fun k => fastiref12_in.f k a b o n) (opF o (has a n) (has b n)) := by
  unfold fastiref12_in.f opF
  by_cases h1 : o = 1
  · simp only [if_pos h1]
    refine Ev.bind (has_ev a n ha) ?_
    cases hA : has a n
    · simp only [Bool.false_eq_true, if_false, Bool.false_or]
      exact Ev.bind (has_ev b n hb) (Ev.now _)
    · simp only [if_true, Bool.true_or]
      exact Ev.now _
  · simp only [if_neg h1]
    by_cases h2 : o = 2
    · simp only [if_pos h2]
      refine Ev.bind (has_ev a n ha) ?_
      cases hA : has a n
      · simp only [Bool.false_eq_true, if_false, Bool.false_and]
        exact Ev.now _
      · simp only [if_true, Bool.true_and]
        exact Ev.bind (has_ev b n hb) (Ev.now _)
    · simp only [if_neg h2]
      refine Ev.bind (has_ev a n ha) ?_
      cases hA : has a n
      · simp only [Bool.false_eq_true, if_false, Bool.false_and]
        exact Ev.now _
      · simp only [if_true, Bool.true_and]
        exact Ev.bind (has_ev b n hb) (Ev.now _)
end Go.Proofs.YtpodgkmgameocaaDoor.DQ
