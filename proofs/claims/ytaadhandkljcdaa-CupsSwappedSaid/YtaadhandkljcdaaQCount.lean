/- Plain laws of this project about tournaments (layer 23): how many are eliminated, how many ties can be played. No program in sight. -/
import Derived.Test.YtaadhandkljcdaaQState
import Derived.Test.YtaadhandkljcdaaK
import Derived.Test.YtaadhandkljcdaaX6
import Derived.Test.YtaadhandkljcdaaX7
/- Plain laws of this project about tournaments (layer 23): how many are eliminated, how many ties can be played. No program in sight. -/
namespace Go.Proofs.Ytaadhandkljcdaa.Q
open Go.RowKit Go.Proofs.Ytaadhandkljcdaa.X Go.Proofs.YtaadhandkljcdaaW.PrintWords Go.Proofs.YtaadhandkljcdaaW.PrintLast Go.Proofs.Ytaadhandkljcdaa.K Go.Proofs.Ytaadhandkljcdaa.X.CQ
set_option linter.unusedVariables false
set_option linter.unusedSimpArgs false
def cnt (P : Nat → Bool) (m : Nat) : Nat := ((List.range m).filter P).length
theorem cnt_succ (P : Nat → Bool) (m : Nat) : cnt P (m + 1) = cnt P m + (if P m = true then 1 else 0) := by
  unfold cnt
  rw [List.range_succ, List.filter_append, List.length_append, List.filter_cons]
  by_cases h : P m = true <;> simp [h]
theorem cnt_congr {P Q : Nat → Bool} {m : Nat} (h : ∀ x, x < m → P x = Q x) : cnt P m = cnt Q m := by
  induction m with
  | zero => rfl
  | succ m ih => rw [cnt_succ, cnt_succ, ih (fun x hx => h x (by omega)), h m (by omega)]
theorem cnt_flip {P Q : Nat → Bool} {y : Nat} (hP : P y = true) (hQ : Q y = false) (h : ∀ x, x ≠ y → P x = Q x) : ∀ m, y < m → cnt Q m + 1 = cnt P m := by
  intro m
  induction m with
  | zero => intro hy; omega
  | succ m ih =>
    intro hy
    rw [cnt_succ, cnt_succ]
    by_cases e : y = m
    · subst e
      rw [hP, hQ, cnt_congr (P := P) (Q := Q) (fun x hx => h x (by omega))]
      simp
    · rw [h m (fun q => e q.symm)]
      have := ih (by omega)
      omega
theorem cnt_pos {P : Nat → Bool} {m y : Nat} (hy : y < m) (h : P y = true) : 0 < cnt P m := by
  unfold cnt
  exact List.length_pos_of_mem (List.mem_filter.2 ⟨List.mem_range.2 hy, h⟩)
theorem cnt_ex {P : Nat → Bool} {m : Nat} (h : 0 < cnt P m) : ∃ y, y < m ∧ P y = true := by
  unfold cnt at h
  obtain ⟨y, hy⟩ := List.exists_mem_of_length_pos h
  exact ⟨y, List.mem_range.1 (List.mem_filter.1 hy).1, (List.mem_filter.1 hy).2⟩
theorem cnt_all {P : Nat → Bool} {m : Nat} (h : ∀ x, x < m → P x = true) : cnt P m = m := by
  induction m with
  | zero => rfl
  | succ m ih => rw [cnt_succ, ih (fun x hx => h x (by omega)), h m (by omega)]; simp
def aliveB (p : PS) (x : Nat) : Bool := !((CQ.look p.out (x : Int)).getD false)
def undecB (p : PS) (i : Nat) : Bool := (CQ.look p.win (i : Int)).isNone
def dec (xs : List S45) : Nat := (xs.filter fun x => x.f1 != x.f2).length
theorem count_step {n : Nat} {ts : List S42} {x : S45} {p q : PS} (hw : Wf n ts) (hp : Inv n ts p) (h : stepP ts x p = some q) :
    cnt (aliveB q) n + (if (x.f1 != x.f2) = true then 1 else 0) = cnt (aliveB p) n ∧ cnt (undecB q) (n - 1) + (if (x.f1 != x.f2) = true then 1 else 0) = cnt (undecB p) (n - 1) := by
  obtain ⟨hm, aw, h0, hlt, hn, h1, h2, hg, hcase⟩ := step_inv h
  obtain ⟨qw, qg, qo⟩ := q
  simp only at hg hcase
  rw [hw.len] at hlt
  obtain ⟨i, hi⟩ : ∃ i : Nat, x.f0 = (i : Int) := ⟨x.f0.toNat, (Int.toNat_of_nonneg h0).symm⟩
  rw [hi] at hn h1 h2 hlt hcase
  rw [Int.toNat_natCast] at h1 h2
  rcases hcase with ⟨he, rfl, rfl⟩ | ⟨he, w, l, hwl, rfl, rfl⟩
  · rw [if_neg (by simp [he])]
    exact ⟨rfl, rfl⟩
  · rw [if_pos (by simp [he])]
    obtain ⟨b, hb⟩ : ∃ b, whoO (CQ.look p.win) (sd ts i b) = some l := by
      rcases hwl with ⟨_, rfl⟩ | ⟨_, rfl⟩
      · exact ⟨true, h2⟩
      · exact ⟨false, h1⟩
    have hr := who_range hw hp (by omega) hb
    have hal := hp.alive i b l (by omega) hn hb
    obtain ⟨y, rfl⟩ : ∃ y : Nat, l = (y : Int) := ⟨_, (Int.toNat_of_nonneg hr.1).symm⟩
    constructor
    · refine cnt_flip (y := y) ?_ ?_ (fun z hz => ?_) n (by omega)
      · show (!((CQ.look p.out (y : Int)).getD false)) = true
        rw [hal]; rfl
      · show (!((CQ.look (((y : Int), true) :: p.out) (y : Int)).getD false)) = false
        rw [look_cons, if_pos rfl]; rfl
      · show (!((CQ.look p.out (z : Int)).getD false)) = (!((CQ.look (((y : Int), true) :: p.out) (z : Int)).getD false))
        rw [look_cons, if_neg (by omega)]
    · refine cnt_flip (y := i) ?_ ?_ (fun z hz => ?_) (n - 1) (by omega)
      · show (CQ.look p.win (i : Int)).isNone = true
        rw [hn]; rfl
      · show (CQ.look (((i : Int), w) :: p.win) (i : Int)).isNone = false
        rw [look_cons, if_pos rfl]; rfl
      · show (CQ.look p.win (z : Int)).isNone = (CQ.look (((i : Int), w) :: p.win) (z : Int)).isNone
        rw [look_cons, if_neg (by omega)]
theorem count_play {n : Nat} {ts : List S42} (hw : Wf n ts) : ∀ {xs : List S45} {p q : PS}, Inv n ts p → playS ts xs p = some q → cnt (aliveB q) n + dec xs = cnt (aliveB p) n ∧ cnt (undecB q) (n - 1) + dec xs = cnt (undecB p) (n - 1)
  | [], p, q, hp, h => by cases h; exact ⟨rfl, rfl⟩
  | x :: xs, p, q, hp, h => by
    unfold playS at h
    obtain ⟨r, hr, h⟩ := Option.bind_eq_some_iff.1 h
    have h1 := count_step hw hp hr
    have h2 := count_play hw (inv_step hw hp hr) h
    have hd : dec (x :: xs) = (if (x.f1 != x.f2) = true then 1 else 0) + dec xs := by
      unfold dec
      rw [List.filter_cons]
      by_cases e : (x.f1 != x.f2) = true
      · rw [if_pos e, if_pos e, List.length_cons]; omega
      · rw [if_neg e, if_neg e]; omega
    omega
theorem count_end {n : Nat} (h2 : 2 ≤ n) (h64 : n ≤ 64) {xs : List S45} {q : PS} (h : playS (CK.ties n) xs ⟨[], [], []⟩ = some q) : cnt (aliveB q) n + dec xs = n ∧ cnt (undecB q) (n - 1) + dec xs = n - 1 := by
  have hw := wf h2 h64
  have := count_play hw (inv_start hw) h
  rw [cnt_all (P := aliveB ⟨[], [], []⟩) (fun _ _ => rfl), cnt_all (P := undecB ⟨[], [], []⟩) (fun _ _ => rfl)] at this
  exact this
theorem alive_cnt (p : PS) (n : Nat) : (CS.aliveTo p n).length = cnt (aliveB p) n := by unfold CS.aliveTo cnt; rw [List.length_map]; rfl
def openB (ts : List S42) (p : PS) (j : Nat) : Bool := (CP.openS (CQ.look p.win) (ts.getD j z42) (j : Int)).2.2
theorem next_cnt (ts : List S42) (p : PS) (m : Nat) : (CS.nextTo ts p m).length = cnt (openB ts p) m := by unfold CS.nextTo cnt; rw [List.length_map]; rfl
theorem open_ex {n : Nat} {ts : List S42} {p : PS} (hw : Wf n ts) : ∀ i : Nat, i < n - 1 → CQ.look p.win (i : Int) = none → ∃ j, j < n - 1 ∧ openB ts p j = true := by
  intro i
  induction i using Nat.strongRecOn with
  | ind i ih =>
    intro hi hn
    by_cases hb : ∃ b, whoO (CQ.look p.win) (sd ts i b) = none
    · obtain ⟨b, hb⟩ := hb
      unfold whoO at hb
      by_cases e : (sd ts i b).f0 = 1
      · rw [if_pos e] at hb; cases hb
      · rw [if_neg e] at hb
        rcases hw.ok i b hi with h | h
        · exact absurd h.1 e
        · obtain ⟨j, hj⟩ : ∃ j : Nat, (sd ts i b).f1 = (j : Int) := ⟨_, (Int.toNat_of_nonneg h.2.1).symm⟩
          rw [hj] at hb h
          exact ih j (by omega) (by omega) hb
    · refine ⟨i, hi, ?_⟩
      unfold openB
      rw [open_sd, hn]
      cases h0 : whoO (CQ.look p.win) (sd ts i false) with
      | none => exact absurd ⟨false, h0⟩ hb
      | some x =>
        cases h1 : whoO (CQ.look p.win) (sd ts i true) with
        | none => exact absurd ⟨true, h1⟩ hb
        | some y => rfl
theorem nodup_len : ∀ {l m : List Int}, l.Nodup → (∀ x ∈ l, x ∈ m) → l.length ≤ m.length
  | [], _, _, _ => Nat.zero_le _
  | a :: l, m, h, hs => by
    rw [List.nodup_cons] at h
    have ha := hs a List.mem_cons_self
    have ih := nodup_len (l := l) (m := m.erase a) h.2 (fun x hx => (List.mem_erase_of_ne (fun e : x = a => h.1 (by rw [← e]; exact hx))).2 (hs x (List.mem_cons_of_mem _ hx)))
    rw [List.length_erase_of_mem ha] at ih
    have : 0 < m.length := List.length_pos_of_mem ha
    rw [List.length_cons]
    omega
/-- Twice as many entrants as ties that can be played. -/
theorem two_open {n : Nat} {ts : List S42} {p : PS} (hw : Wf n ts) (hp : Inv n ts p) : 2 * cnt (openB ts p) (n - 1) ≤ cnt (aliveB p) n := by
  rw [← alive_cnt]
  have hlen : ∀ O : List Nat, (O.flatMap fun i => [(whoO (CQ.look p.win) (sd ts i false)).getD 0, (whoO (CQ.look p.win) (sd ts i true)).getD 0]).length = 2 * O.length := by
    intro O
    induction O with
    | nil => rfl
    | cons a O ih => rw [List.flatMap_cons, List.length_append, ih, List.length_cons]; simp; omega
  unfold cnt
  rw [← hlen]
  have hO : ∀ i ∈ (List.range (n - 1)).filter (openB ts p), i < n - 1 ∧ CQ.look p.win (i : Int) = none ∧ ∃ x y, whoO (CQ.look p.win) (sd ts i false) = some x ∧ whoO (CQ.look p.win) (sd ts i true) = some y := by
    intro i hi
    obtain ⟨h1, h2⟩ := List.mem_filter.1 hi
    have := (open_iff _ _ _).1 h2
    exact ⟨List.mem_range.1 h1, this⟩
  refine nodup_len ?_ ?_
  · unfold List.Nodup
    rw [List.pairwise_flatMap]
    constructor
    · intro i hi
      obtain ⟨h1, h2, x, y, hx, hy⟩ := hO i hi
      simp only [hx, hy, Option.getD_some, List.pairwise_cons, List.mem_singleton, forall_eq, List.not_mem_nil, false_imp_iff, implies_true, List.Pairwise.nil, and_true]
      intro e
      have := (hp.one i false i true x h1 h1 h2 h2 hx (e ▸ hy)).2
      cases this
    · have hpw : ((List.range (n - 1)).filter (openB ts p)).Pairwise (· ≠ ·) := (List.nodup_range).filter _
      refine List.Pairwise.imp_of_mem ?_ hpw
      intro i j hi hj hne
      obtain ⟨h1, h2, x, y, hx, hy⟩ := hO i hi
      obtain ⟨k1, k2, x', y', hx', hy'⟩ := hO j hj
      simp only [hx, hy, hx', hy', Option.getD_some, List.mem_cons, List.not_mem_nil, or_false]
      rintro u (rfl | rfl) v (rfl | rfl) e
      · exact hne (hp.one i false j false _ h1 k1 h2 k2 hx (e ▸ hx')).1
      · exact hne (hp.one i false j true _ h1 k1 h2 k2 hx (e ▸ hy')).1
      · exact hne (hp.one i true j false _ h1 k1 h2 k2 hy (e ▸ hx')).1
      · exact hne (hp.one i true j true _ h1 k1 h2 k2 hy (e ▸ hy')).1
  · intro z hz
    obtain ⟨i, hi, hz⟩ := List.mem_flatMap.1 hz
    obtain ⟨h1, h2, x, y, hx, hy⟩ := hO i hi
    have key : ∀ b, whoO (CQ.look p.win) (sd ts i b) = some z → z ∈ CS.aliveTo p n := by
      intro b hb
      have hr := who_range hw hp h1 hb
      have ha := hp.alive i b z h1 h2 hb
      obtain ⟨k, rfl⟩ : ∃ k : Nat, z = (k : Int) := ⟨_, (Int.toNat_of_nonneg hr.1).symm⟩
      unfold CS.aliveTo
      refine List.mem_map.2 ⟨k, List.mem_filter.2 ⟨List.mem_range.2 (by omega), ?_⟩, rfl⟩
      rw [ha]; rfl
    simp only [hx, hy, Option.getD_some, List.mem_cons, List.not_mem_nil, or_false] at hz
    rcases hz with rfl | rfl
    · exact key false hx
    · exact key true hy
theorem next_get {ts : List S42} {p : PS} {m : Nat} : ∀ {i : Nat} (hi : i < (CS.nextTo ts p m).length), 0 ≤ (CS.nextTo ts p m)[i] ∧ (CS.nextTo ts p m)[i] < (m : Int) := by
  intro i hi
  have := List.getElem_mem hi
  unfold CS.nextTo at this
  obtain ⟨k, hk, he⟩ := List.mem_map.1 this
  have := List.mem_range.1 (List.mem_filter.1 hk).1
  unfold CS.nextTo
  rw [← he]
  omega
theorem next_lt {ts : List S42} {p : PS} {m : Nat} {i j : Nat} (hi : i < (CS.nextTo ts p m).length) (hj : j < (CS.nextTo ts p m).length) (hij : i < j) : (CS.nextTo ts p m)[i] < (CS.nextTo ts p m)[j] := by
  have h : (CS.nextTo ts p m).Pairwise (· < ·) := by
    unfold CS.nextTo
    rw [List.pairwise_map]
    exact List.Pairwise.imp (fun h => by omega) (List.Pairwise.filter _ List.pairwise_lt_range)
  exact List.pairwise_iff_getElem.1 h i j hi hj hij
/-! What Play and Check answer, case by case. -/
theorem play_some {n : Nat} (h2 : 2 ≤ n) (h64 : n ≤ 64) {xs : List S45} {p : PS} (h : playS (CK.ties n) xs ⟨[], [], []⟩ = some p) : cups_Play.f (n : Int) xs = some (CS.aliveTo p n, CS.nextTo (CK.ties n) p (n - 1), 0) := by
  unfold cups_Play.f
  rw [if_pos (by omega), Int.toNat_natCast, h]
theorem play_none {n : Nat} (h2 : 2 ≤ n) (h64 : n ≤ 64) {xs : List S45} (h : playS (CK.ties n) xs ⟨[], [], []⟩ = none) : cups_Play.f (n : Int) xs = some ([], [], 230) := by
  unfold cups_Play.f
  rw [if_pos (by omega), Int.toNat_natCast, h]
theorem play_out {a0 : Int} (h : ¬ (2 ≤ a0 ∧ a0 ≤ 64)) (xs : List S45) : cups_Play.f a0 xs = some ([], [], 1) := by
  unfold cups_Play.f
  rw [if_neg h]
theorem check_some {n : Nat} (h2 : 2 ≤ n) (h64 : n ≤ 64) {xs : List S45} {p : PS} (h : playS (CK.ties n) xs ⟨[], [], []⟩ = some p) : cups_Check.f (n : Int) xs = some 0 := by
  unfold cups_Check.f
  rw [if_pos (by omega), Int.toNat_natCast, h]
  rfl
theorem check_none {n : Nat} (h2 : 2 ≤ n) (h64 : n ≤ 64) {xs : List S45} (h : playS (CK.ties n) xs ⟨[], [], []⟩ = none) : cups_Check.f (n : Int) xs = some 230 := by
  unfold cups_Check.f
  rw [if_pos (by omega), Int.toNat_natCast, h]
  rfl
theorem check_out {a0 : Int} (h : ¬ (2 ≤ a0 ∧ a0 ≤ 64)) (xs : List S45) : cups_Check.f a0 xs = some 1 := by
  unfold cups_Check.f
  rw [if_neg h]
theorem make_in {n : Nat} (h2 : 2 ≤ n) (h64 : n ≤ 64) : cups_Make.f (n : Int) = some (CK.ties n, 0) := by
  unfold cups_Make.f
  rw [if_pos (by omega), Int.toNat_natCast]
end Go.Proofs.Ytaadhandkljcdaa.Q
