/- Proved here: the pure statement of LexSpaces: tokens written with white space and comments between them are read again. No program in sight. -/
import Derived.KernelRfl
import Derived.Test.YtcckpmijdckocaaDoorQBack
import Derived.Test.YtcckpmijdckocaaDoorX15L8
namespace Go.Proofs.YtcckpmijdckocaaDoor.Pure
open Go.RowKit Go.Proofs.YtcckpmijdckocaaDoor.X Go.Proofs.YtcckpmijdckocaaDoor.X.LX Go.Proofs.YtcckpmijdckocaaDoor.K Go.Proofs.YtcckpmijdckocaaDoorW.PrintWords Go.Proofs.YtcckpmijdckocaaDoor.QT Go.Proofs.YtcckpmijdckocaaDoor.QN Go.Proofs.YtcckpmijdckocaaDoor.QR Go.Proofs.YtcckpmijdckocaaDoor.QE Go.Proofs.YtcckpmijdckocaaDoor.QX Go.Proofs.YtcckpmijdckocaaDoor.QJ Go.Proofs.YtcckpmijdckocaaDoor.QB
set_option linter.unusedVariables false
set_option linter.unusedSimpArgs false
/-- White space and comments that end in a line feed: no tokens, whatever follows. -/
def Wh (g : List UInt8) : Prop := ∀ (p : Nat) (m : List UInt8), toks p (g ++ m) = toks (p + g.length) m
theorem wh_nil : Wh [] := fun _ _ => rfl
theorem wh_sp {c : UInt8} {g : List UInt8} (hc : isSp c = true) (h : Wh g) : Wh (c :: g) := fun p m => by
  rw [List.cons_append, toks_sp hc, h, List.length_cons]
  congr 1
  omega
theorem wh_com {t g : List UInt8} (ht : ∀ c ∈ t, c ≠ 10) (h : Wh g) : Wh (47 :: 47 :: (t ++ 10 :: g)) := fun p m => by
  have e : 47 :: 47 :: (t ++ 10 :: g) ++ m = 47 :: 47 :: (t ++ 10 :: (g ++ m)) := by simp
  have htw : (47 :: 47 :: (t ++ 10 :: (g ++ m))).takeWhile (· != (10 : UInt8)) = 47 :: 47 :: t := by
    rw [List.takeWhile_cons, if_pos (by decide), List.takeWhile_cons, if_pos (by decide), tw_app (· != 10) 10 (by decide), tw_all (· != 10) t (fun c hc => bne_iff_ne.2 (ht c hc))]
  have hdr : (47 :: 47 :: (t ++ 10 :: (g ++ m))).drop (47 :: 47 :: t : List UInt8).length = 10 :: (g ++ m) := by simp
  rw [e, toks_com, htw, hdr, toks_sp (by decide), h]
  congr 1
  simp
  omega
def S9 (w : ByteArray) : List ByteArray := [(⟨#[32]⟩ : ByteArray), (⟨#[9]⟩ : ByteArray), (⟨#[10]⟩ : ByteArray), (⟨#[13, 10]⟩ : ByteArray), (⟨#[32, 32]⟩ : ByteArray), ((⟨#[47, 47]⟩ : ByteArray) ++ w) ++ (⟨#[10]⟩ : ByteArray), (⟨#[32, 47, 47, 32, 10]⟩ : ByteArray), (⟨#[10, 47, 47, 10]⟩ : ByteArray)]
theorem s9_wh {w : ByteArray} (hw : ∀ c ∈ bs w, c ≠ 10) (hl : w.size ≤ 100) : ∀ g ∈ S9 w, Wh (bs g) ∧ g.size ≤ 104 := by
  intro g hg
  simp only [S9, List.mem_cons, List.not_mem_nil, or_false] at hg
  rcases hg with rfl | rfl | rfl | rfl | rfl | rfl | rfl | rfl
  · exact ⟨wh_sp (by decide) wh_nil, by decide⟩
  · exact ⟨wh_sp (by decide) wh_nil, by decide⟩
  · exact ⟨wh_sp (by decide) wh_nil, by decide⟩
  · exact ⟨wh_sp (by decide) (wh_sp (by decide) wh_nil), by decide⟩
  · exact ⟨wh_sp (by decide) (wh_sp (by decide) wh_nil), by decide⟩
  · refine ⟨?_, ?_⟩
    · have : bs (((⟨#[47, 47]⟩ : ByteArray) ++ w) ++ (⟨#[10]⟩ : ByteArray)) = 47 :: 47 :: (bs w ++ 10 :: []) := by
        rw [bs_app, bs_app]
        rfl
      rw [this]
      exact wh_com hw wh_nil
    · rw [ByteArray.size_append, ByteArray.size_append]
      have h1 : (⟨#[47, 47]⟩ : ByteArray).size = 2 := rfl
      have h2 : (⟨#[10]⟩ : ByteArray).size = 1 := rfl
      omega
  · exact ⟨wh_sp (by decide) (wh_com (t := [32]) (by decide) wh_nil), by decide⟩
  · exact ⟨wh_sp (by decide) (wh_com (t := []) (by decide) wh_nil), by decide⟩
/-- What is written so far has the tokens so far. -/
def St (l : List S35) (i : Nat) (s : ByteArray) : Prop := ∃ us, LS.eqL (l.take i) us = true ∧ (∀ m, toks 0 (bs s ++ m) = pre us (toks s.size m)) ∧ s.size ≤ 1 + sumS (l.take i) + i * 130
theorem eqL_snoc : ∀ (a b : List S35) (x y : S35), LS.eqL a b = true → LS.tokEq x y = true → LS.eqL (a ++ [x]) (b ++ [y]) = true
  | [], [], x, y, _, h => by simp [LS.eqL, h]
  | [], _ :: _, _, _, h, _ => by simp [LS.eqL] at h
  | _ :: _, [], _, _, h, _ => by simp [LS.eqL] at h
  | u :: a, v :: b, x, y, h, h2 => by
    simp only [LS.eqL, Bool.and_eq_true] at h
    simp only [List.cons_append, LS.eqL, Bool.and_eq_true]
    exact ⟨h.1, eqL_snoc a b x y h.2 h2⟩
theorem st_step {l : List S35} {i : Nat} (hi : i < l.length) {s g : ByteArray} (h : St l i s) (hv : validB l[i] = true) (hg : Wh (bs g)) (hgl : g.size ≤ 104) : St l (i + 1) (s ++ ((mk (word l[i]) ++ (⟨#[32]⟩ : ByteArray)) ++ g)) := by
  obtain ⟨us, h1, h2, h3⟩ := h
  obtain ⟨x, hx⟩ : ∃ x, l[i] = x := ⟨_, rfl⟩
  rw [hx] at hv ⊢
  have hw := word_len hv
  have hone : (⟨#[32]⟩ : ByteArray).size = 1 := rfl
  refine ⟨us ++ [⟨x.f0, x.f1, x.f2, (s.size : Nat)⟩], ?_, fun m => ?_, ?_⟩
  · rw [take_get hi, hx]
    exact eqL_snoc _ _ _ _ h1 (tok_at x _)
  · have e : bs (s ++ ((mk (word x) ++ (⟨#[32]⟩ : ByteArray)) ++ g)) ++ m = bs s ++ (word x ++ (32 :: (bs g ++ m))) := by
      rw [bs_app, bs_app, bs_app, bs_mk]
      simp [bs]
    rw [e, h2, tok_word hv s.size (m := 32 :: (bs g ++ m)) (.inr ⟨32, _, rfl, by decide⟩), toks_sp (by decide), hg, pre_pre]
    congr 2
    simp only [ByteArray.size_append, size_mk, bs_len, hone]
    omega
  · have hs : sumS (l.take (i + 1)) = sumS (l.take i) + x.f1.size := by rw [take_get hi, hx, sumS_app]; simp [sumS]
    simp only [hs, ByteArray.size_append, size_mk, hone]
    omega
theorem u8_wf {x : Int} (h : (Lit.int .u8 x).wf = true) : 0 ≤ x ∧ x ≤ 255 := by
  have hm : IntKind.u8.min = 0 := by decide
  have hM : IntKind.u8.max = 255 := by decide
  simp [Lit.wf] at h
  rw [hm, hM] at h
  omega
theorem spaces_l1 (l : List S35) (ts : List Int) (w : ByteArray) (hl : l.length ≤ 200) (hs : sumS l ≤ 2000) (wt : ∀ x ∈ ts, (Lit.int .u8 x).wf = true) (hw : ∀ c ∈ bs w, c ≠ 10) (hwl : w.size ≤ 100) : ∀ (d i : Nat) (s : ByteArray), l.length - i = d → i ≤ l.length → St l i s → Ev (fun k => fastilaw03_LexSpaces.l1 k l ts (S9 w) s l (l.length : Int) (i : Int)) true := by
  intro d
  induction d with
  | zero =>
    intro i s hd hi hst
    obtain rfl : i = l.length := by omega
    obtain ⟨us, h1, h2, h3⟩ := hst
    rw [List.take_of_length_le (Nat.le_refl _)] at h1 h3
    have h4 := h2 []
    rw [List.append_nil, toks_nil] at h4
    have h5 : toks 0 (bs s) = .ok us := by rw [h4]; simp [pre]
    have hlx : lex_Lex.f s = some (us, 0, 0) := by
      rw [lexf _ (by omega), h5]
      rfl
    refine Ev.eq fun k => ?_
    simp only [fastilaw03_LexSpaces.l1]
    rw [if_neg (by omega), hlx]
    simp only [Option.bind_some, if_true]
    rw [same_f l us (by omega), h1]
    rfl
  | succ d ih =>
    intro i s hd hi hst
    have hlt : i < l.length := by omega
    have hw1 : wrap64 ((i : Int) + 1) = ((i + 1 : Nat) : Int) := w64s i (by omega)
    have c1 : (i : Int) < (l.length : Int) := by omega
    have c2 : 0 ≤ (i : Int) := by omega
    obtain ⟨x, hx⟩ : ∃ x, l[i] = x := ⟨_, rfl⟩
    have e1 := rd35 hlt
    rw [hx] at e1
    have hmem : x ∈ l := by rw [← hx]; exact List.getElem_mem _
    have hxs : x.f1.size ≤ sumS l := by
      have h1 := sumS_take l (i + 1)
      rw [take_get hlt, hx, sumS_app] at h1
      have h2 : sumS [x] = x.f1.size := by simp [sumS]
      omega
    have htx := text_ev [x] (by simp) (by simp [sumS]; omega)
    have hone : (⟨#[32]⟩ : ByteArray).size = 1 := rfl
    by_cases hv : validB x = true
    · have htr : textR [x] = (mk (word x), 0) := by rw [textR_ok (fun y hy => by rw [List.mem_singleton.1 hy]; exact hv), textL_one]
      rw [htr] at htx
      have hwd := word_len hv
      obtain ⟨us, h1, h2, h3⟩ := hst
      have h3' := sumS_take l i
      have hst : St l i s := ⟨us, h1, h2, h3⟩
      have hv' : validB l[i] = true := by rw [hx]; exact hv
      have b1 : (mk (word x)).size + 1 ≤ 9223372036854775807 := by rw [size_mk]; omega
      by_cases hti : (i : Int) < (ts.length : Int)
      · have hti' : i < ts.length := by omega
        have hrd : rd ts (i : Int) = ts[i] := rd_lt hti'
        have hb := u8_wf (wt ts[i] (List.getElem_mem _))
        obtain ⟨t, ht⟩ : ∃ t : Nat, ts[i] = (t : Int) := ⟨ts[i].toNat, (Int.toNat_of_nonneg hb.1).symm⟩
        have hw64 : wrap64 (rd ts (i : Int)) = (t : Int) := by rw [hrd, ht]; rw [ht] at hb; exact w64 (by omega) (by omega)
        have hl8 : ((S9 w).length : Int) = 8 := rfl
        have hmod : Int.tmod (t : Int) 8 = ((t % 8 : Nat) : Int) := rfl
        obtain ⟨j, hj⟩ : ∃ j, t % 8 = j := ⟨_, rfl⟩
        have hj8 : j < (S9 w).length := by show j < 8; omega
        have hrdo : rdOf ByteArray.empty (S9 w) (j : Int) = (S9 w)[j] := by
          unfold rdOf
          rw [Int.toNat_natCast, getD_lt hj8]
        obtain ⟨g, hg⟩ : ∃ g, (S9 w)[j] = g := ⟨_, rfl⟩
        have hgg := s9_wh hw hwl g (by rw [← hg]; exact List.getElem_mem _)
        have hnew := st_step hlt hst hv' hgg.1 hgg.2
        rw [hx] at hnew
        have hn := ih (i + 1) _ (by omega) (by omega) hnew
        have b2 : (mk (word x) ++ (⟨#[32]⟩ : ByteArray)).size + g.size ≤ 9223372036854775807 := by simp only [ByteArray.size_append, size_mk, hone]; have := hgg.2; omega
        have b3 : s.size + ((mk (word x) ++ (⟨#[32]⟩ : ByteArray)) ++ g).size ≤ 9223372036854775807 := by simp only [ByteArray.size_append, size_mk, hone]; have := hgg.2; omega
        have n8 : ¬ ((8 : Int) = 0) := by decide
        have p1 : 0 ≤ (j : Int) := by omega
        have p2 : (j : Int) < 8 := by omega
        refine Ev.step (f := fun k => (lex_Text.f k [x]).bind fun bt361 => if bt361.2 = 0 then (if bt361.1.size + 1 ≤ 9223372036854775807 then (if (bt361.1 ++ (⟨#[32]⟩ : ByteArray)).size + g.size ≤ 9223372036854775807 then (if s.size + ((bt361.1 ++ (⟨#[32]⟩ : ByteArray)) ++ g).size ≤ 9223372036854775807 then fastilaw03_LexSpaces.l1 k l ts (S9 w) (s ++ ((bt361.1 ++ (⟨#[32]⟩ : ByteArray)) ++ g)) l (l.length : Int) ((i + 1 : Nat) : Int) else none) else none) else none) else ((lex_Text.f k l).bind fun bt365 => some (bt365.2 == 30))) (fun k => ?_) ?_
        · simp only [fastilaw03_LexSpaces.l1]
          rw [if_pos c1, if_pos c2, if_pos c1, e1]
          simp only [if_pos hti, hl8, if_neg n8, hw64, hmod, hj, if_pos p1, if_pos p2, hrdo, hg, hw1]
        · refine Ev.bind htx ?_
          simp only [if_true, if_pos b1, if_pos b2, if_pos b3]
          exact hn
      · have hgg : Wh (bs (⟨#[32]⟩ : ByteArray)) := wh_sp (by decide) wh_nil
        have hnew := st_step hlt hst hv' hgg (by decide)
        rw [hx] at hnew
        have hn := ih (i + 1) _ (by omega) (by omega) hnew
        have b2 : (mk (word x) ++ (⟨#[32]⟩ : ByteArray)).size + 1 ≤ 9223372036854775807 := by simp only [ByteArray.size_append, size_mk, hone]; omega
        have b3 : s.size + ((mk (word x) ++ (⟨#[32]⟩ : ByteArray)) ++ (⟨#[32]⟩ : ByteArray)).size ≤ 9223372036854775807 := by simp only [ByteArray.size_append, size_mk, hone]; omega
        refine Ev.step (f := fun k => (lex_Text.f k [x]).bind fun bt361 => if bt361.2 = 0 then (if bt361.1.size + 1 ≤ 9223372036854775807 then (if (bt361.1 ++ (⟨#[32]⟩ : ByteArray)).size + 1 ≤ 9223372036854775807 then (if s.size + ((bt361.1 ++ (⟨#[32]⟩ : ByteArray)) ++ (⟨#[32]⟩ : ByteArray)).size ≤ 9223372036854775807 then fastilaw03_LexSpaces.l1 k l ts (S9 w) (s ++ ((bt361.1 ++ (⟨#[32]⟩ : ByteArray)) ++ (⟨#[32]⟩ : ByteArray))) l (l.length : Int) ((i + 1 : Nat) : Int) else none) else none) else none) else ((lex_Text.f k l).bind fun bt365 => some (bt365.2 == 30))) (fun k => ?_) ?_
        · simp only [fastilaw03_LexSpaces.l1]
          rw [if_pos c1, if_pos c2, if_pos c1, e1]
          simp only [if_neg hti, hw1]
        · refine Ev.bind htx ?_
          simp only [if_true, if_pos b1, if_pos b2, if_pos b3]
          exact hn
    · have htr : textR [x] = ((⟨#[]⟩ : ByteArray), 30) := textR_not (by simp [hv])
      have htl : textR l = ((⟨#[]⟩ : ByteArray), 30) := textR_not (fun e => hv (List.all_eq_true.1 e x hmem))
      have htl2 := text_ev l (by omega) (by omega)
      rw [htr] at htx
      rw [htl] at htl2
      have n30 : ¬ ((30 : Int) = 0) := by decide
      have hne : Ev (fun k => (lex_Text.f k l).bind fun bt365 => some (bt365.2 == 30)) true := Ev.bind htl2 (Ev.all fun k => rfl)
      obtain ⟨K, hK⟩ := htx
      obtain ⟨K2, hK2⟩ := hne
      refine ⟨max K K2 + 1, fun k hk => ?_⟩
      obtain ⟨k, rfl⟩ : ∃ m, k = m + 1 := ⟨k - 1, by omega⟩
      have hk1 : lex_Text.f k [x] = some ((⟨#[]⟩ : ByteArray), 30) := hK k (by omega)
      have hk2 : ((lex_Text.f k l).bind fun bt365 => some (bt365.2 == 30)) = some true := hK2 k (by omega)
      have hk1' : lex_Text.f k [(⟨x.f0, x.f1, x.f2, x.f3⟩ : S35)] = some ((⟨#[]⟩ : ByteArray), 30) := hk1
      simp only [fastilaw03_LexSpaces.l1]
      rw [if_pos c1, if_pos c2, if_pos c1, e1, hk1']
      simp only [Option.bind_some, if_neg n30]
      exact hk2
theorem spaces_l0 (l : List S35) (ts : List Int) (note : ByteArray) (hn : note.size ≤ 100) (main : ∀ w : ByteArray, (∀ c ∈ bs w, c ≠ 10) → w.size ≤ 100 → Ev (fun k => fastilaw03_LexSpaces.l1 k l ts (S9 w) (⟨#[10]⟩ : ByteArray) l (l.length : Int) 0) true) : ∀ (d i : Nat) (w : ByteArray), note.size - i = d → i ≤ note.size → (∀ c ∈ bs w, c ≠ 10) → w.size ≤ i → Ev (fun k => fastilaw03_LexSpaces.l0 k l ts note w (i : Int)) true := by
  intro d
  induction d with
  | zero =>
    intro i w hd hi hw hwl
    have hm := main w hw (by omega)
    have b1 : 2 + w.size ≤ 9223372036854775807 := by omega
    have b2 : ((⟨#[47, 47]⟩ : ByteArray) ++ w).size + 1 ≤ 9223372036854775807 := by
      rw [ByteArray.size_append]
      have : (⟨#[47, 47]⟩ : ByteArray).size = 2 := rfl
      omega
    refine Ev.step (fun k => ?_) hm
    simp only [fastilaw03_LexSpaces.l0]
    rw [if_neg (by omega), if_pos b1, if_pos b2]
    rfl
  | succ d ih =>
    intro i w hd hi hw hwl
    obtain ⟨c, r, f1, f2, f3, f4⟩ := drop_at note (show i < note.size by omega)
    have hw1 : wrap64 ((i : Int) + 1) = ((i + 1 : Nat) : Int) := w64s i (by omega)
    have c1 : (i : Int) < (note.size : Int) := by omega
    have c2 : 0 ≤ (i : Int) := by omega
    by_cases hc : c = 10
    · subst hc
      refine Ev.step (fun k => ?_) (ih (i + 1) w (by omega) (by omega) hw (by omega))
      simp only [fastilaw03_LexSpaces.l0]
      rw [if_pos c1, if_pos c2, f2, if_pos (by rfl), hw1]
    · have hne : ¬ (c.toNat : Int) = 10 := fun e => hc (UInt8.toNat_inj.1 (by rw [show c.toNat = 10 by omega]; rfl))
      have hex : note.extract i (i + 1) = mk [c] := by rw [mk_extract, f1]; rfl
      have hs1 : (mk [c]).size = 1 := size_mk [c]
      have hi1 : w.size + 1 ≤ i + 1 := by omega
      have hsz : w.size + (mk [c]).size ≤ 9223372036854775807 := by rw [hs1]; omega
      have p1 : (i : Int) ≤ ((i + 1 : Nat) : Int) := by omega
      have p2 : ((i + 1 : Nat) : Int) ≤ (note.size : Int) := by omega
      refine Ev.step (fun k => ?_) (ih (i + 1) (w ++ mk [c]) (by omega) (by omega) (fun y hy => ?_) (by rw [ByteArray.size_append, hs1]; exact hi1))
      · simp only [fastilaw03_LexSpaces.l0]
        rw [if_pos c1, if_pos c2, f2, if_neg hne, hw1, if_pos p1, if_pos p2, Int.toNat_natCast, Int.toNat_natCast, hex, if_pos hsz]
      · rw [bs_app, bs_mk] at hy
        rcases List.mem_append.1 hy with hy | hy
        · exact hw y hy
        · rw [List.mem_singleton.1 hy]; exact hc
theorem LexSpaces (l : List S35) (ts : List Int) (note : ByteArray) (yl : l.length * 40 ≤ 140737488351232) (zl : ∀ x ∈ l, x.f1.size ≤ 140737488351232) (mt : ts.length ≤ maxLen) (yt : ts.length * 1 ≤ 140737488351232) (wt : ∀ x ∈ ts, (Lit.int .u8 x).wf = true) (hn : note.size ≤ 140737488351232) : ∃ k, fastilaw03_LexSpaces.f k l ts note = some true := by
  refine Ev.rounds ?_
  have hj : Ev (fun k => fastilaw03_LexSpaces.j0 k l ts note true) true := Ev.eq fun k => rfl
  unfold fastilaw03_LexSpaces.f
  refine Ev.bind sane_ok ?_
  simp only [if_true]
  refine Ev.bind (few_ev l (by omega) zl) ?_
  cases ha : fewB l
  · simp only [Bool.false_eq_true, if_false]
    exact hj
  simp only [if_true]
  by_cases h1 : (note.size : Int) > 100
  · simp only [decide_eq_true h1]
    exact hj
  simp only [decide_eq_false h1]
  have fa := few_of ha
  have hst0 : St l 0 (⟨#[10]⟩ : ByteArray) := by
    refine ⟨[], rfl, fun m => ?_, by show 1 ≤ _; omega⟩
    have : bs (⟨#[10]⟩ : ByteArray) = [10] := rfl
    rw [this, List.singleton_append, toks_sp (by decide), pre_nil]
    rfl
  have hl0 := spaces_l0 l ts note (by omega) (fun w hw hwl => spaces_l1 l ts w fa.1 fa.2 wt hw hwl l.length 0 _ (by omega) (by omega) hst0) note.size 0 (⟨#[]⟩ : ByteArray) (by omega) (by omega) (fun c hc => by cases hc) (Nat.le_refl _)
  exact Ev.step (fun k => rfl) hl0
end Go.Proofs.YtcckpmijdckocaaDoor.Pure
