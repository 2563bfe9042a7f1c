/- Proved here: for functions of the program and of the reference, what each call returns (theorems '.calls'), under the conditions that each theorem names. Printed by this project's own driver over the kit's printer; parts marked EXT are written by hand. Lean checks it. -/
import Derived.Test.YtaadhandkljcdaaX0
import Derived.Test.YtaadhandkljcdaaX3
import Derived.Test.YtaadhandkljcdaaX5
import Derived.Test.YtaadhandkljcdaaX6
import Derived.Test.YtaadhandkljcdaaX7
import Derived.Test.YtaadhandkljcdaaX8
import Derived.Test.YtaadhandkljcdaaXPlayc
namespace Go.Proofs.Ytaadhandkljcdaa.X
open Go.RowKit Go.Proofs.YtaadhandkljcdaaW.PrintWords Go.Proofs.YtaadhandkljcdaaW.PrintLast Go.Proofs.YtaadhandkljcdaaW.PrintMore
attribute [local go_sem] max2_int min2_int max_two min_two max_three min_three max_four min_four   -- for this text's walks alone
set_option linter.unusedVariables false
set_option linter.unusedSimpArgs false

-- EXT fastilaw23_sane: function 10
-- def fastilaw23_sane.f  : Option (Bool) := 
-- theorem fastilaw23_sane.calls  (r : Bool) (w : World) (h : fastilaw23_sane.f  = some r) :
--     Calls Try.prog 10 #[] w fun e w' => e = .returned (.bool r) ∧ Below w.heap.size w w'
-- NEEDS: fasti/cups.Rounds, fasti/cups.Make, fasti/cups.Play, fasti/cups.Check, fasti/fastiref23.Same, fasti/fastiref23.SameInts
-- INFO: 3, 40, 42, 45
-- IMPORTS: Derived.Test.YtaadhandkljcdaaXPlayc
namespace CZ
open Go.Proofs.Ytaadhandkljcdaa.K CM
attribute [local go_sem] Oper.semAt_some
theorem flat_at {α : Type} {enc : α → List Value} {sz : Nat} (hs : ∀ x, (enc x).length = sz) : ∀ {l : List α} {j : Nat} {p : α} (i : Nat), l[j]? = some p → i < sz → (l.flatMap enc)[j * sz + i]? = (enc p)[i]?
  | [], _, _, _, h, _ => by simp at h
  | a :: l, 0, p, i, h, hi => by
    obtain rfl : a = p := by simpa using h
    rw [List.flatMap_cons, Nat.zero_mul, Nat.zero_add, List.getElem?_append_left (by rw [hs]; exact hi)]
  | a :: l, j + 1, p, i, h, hi => by
    have ih := flat_at hs (l := l) (j := j) (p := p) i (by simpa using h) hi
    rw [List.flatMap_cons, List.getElem?_append_right (by rw [hs, Nat.succ_mul]; omega), hs, show (j + 1) * sz + i - sz = j * sz + i by rw [Nat.succ_mul]; omega]
    exact ih
theorem lit_row {α : Type} {d : Kd α} {enc : α → List Value} {W : World} {g : Nat} {t : TypeId} (hs : ∀ x, (enc x).length = d.sz) (hK : ∀ x, d.K W x (enc x)) (l : List α) (hl : l.length < 1000) (h : W.heap[g]? = some (.cells (l.flatMap enc).toArray t (0, 0))) : Kd.C d W (some ⟨g, 0, none⟩) l.length l := by
  refine ⟨rfl, by omega, fun hp => ⟨_, rfl, fun j p hj => ⟨enc p, hs p, hK p, fun i u hu => ?_⟩⟩⟩
  have hi : i < d.sz := by rw [← hs p]; exact (List.getElem?_eq_some_iff.1 hu).1
  have := blk_cell h (j * d.sz + i)
  rw [List.getElem?_toArray, flat_at hs i hj hi, hu] at this
  rw [add_plain]
  exact this
def enc45 (s : S45) : List Value := [.int .i64 s.f0, .int .i64 s.f1, .int .i64 s.f2]
theorem lit45 {W : World} {g : Nat} (l : List S45) (hl : l.length < 1000) (h : W.heap[g]? = some (.cells (l.flatMap enc45).toArray 45 (0, 0))) : Kd.C k45 W (some ⟨g, 0, none⟩) l.length l := lit_row (enc := enc45) (fun _ => rfl) (fun x => k45_mk W x) l hl h
theorem lit42 {W : World} {g : Nat} (l : List S42) (hl : l.length < 1000) (h : W.heap[g]? = some (.cells (l.flatMap enc42).toArray 42 (0, 0))) : Kd.C k42 W (some ⟨g, 0, none⟩) l.length l := lit_row (enc := enc42) (fun _ => rfl) (fun x => k42_mk W x) l hl h
theorem flat_nums : ∀ l : List Int, l.flatMap (fun x => [Value.int .i64 x]) = nums .i64 l
  | [] => rfl
  | a :: l => by rw [List.flatMap_cons, flat_nums l]; rfl
theorem lit3 {W : World} {g : Nat} (l : List Int) (hl : l.length < 1000) (h : W.heap[g]? = some (.cells (nums .i64 l).toArray 3 (0, 0))) : Kd.C (Kd.int .i64) W (some ⟨g, 0, none⟩) l.length l :=
  lit_row (d := Kd.int .i64) (enc := fun x => [.int .i64 x]) (fun _ => rfl) (fun _ => rfl) l hl (by rw [h, flat_nums l])
def m3 : List S42 := [⟨0, ⟨1, 1, 0⟩, ⟨1, 2, 0⟩⟩, ⟨1, ⟨1, 0, 0⟩, ⟨3, 0, 0⟩⟩]
def m2 : List S42 := [⟨0, ⟨1, 0, 0⟩, ⟨1, 1, 0⟩⟩]
set_option maxRecDepth 100000 in
set_option maxHeartbeats 16000000 in
theorem sane_calls (w : World) : Calls Try.prog 10 #[] w fun e w' => e = .returned (.bool true) ∧ Below w.heap.size w w' := by
  go_enter Try.func10, Try.ntmps10
  go_wp2_with fail
  refine (cups_Rounds.calls 64 6 0 0 w (by kernel_rfl)).mono ?_
  rintro e w1 ⟨rfl, ⟨n1, rfl⟩⟩
  go_wp2_with fail
  refine (cups_Rounds.calls 5 3 3 0 _ (by kernel_rfl)).mono ?_
  rintro e w2 ⟨rfl, ⟨n2, rfl⟩⟩
  go_wp2_with fail
  refine (cups_Rounds.calls 65 0 0 1 _ (by kernel_rfl)).mono ?_
  rintro e w3 ⟨rfl, ⟨n3, rfl⟩⟩
  have E3 := Aside0.mk (pw_below_drewN (pw_below_drewN (Below.refl w.heap.size w) (n1 + n2)) n3)
  obtain ⟨W3, hW3⟩ : ∃ W3, (w.drewN (n1 + n2)).drewN n3 = W3 := ⟨_, rfl⟩
  rw [hW3] at E3 ⊢
  have z3 := E3.out.size
  clear hW3
  go_wp2_with fail
  refine (cups_Make.calls 3 m3 0 W3 (by kernel_rfl)).mono ?_
  rintro e w4 ⟨va, rfl, ra, K4⟩
  obtain ⟨Aa, ca, rfl, hca, hCa⟩ := Kd.R_reads ra
  have E4 := Aside0.mk (below_then E3.out z3 K4)
  have RA4 := Aside0.mk hCa
  have z4 := E4.out.size
  clear K4 ra hCa E3
  go_wp2_with fail
  refine (cups_Make.calls 2 m2 0 w4 (by kernel_rfl)).mono ?_
  rintro e w5 ⟨vb, rfl, rb, K5⟩
  obtain ⟨Ab, cb, rfl, hcb, hCb⟩ := Kd.R_reads rb
  have E5 := Aside0.mk (below_then E4.out z4 K5)
  have RA5 := Aside0.mk (Kd.C_below RA4.out K5)
  have RB5 := Aside0.mk hCb
  have z5 := E5.out.size
  clear K5 rb hCb RA4 E4
  go_wp2_with fail
  have L5 := lit45 [⟨0, 1, 1⟩, ⟨0, 0, 2⟩] (by decide) (blk_new w5 (.cells #[.int .i64 0, .int .i64 1, .int .i64 1, .int .i64 0, .int .i64 0, .int .i64 2] 45))
  have B5 := below_alloc (Below.refl w5.heap.size w5) (.cells #[.int .i64 0, .int .i64 1, .int .i64 1, .int .i64 0, .int .i64 0, .int .i64 2] 45)
  refine (cups_Play.calls 3 _ 2 [⟨0, 1, 1⟩, ⟨0, 0, 2⟩] [0, 1] [1] 0 _ L5 (by decide) (by kernel_rfl)).mono ?_
  rintro e w6 ⟨vc, vd, rfl, rc, rd6, K6⟩
  obtain ⟨Ac, cc, rfl, hcc, hCc⟩ := Kd.R_reads rc
  obtain ⟨Ad, cd, rfl, hcd, hCd⟩ := Kd.R_reads rd6
  have k6 := B5.trans (K6.mono (by simp))
  have E6 := Aside0.mk (below_then E5.out z5 k6)
  have RA6 := Aside0.mk (Kd.C_below RA5.out k6)
  have RB6 := Aside0.mk (Kd.C_below RB5.out k6)
  have RC6 := Aside0.mk hCc
  have RD6 := Aside0.mk hCd
  have z6 := E6.out.size
  clear K6 k6 rc rd6 hCc hCd RA5 RB5 E5 B5 L5
  go_wp2_with fail
  refine (cups_Play.calls 2 none 0 [] [0, 1] [0] 0 w6 ⟨rfl, by simp, fun h => by simp at h⟩ (by decide) (by kernel_rfl)).mono ?_
  rintro e w7 ⟨ve, vf, rfl, re, rf, K7⟩
  obtain ⟨Ae, ce, rfl, hce, hCe⟩ := Kd.R_reads re
  obtain ⟨Af, cf, rfl, hcf, hCf⟩ := Kd.R_reads rf
  have E7 := Aside0.mk (below_then E6.out z6 K7)
  have RA7 := Aside0.mk (Kd.C_below RA6.out K7)
  have RB7 := Aside0.mk (Kd.C_below RB6.out K7)
  have RC7 := Aside0.mk (Kd.C_below RC6.out K7)
  have RD7 := Aside0.mk (Kd.C_below RD6.out K7)
  have RE7 := Aside0.mk hCe
  have RF7 := Aside0.mk hCf
  have z7 := E7.out.size
  clear K7 re rf hCe hCf RA6 RB6 RC6 RD6 E6
  go_wp2_with fail
  have b1 := blk_alloc (blk_new w7 (.cells #[.int .i64 0, .int .i64 1, .int .i64 1, .int .i64 0, .int .i64 1, .int .i64 2, .int .i64 0, .int .i64 1, .int .i64 1, .int .i64 0, .int .i64 0, .int .i64 3, .int .i64 0, .int .i64 0] 42)) (.cells #[.int .i64 0, .int .i64 1, .int .i64 0, .int .i64 0, .int .i64 1, .int .i64 1, .int .i64 0] 42)
  have b2 := blk_at (w7.alloc (.cells #[.int .i64 0, .int .i64 1, .int .i64 1, .int .i64 0, .int .i64 1, .int .i64 2, .int .i64 0, .int .i64 1, .int .i64 1, .int .i64 0, .int .i64 0, .int .i64 3, .int .i64 0, .int .i64 0] 42)) (.cells #[.int .i64 0, .int .i64 1, .int .i64 0, .int .i64 0, .int .i64 1, .int .i64 1, .int .i64 0] 42) (k := w7.heap.size + 1) (by simp)
  have B8 := below_alloc (below_alloc (Below.refl w7.heap.size w7) (.cells #[.int .i64 0, .int .i64 1, .int .i64 1, .int .i64 0, .int .i64 1, .int .i64 2, .int .i64 0, .int .i64 1, .int .i64 1, .int .i64 0, .int .i64 0, .int .i64 3, .int .i64 0, .int .i64 0] 42)) (.cells #[.int .i64 0, .int .i64 1, .int .i64 0, .int .i64 0, .int .i64 1, .int .i64 1, .int .i64 0] 42)
  obtain ⟨W8, hW8⟩ : ∃ W8, (w7.alloc (.cells #[.int .i64 0, .int .i64 1, .int .i64 1, .int .i64 0, .int .i64 1, .int .i64 2, .int .i64 0, .int .i64 1, .int .i64 1, .int .i64 0, .int .i64 0, .int .i64 3, .int .i64 0, .int .i64 0] 42)).alloc (.cells #[.int .i64 0, .int .i64 1, .int .i64 0, .int .i64 0, .int .i64 1, .int .i64 1, .int .i64 0] 42) = W8 := ⟨_, rfl⟩
  rw [hW8] at b1 b2 B8 ⊢
  have L8 := lit42 m3 (by decide) b1
  have M8 := Aside0.mk (lit42 m2 (by decide) b2)
  clear b1 b2 hW8
  have E8 := Aside0.mk (below_then E7.out z7 B8)
  have RB8 := Aside0.mk (Kd.C_below RB7.out B8)
  have RC8 := Aside0.mk (Kd.C_below RC7.out B8)
  have RD8 := Aside0.mk (Kd.C_below RD7.out B8)
  have RE8 := Aside0.mk (Kd.C_below RE7.out B8)
  have RF8 := Aside0.mk (Kd.C_below RF7.out B8)
  have z8 := E8.out.size
  refine (fastiref23_Same.calls 10 _ ca m3 _ 2 m3 true W8 (Kd.C_below RA7.out B8) hca L8 (by decide) (by kernel_rfl)).mono ?_
  rintro e w9 ⟨rfl, ⟨n9, rfl⟩⟩
  clear L8 B8 E7 RA7 RB7 RC7 RD7 RE7 RF7
  have D9 := pw_below_drewN (Below.refl W8.heap.size W8) n9
  have E9 := Aside0.mk (below_then E8.out z8 D9)
  have RB9 := Aside0.mk (Kd.C_below RB8.out D9)
  have M9 := Aside0.mk (Kd.C_below M8.out D9)
  have RC9 := Aside0.mk (Kd.C_below RC8.out D9)
  have RD9 := Aside0.mk (Kd.C_below RD8.out D9)
  have RE9 := Aside0.mk (Kd.C_below RE8.out D9)
  have RF9 := Aside0.mk (Kd.C_below RF8.out D9)
  obtain ⟨w9, hw9⟩ : ∃ w9, W8.drewN n9 = w9 := ⟨_, rfl⟩
  rw [hw9] at E9 RB9 RC9 RD9 RE9 RF9 M9 ⊢
  have z9 := E9.out.size
  clear D9 hw9 E8 RB8 RC8 RD8 RE8 RF8 M8
  go_wp2_with fail
  refine (fastiref23_Same.calls 10 _ cb m2 _ 1 m2 true w9 RB9.out hcb M9.out (by decide) (by kernel_rfl)).mono ?_
  rintro e w10 ⟨rfl, ⟨n10, rfl⟩⟩
  have D10 := pw_below_drewN (Below.refl w9.heap.size w9) n10
  have E10 := Aside0.mk (below_then E9.out z9 D10)
  have RC10 := Aside0.mk (Kd.C_below RC9.out D10)
  have RD10 := Aside0.mk (Kd.C_below RD9.out D10)
  have RE10 := Aside0.mk (Kd.C_below RE9.out D10)
  have RF10 := Aside0.mk (Kd.C_below RF9.out D10)
  obtain ⟨w10, hw10⟩ : ∃ w10, w9.drewN n10 = w10 := ⟨_, rfl⟩
  rw [hw10] at E10 RC10 RD10 RE10 RF10 ⊢
  have z10 := E10.out.size
  clear D10 hw10 E9 RB9 RC9 RD9 RE9 RF9 M9
  go_wp2_with fail
  have L11 := lit45 [⟨0, 1, 0⟩, ⟨0, 1, 0⟩] (by decide) (blk_new w10 (.cells #[.int .i64 0, .int .i64 1, .int .i64 0, .int .i64 0, .int .i64 1, .int .i64 0] 45))
  have B11 := below_alloc (Below.refl w10.heap.size w10) (.cells #[.int .i64 0, .int .i64 1, .int .i64 0, .int .i64 0, .int .i64 1, .int .i64 0] 45)
  refine (cups_Check.calls 2 _ 2 [⟨0, 1, 0⟩, ⟨0, 1, 0⟩] 230 _ L11 (by decide) (by kernel_rfl)).mono ?_
  rintro e w11 ⟨rfl, K11⟩
  have k11 := B11.trans (K11.mono (by simp))
  have E11 := Aside0.mk (below_then E10.out z10 k11)
  have RC11 := Aside0.mk (Kd.C_below RC10.out k11)
  have RD11 := Aside0.mk (Kd.C_below RD10.out k11)
  have RE11 := Aside0.mk (Kd.C_below RE10.out k11)
  have RF11 := Aside0.mk (Kd.C_below RF10.out k11)
  have z11 := E11.out.size
  clear K11 k11 L11 B11 E10 RC10 RD10 RE10 RF10
  go_wp2_with fail
  have B12 := below_alloc (Below.refl w11.heap.size w11) (.cells #[.int .i64 0, .int .i64 1] 3)
  refine (fastiref23_SameInts.calls 10 _ cc [0, 1] _ 2 [0, 1] true _ (Kd.C_below RC11.out B12) hcc (lit3 [0, 1] (by decide) (blk_new w11 (.cells #[.int .i64 0, .int .i64 1] 3))) (by decide) (by kernel_rfl)).mono ?_
  rintro e w12 ⟨rfl, ⟨n12, rfl⟩⟩
  have k12 := pw_below_drewN B12 n12
  have E12 := Aside0.mk (below_then E11.out z11 k12)
  have RD12 := Aside0.mk (Kd.C_below RD11.out k12)
  have RE12 := Aside0.mk (Kd.C_below RE11.out k12)
  have RF12 := Aside0.mk (Kd.C_below RF11.out k12)
  obtain ⟨w12, hw12⟩ : ∃ w12, (w11.alloc (.cells #[.int .i64 0, .int .i64 1] 3)).drewN n12 = w12 := ⟨_, rfl⟩
  rw [hw12] at E12 RD12 RE12 RF12 ⊢
  have z12 := E12.out.size
  clear B12 k12 hw12 E11 RC11 RD11 RE11 RF11
  go_wp2_with fail
  have B13 := below_alloc (Below.refl w12.heap.size w12) (.cells #[.int .i64 1] 3)
  refine (fastiref23_SameInts.calls 10 _ cd [1] _ 1 [1] true _ (Kd.C_below RD12.out B13) hcd (lit3 [1] (by decide) (blk_new w12 (.cells #[.int .i64 1] 3))) (by decide) (by kernel_rfl)).mono ?_
  rintro e w13 ⟨rfl, ⟨n13, rfl⟩⟩
  have k13 := pw_below_drewN B13 n13
  have E13 := Aside0.mk (below_then E12.out z12 k13)
  have RE13 := Aside0.mk (Kd.C_below RE12.out k13)
  have RF13 := Aside0.mk (Kd.C_below RF12.out k13)
  obtain ⟨w13, hw13⟩ : ∃ w13, (w12.alloc (.cells #[.int .i64 1] 3)).drewN n13 = w13 := ⟨_, rfl⟩
  rw [hw13] at E13 RE13 RF13 ⊢
  have z13 := E13.out.size
  clear B13 k13 hw13 E12 RD12 RE12 RF12
  go_wp2_with fail
  have B14 := below_alloc (Below.refl w13.heap.size w13) (.cells #[.int .i64 0, .int .i64 1] 3)
  refine (fastiref23_SameInts.calls 10 _ ce [0, 1] _ 2 [0, 1] true _ (Kd.C_below RE13.out B14) hce (lit3 [0, 1] (by decide) (blk_new w13 (.cells #[.int .i64 0, .int .i64 1] 3))) (by decide) (by kernel_rfl)).mono ?_
  rintro e w14 ⟨rfl, ⟨n14, rfl⟩⟩
  have k14 := pw_below_drewN B14 n14
  have E14 := Aside0.mk (below_then E13.out z13 k14)
  have RF14 := Aside0.mk (Kd.C_below RF13.out k14)
  obtain ⟨w14, hw14⟩ : ∃ w14, (w13.alloc (.cells #[.int .i64 0, .int .i64 1] 3)).drewN n14 = w14 := ⟨_, rfl⟩
  rw [hw14] at E14 RF14 ⊢
  have z14 := E14.out.size
  clear B14 k14 hw14 E13 RE13 RF13
  go_wp2_with fail
  have B15 := below_alloc (Below.refl w14.heap.size w14) (.cells #[.int .i64 0] 3)
  refine (fastiref23_SameInts.calls 10 _ cf [0] _ 1 [0] true _ (Kd.C_below RF14.out B15) hcf (lit3 [0] (by decide) (blk_new w14 (.cells #[.int .i64 0] 3))) (by decide) (by kernel_rfl)).mono ?_
  rintro e w15 ⟨rfl, ⟨n15, rfl⟩⟩
  have k15 := pw_below_drewN B15 n15
  have E15 := Aside0.mk (below_then E14.out z14 k15)
  obtain ⟨w15, hw15⟩ : ∃ w15, (w14.alloc (.cells #[.int .i64 0] 3)).drewN n15 = w15 := ⟨_, rfl⟩
  rw [hw15] at E15 ⊢
  have z15 := E15.out.size
  clear B15 k15 hw15 E14 RF14
  go_wp2_with fail
  exact bodyPost_ret (v := .bool true) (by simp [results, Try.results10, go_sem]) rfl ⟨rfl, E15.out⟩
end CZ
def fastilaw23_sane.f : Option (Bool) := some true
theorem fastilaw23_sane.calls (r : Bool) (w : World) (h : fastilaw23_sane.f = some r) :
    Calls Try.prog 10 #[] w fun e w' => e = .returned (.bool r) ∧ Below w.heap.size w w' := by
  cases h
  exact CZ.sane_calls w

end Go.Proofs.Ytaadhandkljcdaa.X
