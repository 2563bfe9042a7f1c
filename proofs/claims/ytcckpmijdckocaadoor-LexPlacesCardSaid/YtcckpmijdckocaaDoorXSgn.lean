/- Proved here: what scanner.sign does (LS.sign_calls) -/
import Derived.Test.YtcckpmijdckocaaDoorX0
import Derived.Test.YtcckpmijdckocaaDoorXLx
import Derived.Test.YtcckpmijdckocaaDoorXRun
import Derived.Test.YtcckpmijdckocaaDoorXAdd
import Derived.Test.YtcckpmijdckocaaDoorXStp
import Derived.Test.YtcckpmijdckocaaDoorXLx
import Derived.Test.YtcckpmijdckocaaDoorXRun
import Derived.Test.YtcckpmijdckocaaDoorXAdd
import Derived.Test.YtcckpmijdckocaaDoorXStp
import Derived.Deep.RegionWith
namespace Go.Proofs.YtcckpmijdckocaaDoor.X
open Go.RowKit Go.Proofs.YtcckpmijdckocaaDoorW.PrintWords Go.Proofs.YtcckpmijdckocaaDoorW.PrintLast Go.Proofs.YtcckpmijdckocaaDoorW.PrintMore
attribute [local go_sem] max2_int min2_int max_two min_two max_three min_three max_four min_four
set_option linter.unusedVariables false
set_option linter.unusedSimpArgs false
namespace LS
open Go.Proofs.YtcckpmijdckocaaDoor.K LX
attribute [local go_sem] Oper.semAt_some
set_option maxHeartbeats 8000000
set_option maxRecDepth 100000
theorem ix10 : ∀ l : List UInt8, (Lib.indexByte l 10 = -1 ∧ l.takeWhile (· != 10) = l) ∨ (0 ≤ Lib.indexByte l 10 ∧ Lib.indexByte l 10 = ((l.takeWhile (· != 10)).length : Int))
  | [] => .inl ⟨rfl, rfl⟩
  | b :: l => by
    rw [List.takeWhile_cons, Lib.indexByte]
    by_cases hb : b = 10
    · subst hb
      right
      simp
    · have h1 : (b == 10) = false := beq_eq_false_iff_ne.2 hb
      have h2 : (b != 10) = true := bne_iff_ne.2 hb
      simp only [h1, h2, if_true, Bool.false_eq_true, if_false]
      rcases ix10 l with ⟨h3, h4⟩ | ⟨h3, h4⟩
      · rw [h3, h4]
        exact .inl ⟨rfl, rfl⟩
      · have h5 : (Lib.indexByte l 10 == -1) = false := beq_eq_false_iff_ne.2 (by omega)
        rw [h5]
        simp only [Bool.false_eq_true, if_false, List.length_cons]
        right
        omega
theorem sign_calls (src : ByteArray) (hsrc : src.size ≤ 65536) (sb at_ : Nat) (c : UInt8) (r : List UInt8) (hd : (bs src).drop at_ = c :: r) (hc : isSign c = true) (l : List S35) (A : Option Addr) (cap : Nat) (w : World) (hS : Sc src sb at_ l A cap w) :
    Calls Tryd.prog 29 #[.pointer (some ⟨sb, 0, none⟩)] w (Stp src sb at_ l w (if [47, 47].isPrefixOf (c :: r) then some ([], ((c :: r).takeWhile (· != 10)).length) else some ([⟨3, mk [c], 0, at_⟩], 1))) := by
  have hlen : at_ + r.length + 1 = src.size := by
    have h := congrArg List.length hd
    rw [List.length_drop, bs_len, List.length_cons] at h
    omega
  have hall : bs (src.extract at_ src.size) = c :: r := by rw [bs_extract, List.take_of_length_le (by rw [List.length_drop, bs_len]; exact Nat.le_refl _), hd]
  have hone : src.extract at_ (at_ + 1) = mk [c] := by rw [mk_extract, hd]; rfl
  have hpre := Tryd.strings_HasPrefix (src.extract at_ src.size) ⟨#[47, 47]⟩
  rw [show (src.extract at_ src.size).data.toList = c :: r from hall] at hpre
  have hpre' : ∀ w, Calls Tryd.prog 46 #[.string (src.extract at_ src.size), .string ⟨#[47, 47]⟩] w fun e w' => e = .returned (.bool ([47, 47].isPrefixOf (c :: r))) ∧ w' = w := hpre
  have hix := Tryd.strings_IndexByte (src.extract at_ src.size) 10
  rw [show (src.extract at_ src.size).data.toList = c :: r from hall] at hix
  have hix' : ∀ w, Calls Tryd.prog 47 #[.string (src.extract at_ src.size), .int .u8 10] w fun e w' => e = .returned (.int .i64 (Lib.indexByte (c :: r) 10)) ∧ w' = w := hix
  have c0 := blk_cell hS.blk 0
  have c1 := blk_cell hS.blk 1
  have z1 := blk_frozen hS.blk 1
  simp only [List.getElem?_toArray, List.getElem?_cons_zero, List.getElem?_cons_succ] at c0 c1
  have HS := Aside0.mk hS
  have HIX := Aside0.mk hix'
  have HONE := Aside0.mk hone
  have g1 : (0 : Int) ≤ (at_ : Int) := by omega
  have g2 : (at_ : Int) ≤ (src.size : Int) := by omega
  have g4 : (at_ : Int) ≤ 65535 := by omega
  clear hpre hix hix' hS hall hone hd
  cases hp : [47, 47].isPrefixOf (c :: r)
  · rw [hp] at hpre'
    have HPRE := Aside0.mk hpre'
    clear hp hpre'
    rw [if_neg (by decide)]
    have hva : validB ⟨3, mk [c], 0, 0⟩ = true := by simp [validB, bs_mk, hc]
    have HVA := Aside0.mk hva
    clear hva hc
    have g3 : ((at_ : Int) + 1 ≤ (src.size : Int)) := by omega
    have g5 : IntKind.i64.wrap ((at_ : Int) + 1) = (at_ : Int) + 1 := by rw [i64_w]; exact w64 (by omega) (by omega)
    have g6 : ((at_ : Int) ≤ (at_ : Int) + 1) := by omega
    have g7 : ((at_ : Int) + 1).toNat = at_ + 1 := by omega
    go_enter Tryd.func29, Tryd.ntmps29
    go_wp2_with fail
    go_quiet ((go_at_call 46; exact Calls.quiet_of_same (HPRE.out _)))
    go_wp2_with fail
    go_quiet (fail)
    go_wp2_with fail
    rw [HONE.out]
    refine (add_ok src sb at_ (by omega) l A cap ⟨3, mk [c], 0, 0⟩ (mk [c]) (show 1 ≤ 65536 by decide) HVA.out _ (HS.out.below (pw_below_drewN (Below.refl _ _) _)) (blk_lt HS.out.blk)).mono ?_
    rintro e w4 ⟨rfl, hs4, hb4⟩
    have HS4 := Aside0.mk (hs4 (show 0 < 1 by decide))
    have HB4 := Aside0.mk ((pw_below_drewN (Below.refl sb w) _).trans hb4)
    clear hs4 hb4
    go_wp2_with fail
    exact bodyPost_end (v := .tuple #[]) (by simp [results, Tryd.results29, go_sem]) rfl ⟨rfl, HS4.out, HB4.out⟩
  · rw [hp] at hpre'
    have HPRE := Aside0.mk hpre'
    clear hp hpre' hc
    rw [if_pos rfl]
    have g8 : ((c :: r).takeWhile (· != 10)).length ≤ r.length + 1 := (List.takeWhile_sublist _).length_le
    rcases ix10 (c :: r) with ⟨h1, h2⟩ | ⟨h1, h2⟩
    · rw [h1] at HIX
      rw [h2]
      clear h1 h2 g8
      have HLEN := Aside0.mk hlen
      clear hlen
      go_enter Tryd.func29, Tryd.ntmps29
      go_wp2_with fail
      go_quiet ((go_at_call 46; exact Calls.quiet_of_same (HPRE.out _)))
      go_wp2_with fail
      obtain ⟨W1, hW1⟩ : ∃ W1, w.drewN nq = W1 := ⟨_, rfl⟩
      have SW := Aside0.mk (HS.out.below (pw_below_drewN (Below.refl w.heap.size w) nq))
      have BW := Aside0.mk (pw_below_drewN (Below.refl sb w) nq)
      rw [hW1] at SW BW ⊢
      have d0 := blk_cell SW.out.blk 0
      have d1 := blk_cell SW.out.blk 1
      have y1 := blk_frozen SW.out.blk 1
      simp only [List.getElem?_toArray, List.getElem?_cons_zero, List.getElem?_cons_succ] at d0 d1
      clear hW1 c0 c1 z1
      go_quiet ((go_at_call 47; exact Calls.quiet_of_same (HIX.out _)))
      go_wp2_with fail
      have hm := SW.out.moved (r.length + 1)
      rw [show ((at_ : Int) + ((r.length + 1 : Nat) : Int)) = (src.size : Int) by have := HLEN.out; omega] at hm
      exact bodyPost_ret (v := .tuple #[]) (by simp [results, Tryd.results29, go_sem]) rfl ⟨rfl, ⟨A, cap, by rw [List.append_nil]; exact hm.below (pw_below_drewN (Below.refl _ _) _)⟩, pw_below_drewN (BW.out.setCell (Nat.le_refl _) _) _⟩
    · obtain ⟨m, hm⟩ : ∃ m, ((c :: r).takeWhile (· != 10)).length = m := ⟨_, rfl⟩
      rw [hm] at g8 h2 ⊢
      rw [h2] at HIX h1
      have HLEN := Aside0.mk hlen
      have g9 : ((m : Int) ≥ 0) = True := eq_true (by omega)
      have g10 : (m : Int) ≤ 65536 := by omega
      have HM := Aside0.mk hm
      clear hlen h2 hm
      go_enter Tryd.func29, Tryd.ntmps29
      go_wp2_with fail
      go_quiet ((go_at_call 46; exact Calls.quiet_of_same (HPRE.out _)))
      go_wp2_with fail
      obtain ⟨W1, hW1⟩ : ∃ W1, w.drewN nq = W1 := ⟨_, rfl⟩
      have SW := Aside0.mk (HS.out.below (pw_below_drewN (Below.refl w.heap.size w) nq))
      have BW := Aside0.mk (pw_below_drewN (Below.refl sb w) nq)
      rw [hW1] at SW BW ⊢
      have d0 := blk_cell SW.out.blk 0
      have d1 := blk_cell SW.out.blk 1
      have y1 := blk_frozen SW.out.blk 1
      simp only [List.getElem?_toArray, List.getElem?_cons_zero, List.getElem?_cons_succ] at d0 d1
      clear hW1 c0 c1 z1
      go_quiet ((go_at_call 47; exact Calls.quiet_of_same (HIX.out _)))
      go_wp2_with fail
      exact bodyPost_ret (v := .tuple #[]) (by simp [results, Tryd.results29, go_sem]) rfl ⟨rfl, ⟨A, cap, by rw [List.append_nil]; exact (SW.out.moved m).below (pw_below_drewN (Below.refl _ _) _)⟩, pw_below_drewN (BW.out.setCell (Nat.le_refl _) _) _⟩
end LS
end Go.Proofs.YtcckpmijdckocaaDoor.X
