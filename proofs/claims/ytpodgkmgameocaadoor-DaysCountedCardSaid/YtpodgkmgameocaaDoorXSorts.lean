/- Proved here: slices.Sort and slices.Compact at a row of the call's own (SO) -/
import Derived.Test.YtpodgkmgameocaaDoorX0
import Derived.Test.YtpodgkmgameocaaDoorK
import Derived.Test.YtpodgkmgameocaaDoorXSets
import Derived.Test.YtpodgkmgameocaaDoorXShelf
import Derived.Sort.OwnSortedInts
namespace Go.Proofs.YtpodgkmgameocaaDoor.X
open Go.RowKit Go.Proofs.YtpodgkmgameocaaDoorW.PrintWords Go.Proofs.YtpodgkmgameocaaDoorW.PrintLast Go.Proofs.YtpodgkmgameocaaDoorW.PrintMore
attribute [local go_sem] max2_int min2_int max_two min_two max_three min_three max_four min_four
set_option linter.unusedVariables false
set_option linter.unusedSimpArgs false
namespace SO
open Go.Sort
theorem sort_own {W : World} {base : Nat} {V : Value} {zs : List Int} (ho : W.ownsRow base 3 1 V zs.length (nums .i64 zs)) (hz : zs.length ≤ 4096) :
    Calls Tryd.prog 46 #[V] W fun e w' => e = .returned (.tuple #[]) ∧ w'.ownsRow base 3 1 V zs.length (nums .i64 (SS.isort zs)) ∧ W.grownBy w' V.ownBlock := by
  by_cases h0 : zs.length = 0
  · obtain rfl := List.length_eq_zero_iff.1 h0
    have key : ∀ p cap, V = .slice p 0 cap → Calls Tryd.prog 46 #[V] W fun e w' => e = .returned (.tuple #[]) ∧ w'.ownsRow base 3 1 V 0 (nums .i64 (SS.isort [])) ∧ W.grownBy w' V.ownBlock := fun p cap e => by
      subst e
      refine (Tryd.slices_Sort_int_none p cap W).mono ?_
      rintro e w' ⟨rfl, rfl⟩
      exact ⟨rfl, ho, World.grownBy.refl _ _⟩
    rcases ho.2 with ⟨h, _⟩ | ⟨g, cap, cur, h, _⟩
    · exact key _ _ h
    · exact key _ _ h
  · rcases ho.2 with ⟨_, h⟩ | ⟨g, cap, cur, rfl, hg, hb, hn, hm, hs, ht⟩
    · exact absurd h h0
    · rw [Nat.mul_one] at ht
      refine (Tryd.slices_Sort_int g 0 cap zs W (holds_of_blockI hb ht) (blk_lt hb) (by omega)).mono ?_
      rintro e w' ⟨rfl, n, os, rfl⟩
      rw [SS.sort_eq]
      exact ⟨rfl, ownsRow_sortedI (SS.isort_perm zs).length_eq hg hb hn hm hs, grownBy_sortedI _⟩
/-- slices.Compact behind a row that a frame's variable holds: the row is the program's own, the cells behind the shortened row are zero. -/
theorem compact_own {W : World} {base : Nat} {V : Value} {zs : List Int} (ho : W.ownsRow base 3 1 V zs.length (nums .i64 zs)) (hz : zs.length ≤ 4096) :
    Calls Tryd.prog 48 #[V] W fun e w' => ∃ V', e = .returned V' ∧ w'.ownsRow base 3 1 V' (SS.uniq zs).length (nums .i64 (SS.uniq zs)) ∧ W.grownBy w' V.ownBlock ∧ V'.ownBlock = V.ownBlock := by
  by_cases h0 : zs.length = 0
  · obtain rfl := List.length_eq_zero_iff.1 h0
    have key : ∀ p cap, V = .slice p 0 cap → Calls Tryd.prog 48 #[V] W fun e w' => ∃ V', e = .returned V' ∧ w'.ownsRow base 3 1 V' (SS.uniq []).length (nums .i64 (SS.uniq [])) ∧ W.grownBy w' V.ownBlock ∧ V'.ownBlock = V.ownBlock := fun p cap e => by
      subst e
      refine (Tryd.slices_Compact_int_empty p cap W).mono ?_
      rintro e w' ⟨rfl, rfl⟩
      exact ⟨_, rfl, ho, World.grownBy.refl _ _, rfl⟩
    rcases ho.2 with ⟨h, _⟩ | ⟨g, cap, cur, h, _⟩
    · exact key _ _ h
    · exact key _ _ h
  · rcases ho.2 with ⟨_, h⟩ | ⟨g, cap, cur, rfl, hg, hb, hn, hm, hs, ht⟩
    · exact absurd h h0
    · rw [Nat.mul_one] at ht
      refine (Tryd.slices_Compact_int g 0 cap zs W (holds_of_blockI hb ht) (by omega) hn).mono ?_
      rintro e w' ⟨rfl, n, rfl⟩
      rw [SS.compact_eq]
      have hle : (SS.uniq zs).length ≤ zs.length := by rw [← SS.compact_eq]; exact Lib.compact_length_le zs
      have h1 := ownsRow_sortedI (w := W) (base := base) (n := n) (os := #[]) (ss := zs) (ts := SS.uniq zs ++ List.replicate (zs.length - (SS.uniq zs).length) 0) (by simp; omega) hg hb hn hm hs
      rw [grow_empty] at h1
      have h2 := grownBy_sortedI (w := W) (g := g) (n := n) (os := #[]) (SS.uniq zs ++ List.replicate (zs.length - (SS.uniq zs).length) 0).toArray
      rw [grow_empty] at h2
      refine ⟨_, rfl, ?_, h2, rfl⟩
      rcases h1.2 with ⟨h, _⟩ | ⟨g', cap', cur', he, hg', hb', hn', hm', hs', ht'⟩
      · cases h
      · cases he
        refine ⟨by simp [nums], .inr ⟨g, cap, cur', rfl, hg', hb', by omega, hm', hs', ?_⟩⟩
        rw [Nat.mul_one] at ht' ⊢
        have h3 := congrArg (List.take (SS.uniq zs).length) ht'
        rw [List.take_take, Nat.min_eq_left hle] at h3
        rw [h3]
        simp [nums]
end SO
end Go.Proofs.YtpodgkmgameocaaDoor.X
