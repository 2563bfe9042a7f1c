/- Proved here: what scanner.add does (LS.add_ok, LS.add_bad) -/
import Derived.Test.YtcckpmijdckocaaDoorX0
import Derived.Test.YtcckpmijdckocaaDoorXLx
import Derived.Test.YtcckpmijdckocaaDoorXRun
import Derived.Test.YtcckpmijdckocaaDoorXLx
import Derived.Test.YtcckpmijdckocaaDoorXRun
import Derived.StillTailTactics
import Derived.Deep.AppendLies
import Derived.Deep.RegionLaw
namespace Go.Proofs.YtcckpmijdckocaaDoor.X
open Go.RowKit Go.Proofs.YtcckpmijdckocaaDoorW.PrintWords Go.Proofs.YtcckpmijdckocaaDoorW.PrintLast Go.Proofs.YtcckpmijdckocaaDoorW.PrintMore
attribute [local go_sem] max2_int min2_int max_two min_two max_three min_three max_four min_four
set_option linter.unusedVariables false
set_option linter.unusedSimpArgs false
namespace LS
open Go.Proofs.YtcckpmijdckocaaDoor.K LX
attribute [local go_sem] Oper.semAt_some
set_option maxHeartbeats 8000000
set_option maxRecDepth 100000
def enc35 (x : S35) : List Value := [.int .i64 x.f0, .string x.f1, .int .i64 x.f2, .int .i64 x.f3]
/-- The scanner's block and its row of tokens. -/
structure Sc (src : ByteArray) (sb : Nat) (at_ : Nat) (l : List S35) (A : Option Addr) (cap : Nat) (W : World) : Prop where
  blk : W.heap[sb]? = some (.cells (scC src at_ (.slice A l.length cap)) 49 (0, 0))
  own : W.ownsRow (sb + 1) 35 4 (.slice A l.length cap) l.length (l.flatMap enc35)
  len : l.length ≤ at_
theorem Sc.below {src : ByteArray} {sb at_ : Nat} {l : List S35} {A : Option Addr} {cap : Nat} {W W' : World} (h : Sc src sb at_ l A cap W) (hb : Below W.heap.size W W') : Sc src sb at_ l A cap W' :=
  ⟨blk_below h.blk hb, pw_own_below h.own hb, h.len⟩
theorem Sc.lt {src : ByteArray} {sb at_ : Nat} {l : List S35} {A : Option Addr} {cap : Nat} {W : World} (h : Sc src sb at_ l A cap W) : sb ≤ W.heap.size := Nat.le_of_lt (blk_lt h.blk)
/-- What a panic of the scanner throws. -/
abbrev thrown (p : Nat) : List PanicEntry := [{ v := .iface 42 (.int .i64 (p : Int)), recovered := false }]
theorem below_mono {B B' : Nat} {w w' : World} (h : Below B w w') (hB : B' ≤ B) : Below B' w w' := ⟨h.os, h.tape, h.output, h.size, fun k hk => h.block k (by omega)⟩
theorem add_bad (src : ByteArray) (sb at_ : Nat) (l : List S35) (A : Option Addr) (cap : Nat) (x : S35) (text : ByteArray) (hv : validB x = false) (w : World) (hS : Sc src sb at_ l A cap w) :
    Calls Tryd.prog 44 #[.pointer (some ⟨sb, 0, none⟩), .string text, .agg #[.int .i64 x.f0, .string x.f1, .int .i64 x.f2, .int .i64 x.f3]] w fun e w' => e = .panicked (thrown at_) ∧ Below w.heap.size w w' := by
  have c1 := blk_cell hS.blk 1
  simp only [List.getElem?_toArray, List.getElem?_cons_zero, List.getElem?_cons_succ] at c1
  have hva := fun W => valid_at x W
  rw [hv] at hva
  have HVA := Aside0.mk hva
  clear hva hv hS
  go_enter Tryd.func44, Tryd.ntmps44
  go_wp2_with fail
  refine (HVA.out _).mono ?_
  rintro e w1 ⟨rfl, hb1⟩
  have hb2 := below_then (below_alloc (Below.refl w.heap.size w) (.cells #[.int .i64 x.f0, .string x.f1, .int .i64 x.f2, .int .i64 x.f3] 35)) (below_alloc (Below.refl w.heap.size w) _).size hb1
  have d1 := pw_cell_below hb2 c1
  have HB2 := Aside0.mk hb2
  clear hb1 hb2 c1 HVA
  go_wp2_with fail
  exact ⟨rfl, rfl, HB2.out⟩
theorem add_ok (src : ByteArray) (sb at_ : Nat) (hat : at_ ≤ 65536) (l : List S35) (A : Option Addr) (cap : Nat) (x : S35) (text : ByteArray) (htx : text.size ≤ 65536) (hv : validB x = true) (w : World) (hS : Sc src sb at_ l A cap w) (hsb : sb < w.heap.size) :
    Calls Tryd.prog 44 #[.pointer (some ⟨sb, 0, none⟩), .string text, .agg #[.int .i64 x.f0, .string x.f1, .int .i64 x.f2, .int .i64 x.f3]] w fun e w' => e = .returned (.tuple #[]) ∧ (0 < text.size → ∃ A' cap', Sc src sb (at_ + text.size) (l ++ [⟨x.f0, x.f1, x.f2, (at_ : Int)⟩]) A' cap' w') ∧ Below sb w w' := by
  have hva := fun W => valid_at x W
  rw [hv] at hva
  have HVA := Aside0.mk hva
  have c1 := blk_cell hS.blk 1
  simp only [List.getElem?_toArray, List.getElem?_cons_zero, List.getElem?_cons_succ] at c1
  have HS := Aside0.mk hS
  have HLT := Aside0.mk (own_lt hS.own)
  clear hva hv hS
  go_enter Tryd.func44, Tryd.ntmps44
  go_wp2_with fail
  refine (HVA.out _).mono ?_
  rintro e w1 ⟨rfl, hb1⟩
  have e5 := (hb1.block w.heap.size (by simp)).trans (blk_new w (.cells #[.int .i64 x.f0, .string x.f1, .int .i64 x.f2, .int .i64 x.f3] 35))
  have hb2 := below_then (below_alloc (Below.refl w.heap.size w) (.cells #[.int .i64 x.f0, .string x.f1, .int .i64 x.f2, .int .i64 x.f3] 35)) (below_alloc (Below.refl w.heap.size w) _).size hb1
  have d1 := pw_cell_below hb2 c1
  have d5 := blk_cell e5 3
  have f5 := blk_frozen e5 3
  simp only [List.getElem?_toArray, List.getElem?_cons_zero, List.getElem?_cons_succ] at d5
  have hS1 := HS.out.below hb2
  have HS1 := Aside0.mk hS1
  have HB2 := Aside0.mk hb2
  have E5 := Aside0.mk e5
  clear hb1 hb2 c1 HVA e5 HS hS1
  go_wp2_with fail
  have hsz2 : w.heap.size < w1.heap.size := blk_lt E5.out
  have hne : w.heap.size ≠ sb := by omega
  have hob : some w.heap.size ≠ (Value.slice A l.length cap).ownBlock := fun e => by
    have := HLT.out _ e.symm
    omega
  obtain ⟨W2, hW2⟩ : ∃ W2, w1.setCell ⟨w.heap.size, 3, none⟩ (.int .i64 (at_ : Int)) = W2 := ⟨_, rfl⟩
  have hbk : W2.heap[sb]? = some (.cells (scC src at_ (.slice A l.length cap)) 49 (0, 0)) := by rw [← hW2]; exact blk_far HS1.out.blk (p := ⟨w.heap.size, 3, none⟩) (Ne.symm hne) (.int .i64 (at_ : Int))
  have how : W2.ownsRow (sb + 1) 35 4 (.slice A l.length cap) l.length (l.flatMap enc35) := by rw [← hW2]; exact own_setCell HS1.out.own (p := ⟨w.heap.size, 3, none⟩) hob (.int .i64 (at_ : Int))
  have htb : W2.heap[w.heap.size]? = some (.cells #[.int .i64 x.f0, .string x.f1, .int .i64 x.f2, .int .i64 (at_ : Int)] 35 (0, 0)) := by
    have h := blk_set E5.out 3 (.int .i64 (at_ : Int))
    rw [hW2] at h
    exact h
  have hb3 : Below w.heap.size w W2 := by rw [← hW2]; exact below_set HB2.out (Nat.le_refl _)
  obtain ⟨tb, hT⟩ : ∃ tb, w.heap.size = tb := ⟨_, rfl⟩
  have hz2 : sb + 1 ≤ W2.heap.size := by have := hb3.size; omega
  have hzz : w.heap.size ≤ W2.heap.size := hb3.size
  rw [hT] at hob htb hne hsz2 hsb hzz
  rw [hW2, hT]
  have hll : l.length ≤ 65536 := Nat.le_trans HS1.out.len hat
  have hln := HS1.out.len
  clear HS1 E5 HB2 d5 f5 d1 HLT hW2
  have t0 := blk_cell htb 0
  have t1 := blk_cell htb 1
  have t2 := blk_cell htb 2
  have t3 := blk_cell htb 3
  have s2 := blk_cell hbk 2
  have z2 := blk_frozen hbk 2
  simp only [List.getElem?_toArray, List.getElem?_cons_zero, List.getElem?_cons_succ] at t0 t1 t2 t3 s2
  have hbs : some sb ≠ (Value.slice A l.length cap).ownBlock := fun e => by have := own_base how sb e.symm; omega
  have hlt1 := blk_lt hbk
  have hlt2 := blk_lt htb
  have HBK := Aside0.mk hbk
  have HTB := Aside0.mk htb
  have HB3 := Aside0.mk hb3
  have HOW := Aside0.mk how
  have HT := Aside0.mk hT
  obtain ⟨N, hN⟩ : ∃ N, l.length = N := ⟨_, rfl⟩
  obtain ⟨xs, hxs⟩ : ∃ xs, l.flatMap enc35 = xs := ⟨_, rfl⟩
  rw [hN] at hob hbs hll hln s2
  rw [hN, hxs] at HOW
  have HNX := Aside0.mk (And.intro hN hxs)
  obtain ⟨i0, hi0, hz0, hz1, hzb⟩ := info_parts info35
  clear hbk htb hb3 how hT hN hxs
  go_region_law
    ((refine step_append_lies _ (by rfl) _ _ _ (by rfl) (sb + 1) 35 i0 _ 4 40 Tryd.underlying23 hi0 hz0 hz1 hzb rfl (by omega) (.slice A N cap) N xs (by rfl) ((HOW.out.alloc _).drew)
        ⟨W2.heap.size, 0, none⟩ 1 1 [.int .i64 x.f0, .string x.f1, .int .i64 x.f2, .int .i64 (at_ : Int)] (by rfl) (by rfl) (World.news_of_block (cs := #[.int .i64 x.f0, .string x.f1, .int .i64 x.f2, .int .i64 (at_ : Int)]) (t := 35) (fr := (0, 0)) (heap_alloc_new W2 _)) (by simp [Value.oneCell'])
        (by omega) (by simp only [maxLen]; omega) (by omega) (by simp; omega) (W2.heap.size + 1) (by simp) ?_; intro gg cap' w4 hown1 hgrow hat4 hlt4
      have bk4 := blk_grown (blk_drew (blk_alloc HBK.out (.cells #[.int .i64 x.f0, .string x.f1, .int .i64 x.f2, .int .i64 (at_ : Int)] 35))) hgrow hbs
      have fz4 := blk_frozen bk4 2
      have cz4 := blk_cell bk4 2
      simp only [List.getElem?_toArray, List.getElem?_cons_zero, List.getElem?_cons_succ] at cz4
      have BK4 := Aside0.mk bk4
      have OW4 := Aside0.mk hown1
      have GR4 := Aside0.mk hgrow
      clear bk4 hown1 hgrow))
  all_goals
    have W5b := blk_set BK4.out 2 (.slice (some ⟨gg, 0, none⟩) (N + 1) cap')
    simp only [List.setIfInBounds_toArray, List.set_cons_succ, List.set_cons_zero] at W5b
    have hog : gg ≠ sb := fun e => by
      rcases hat4 with h | h
      · exact hbs (by rw [h, e])
      · omega
    have ow5 := own_setCell OW4.out (p := ⟨sb, 2, none⟩) (fun e => hog (by simpa [Value.ownBlock] using e.symm)) (.slice (some ⟨gg, 0, none⟩) (N + 1) cap')
    have hb4 : Below sb w w4 := ((below_mono HB3.out (by have := HT.out; omega)).trans (below_alloc (Below.refl W2.heap.size W2) (.cells #[.int .i64 x.f0, .string x.f1, .int .i64 x.f2, .int .i64 (at_ : Int)] 35) |>.drew |> fun h => below_mono h (by omega))).grown GR4.out (by simp; omega) (fun k hk => by have := own_base HOW.out k hk; omega)
    have hb5 : Below sb w (w4.setCell ⟨sb, 2, none⟩ (.slice (some ⟨gg, 0, none⟩) (N + 1) cap')) := hb4.setCell (Nat.le_refl _) _
    obtain ⟨W5, hW5⟩ : ∃ W5, w4.setCell ⟨sb, 2, none⟩ (.slice (some ⟨gg, 0, none⟩) (N + 1) cap') = W5 := ⟨_, rfl⟩
    rw [hW5] at W5b ow5 hb5 ⊢
    have s1 := blk_cell W5b 1
    have z1 := blk_frozen W5b 1
    simp only [List.getElem?_toArray, List.getElem?_cons_zero, List.getElem?_cons_succ] at s1
    have BK5 := Aside0.mk W5b
    have OW5 := Aside0.mk ow5
    have HB5 := Aside0.mk hb5
    have HOG := Aside0.mk hog
    have HTX := Aside0.mk htx
    have hat0 : (0 : Int) ≤ (at_ : Int) := by omega
    have hat1 : (at_ : Int) ≤ 65536 := by omega
    have htx0 : (0 : Int) ≤ (text.size : Int) := by omega
    have htx1 : (text.size : Int) ≤ 65536 := by omega
    clear W5b ow5 hb5 hb4 hog hW5 hat4 hlt4 fz4 cz4 BK4 OW4 GR4 t0 t1 t2 t3 s2 z2 hob hbs
    go_wp2_with fail
    refine bodyPost_end (v := .tuple #[]) (by simp [results, Tryd.results44, go_sem]) rfl ⟨rfl, fun hp => ⟨some ⟨gg, 0, none⟩, cap', ?_, ?_, ?_⟩, HB5.out.setCell (Nat.le_refl _) _⟩
    · have h := blk_set BK5.out 1 (.int .i64 ((at_ : Int) + (text.size : Int)))
      simp only [List.setIfInBounds_toArray, List.set_cons_succ, List.set_cons_zero] at h
      rw [h, scC, Int.natCast_add, List.length_append, HNX.out.1]
      rfl
    · have h := own_setCell OW5.out (p := ⟨sb, 1, none⟩) (fun e => HOG.out (by simpa [Value.ownBlock] using e.symm)) (.int .i64 ((at_ : Int) + (text.size : Int)))
      rw [List.length_append, HNX.out.1, List.flatMap_append, HNX.out.2]
      exact h
    · rw [List.length_append, HNX.out.1]
      show N + 1 ≤ at_ + text.size
      omega
end LS
end Go.Proofs.YtcckpmijdckocaaDoor.X
