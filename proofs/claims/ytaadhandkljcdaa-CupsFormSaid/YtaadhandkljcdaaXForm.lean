/- Proved here: CupsForm's law function returns true, for every number -/
import Derived.Test.YtaadhandkljcdaaX0
import Derived.Test.YtaadhandkljcdaaX3
import Derived.Test.YtaadhandkljcdaaX9
import Derived.Test.YtaadhandkljcdaaXForm0
namespace Go.Proofs.Ytaadhandkljcdaa.X
open Go.RowKit Go.Proofs.YtaadhandkljcdaaW.PrintWords Go.Proofs.YtaadhandkljcdaaW.PrintLast Go.Proofs.YtaadhandkljcdaaW.PrintMore
attribute [local go_sem] max2_int min2_int max_two min_two max_three min_three max_four min_four
set_option linter.unusedVariables false
set_option linter.unusedSimpArgs false
namespace CF
open Go.Proofs.Ytaadhandkljcdaa.K CM CB
attribute [local go_sem] Oper.semAt_some
set_option maxRecDepth 100000 in
set_option maxHeartbeats 16000000 in
theorem form_good (n : Nat) (h2 : 2 ≤ n) (h64 : n ≤ 64) (w : World) : Calls Try.prog 6 #[.int .i64 (n : Int)] w fun e w' => e = .returned (.bool true) ∧ Below w.heap.size w w' := by
  obtain ⟨i3, hi, hz0, hz1, hz2⟩ := info_parts info3
  have hfm := fm h2 h64
  have hmk := fun (m : Nat) (hm : m ≤ 64) (W : World) => run_make (P := Try.prog) (w := W) 32 3 i3 _ Try.underlying32 hi hz0 .i64 .i64 (m : Int) (m : Int) (by omega) (by omega) (by rw [hz2]; omega) (by omega)
  simp only [Int.toNat_natCast, hz1, Value.cells, made_ints] at hmk
  obtain ⟨L, hL⟩ : ∃ L, n - 1 = L := ⟨_, rfl⟩
  have hmkN := hmk n h64
  have hmkL := hmk L (by omega)
  have HFM := Aside0.mk hfm
  have HLN := Aside0.mk hL
  have hL2 : (CK.ties n).length = L := by rw [hfm.len, hL]
  have HL := Aside0.mk hL2
  have HR := Aside0.mk (rounds_val h2 h64)
  clear hfm hL2 hmk
  go_enter Try.func6, Try.ntmps6
  go_wp2_with fail
  refine (fastilaw23_sane.calls true w rfl).mono ?_
  rintro e w1 ⟨rfl, hb1⟩
  have HB1 := Aside0.mk hb1
  clear hb1
  go_wp2_with fail
  refine (CK.make_good n h2 h64 w1).mono ?_
  rintro e w2 ⟨V, rfl, ho2, hb2⟩
  rw [HL.out] at ho2
  obtain ⟨At, ct, rfl⟩ := own_slice ho2
  have HO2 := Aside0.mk (own_weaken ho2 HB1.out.size)
  have HB2 := Aside0.mk (below_then HB1.out HB1.out.size hb2)
  clear ho2 hb2
  go_wp2_with fail
  refine (cups_Rounds.calls (n : Int) (CK.rr n : Int) (byS n) 0 w2 HR.out).mono ?_
  rintro e w3 ⟨rfl, ⟨n3, rfl⟩⟩
  obtain ⟨B, hB⟩ : ∃ B, byS n = B := ⟨_, rfl⟩
  have HBY := Aside0.mk hB
  rw [hB]
  obtain ⟨W3, hW3⟩ : ∃ W3, w2.drewN n3 = W3 := ⟨_, rfl⟩
  have ho3 := own_move (w1 := W3) HO2.out (fun _ _ => by rw [← hW3]; rfl)
  have hb3 : Below w.heap.size w W3 := by rw [← hW3]; exact pw_below_drewN HB2.out n3
  rw [hW3]
  have hnL : (n : Int) - 1 = (L : Int) := by omega
  have hnw : wrap64 ((n : Int) - 1) = (L : Int) := by rw [w64 (by omega) (by omega)]; exact hnL
  have HO3 := Aside0.mk ho3
  have HB3 := Aside0.mk hb3
  clear hB hW3 ho3 hb3 HR
  go_wp2_with fail
  obtain ⟨gS, hgS⟩ : ∃ g, W3.heap.size = g := ⟨_, rfl⟩
  obtain ⟨W5, hW5⟩ : ∃ W, (W3.alloc (.cells (nums .i64 (List.replicate n 0)).toArray 3)).alloc (.cells (nums .i64 (List.replicate L 0)).toArray 3) = W := ⟨_, rfl⟩
  have hF5 : Fs n L w W5 At ct gS (gS + 1) (st n 0) := by
    have hzz := HB3.out.size
    rw [← hW5]
    refine ⟨(HO3.out.alloc _).alloc _, ?_, ?_, below_alloc (below_alloc HB3.out _) _, by omega, by omega, by omega⟩
    · exact blk_alloc (blk_at W3 _ hgS.symm) _
    · have := blk_at (W3.alloc (.cells (nums .i64 (List.replicate n 0)).toArray 3)) (.cells (nums .i64 (List.replicate L 0)).toArray 3) (k := gS + 1) (by simp [hgS])
      rw [this, st, HLN.out]
  have HF5 := Aside0.mk hF5
  rw [hgS, hW5]
  obtain ⟨gW, hgW⟩ : ∃ g, gS + 1 = g := ⟨_, rfl⟩
  rw [hgW] at HF5 ⊢
  clear hmkN hmkL hgS hgW hW5 hF5 HO3 HB3 HO2 HB2 hnw
  refine wp_loop_ghost_k (fun m a W => ∃ (i : Nat) (u : Nat → Value), m = L - i ∧ i ≤ L ∧ Fs n L w W At ct gS gW (st n i) ∧ a = { tmps := List.toArray ((.int .i64 (n : Int) : Value) :: u 1 :: u 2 :: (.slice At L ct : Value) :: u 4 :: (.int .i64 (CK.rr n : Int) : Value) :: (.int .i64 B : Value) :: u 7 :: (.slice (some ⟨gS, 0, none⟩) n n : Value) :: (.slice (some ⟨gW, 0, none⟩) L L : Value) :: (.int .i64 (i : Int) : Value) :: u 11 :: u 12 :: u 13 :: u 14 :: u 15 :: u 16 :: u 17 :: u 18 :: u 19 :: u 20 :: u 21 :: u 22 :: u 23 :: u 24 :: u 25 :: u 26 :: u 27 :: u 28 :: u 29 :: u 30 :: u 31 :: u 32 :: u 33 :: u 34 :: u 35 :: u 36 :: u 37 :: u 38 :: u 39 :: u 40 :: u 41 :: u 42 :: u 43 :: u 44 :: u 45 :: u 46 :: u 47 :: u 48 :: u 49 :: u 50 :: u 51 :: u 52 :: u 53 :: u 54 :: u 55 :: u 56 :: u 57 :: u 58 :: u 59 :: u 60 :: u 61 :: u 62 :: u 63 :: u 64 :: u 65 :: u 66 :: u 67 :: u 68 :: u 69 :: u 70 :: u 71 :: u 72 :: u 73 :: u 74 :: u 75 :: u 76 :: u 77 :: u 78 :: u 79 :: u 80 :: u 81 :: u 82 :: u 83 :: u 84 :: u 85 :: u 86 :: u 87 :: u 88 :: u 89 :: u 90 :: u 91 :: u 92 :: u 93 :: u 94 :: u 95 :: u 96 :: u 97 :: u 98 :: u 99 :: u 100 :: u 101 :: u 102 :: u 103 :: u 104 :: u 105 :: u 106 :: u 107 :: u 108 :: u 109 :: u 110 :: u 111 :: u 112 :: u 113 :: u 114 :: u 115 :: u 116 :: u 117 :: u 118 :: u 119 :: u 120 :: u 121 :: u 122 :: u 123 :: u 124 :: u 125 :: u 126 :: u 127 :: u 128 :: u 129 :: u 130 :: u 131 :: u 132 :: u 133 :: u 134 :: u 135 :: u 136 :: u 137 :: u 138 :: u 139 :: u 140 :: u 141 :: u 142 :: u 143 :: u 144 :: u 145 :: u 146 :: u 147 :: u 148 :: u 149 :: u 150 :: u 151 :: u 152 :: u 153 :: u 154 :: u 155 :: u 156 :: u 157 :: u 158 :: u 159 :: u 160 :: u 161 :: u 162 :: u 163 :: u 164 :: u 165 :: u 166 :: u 167 :: u 168 :: u 169 :: u 170 :: u 171 :: u 172 :: u 173 :: u 174 :: u 175 :: u 176 :: u 177 :: u 178 :: u 179 :: u 180 :: u 181 :: u 182 :: u 183 :: u 184 :: u 185 :: u 186 :: u 187 :: u 188 :: u 189 :: u 190 :: u 191 :: u 192 :: u 193 :: u 194 :: u 195 :: u 196 :: u 197 :: u 198 :: u 199 :: u 200 :: u 201 :: u 202 :: u 203 :: u 204 :: u 205 :: u 206 :: u 207 :: u 208 :: u 209 :: u 210 :: u 211 :: u 212 :: u 213 :: u 214 :: u 215 :: u 216 :: u 217 :: u 218 :: u 219 :: u 220 :: u 221 :: u 222 :: u 223 :: u 224 :: u 225 :: u 226 :: u 227 :: u 228 :: u 229 :: u 230 :: u 231 :: u 232 :: u 233 :: u 234 :: u 235 :: u 236 :: u 237 :: u 238 :: u 239 :: u 240 :: u 241 :: u 242 :: u 243 :: u 244 :: []), defers := [] }) L ?start ?round
  case start =>
    have sta : ∀ T : Array Value, T = List.toArray ((.int .i64 (n : Int) : Value) :: T.getD 1 undef :: T.getD 2 undef :: (.slice At L ct : Value) :: T.getD 4 undef :: (.int .i64 (CK.rr n : Int) : Value) :: (.int .i64 B : Value) :: T.getD 7 undef :: (.slice (some ⟨gS, 0, none⟩) n n : Value) :: (.slice (some ⟨gW, 0, none⟩) L L : Value) :: (.int .i64 0 : Value) :: T.getD 11 undef :: T.getD 12 undef :: T.getD 13 undef :: T.getD 14 undef :: T.getD 15 undef :: T.getD 16 undef :: T.getD 17 undef :: T.getD 18 undef :: T.getD 19 undef :: T.getD 20 undef :: T.getD 21 undef :: T.getD 22 undef :: T.getD 23 undef :: T.getD 24 undef :: T.getD 25 undef :: T.getD 26 undef :: T.getD 27 undef :: T.getD 28 undef :: T.getD 29 undef :: T.getD 30 undef :: T.getD 31 undef :: T.getD 32 undef :: T.getD 33 undef :: T.getD 34 undef :: T.getD 35 undef :: T.getD 36 undef :: T.getD 37 undef :: T.getD 38 undef :: T.getD 39 undef :: T.getD 40 undef :: T.getD 41 undef :: T.getD 42 undef :: T.getD 43 undef :: T.getD 44 undef :: T.getD 45 undef :: T.getD 46 undef :: T.getD 47 undef :: T.getD 48 undef :: T.getD 49 undef :: T.getD 50 undef :: T.getD 51 undef :: T.getD 52 undef :: T.getD 53 undef :: T.getD 54 undef :: T.getD 55 undef :: T.getD 56 undef :: T.getD 57 undef :: T.getD 58 undef :: T.getD 59 undef :: T.getD 60 undef :: T.getD 61 undef :: T.getD 62 undef :: T.getD 63 undef :: T.getD 64 undef :: T.getD 65 undef :: T.getD 66 undef :: T.getD 67 undef :: T.getD 68 undef :: T.getD 69 undef :: T.getD 70 undef :: T.getD 71 undef :: T.getD 72 undef :: T.getD 73 undef :: T.getD 74 undef :: T.getD 75 undef :: T.getD 76 undef :: T.getD 77 undef :: T.getD 78 undef :: T.getD 79 undef :: T.getD 80 undef :: T.getD 81 undef :: T.getD 82 undef :: T.getD 83 undef :: T.getD 84 undef :: T.getD 85 undef :: T.getD 86 undef :: T.getD 87 undef :: T.getD 88 undef :: T.getD 89 undef :: T.getD 90 undef :: T.getD 91 undef :: T.getD 92 undef :: T.getD 93 undef :: T.getD 94 undef :: T.getD 95 undef :: T.getD 96 undef :: T.getD 97 undef :: T.getD 98 undef :: T.getD 99 undef :: T.getD 100 undef :: T.getD 101 undef :: T.getD 102 undef :: T.getD 103 undef :: T.getD 104 undef :: T.getD 105 undef :: T.getD 106 undef :: T.getD 107 undef :: T.getD 108 undef :: T.getD 109 undef :: T.getD 110 undef :: T.getD 111 undef :: T.getD 112 undef :: T.getD 113 undef :: T.getD 114 undef :: T.getD 115 undef :: T.getD 116 undef :: T.getD 117 undef :: T.getD 118 undef :: T.getD 119 undef :: T.getD 120 undef :: T.getD 121 undef :: T.getD 122 undef :: T.getD 123 undef :: T.getD 124 undef :: T.getD 125 undef :: T.getD 126 undef :: T.getD 127 undef :: T.getD 128 undef :: T.getD 129 undef :: T.getD 130 undef :: T.getD 131 undef :: T.getD 132 undef :: T.getD 133 undef :: T.getD 134 undef :: T.getD 135 undef :: T.getD 136 undef :: T.getD 137 undef :: T.getD 138 undef :: T.getD 139 undef :: T.getD 140 undef :: T.getD 141 undef :: T.getD 142 undef :: T.getD 143 undef :: T.getD 144 undef :: T.getD 145 undef :: T.getD 146 undef :: T.getD 147 undef :: T.getD 148 undef :: T.getD 149 undef :: T.getD 150 undef :: T.getD 151 undef :: T.getD 152 undef :: T.getD 153 undef :: T.getD 154 undef :: T.getD 155 undef :: T.getD 156 undef :: T.getD 157 undef :: T.getD 158 undef :: T.getD 159 undef :: T.getD 160 undef :: T.getD 161 undef :: T.getD 162 undef :: T.getD 163 undef :: T.getD 164 undef :: T.getD 165 undef :: T.getD 166 undef :: T.getD 167 undef :: T.getD 168 undef :: T.getD 169 undef :: T.getD 170 undef :: T.getD 171 undef :: T.getD 172 undef :: T.getD 173 undef :: T.getD 174 undef :: T.getD 175 undef :: T.getD 176 undef :: T.getD 177 undef :: T.getD 178 undef :: T.getD 179 undef :: T.getD 180 undef :: T.getD 181 undef :: T.getD 182 undef :: T.getD 183 undef :: T.getD 184 undef :: T.getD 185 undef :: T.getD 186 undef :: T.getD 187 undef :: T.getD 188 undef :: T.getD 189 undef :: T.getD 190 undef :: T.getD 191 undef :: T.getD 192 undef :: T.getD 193 undef :: T.getD 194 undef :: T.getD 195 undef :: T.getD 196 undef :: T.getD 197 undef :: T.getD 198 undef :: T.getD 199 undef :: T.getD 200 undef :: T.getD 201 undef :: T.getD 202 undef :: T.getD 203 undef :: T.getD 204 undef :: T.getD 205 undef :: T.getD 206 undef :: T.getD 207 undef :: T.getD 208 undef :: T.getD 209 undef :: T.getD 210 undef :: T.getD 211 undef :: T.getD 212 undef :: T.getD 213 undef :: T.getD 214 undef :: T.getD 215 undef :: T.getD 216 undef :: T.getD 217 undef :: T.getD 218 undef :: T.getD 219 undef :: T.getD 220 undef :: T.getD 221 undef :: T.getD 222 undef :: T.getD 223 undef :: T.getD 224 undef :: T.getD 225 undef :: T.getD 226 undef :: T.getD 227 undef :: T.getD 228 undef :: T.getD 229 undef :: T.getD 230 undef :: T.getD 231 undef :: T.getD 232 undef :: T.getD 233 undef :: T.getD 234 undef :: T.getD 235 undef :: T.getD 236 undef :: T.getD 237 undef :: T.getD 238 undef :: T.getD 239 undef :: T.getD 240 undef :: T.getD 241 undef :: T.getD 242 undef :: T.getD 243 undef :: T.getD 244 undef :: []) → ∃ (i : Nat) (u : Nat → Value), L = L - i ∧ i ≤ L ∧ Fs n L w W5 At ct gS gW (st n i) ∧ (Act.mk T []) = { tmps := List.toArray ((.int .i64 (n : Int) : Value) :: u 1 :: u 2 :: (.slice At L ct : Value) :: u 4 :: (.int .i64 (CK.rr n : Int) : Value) :: (.int .i64 B : Value) :: u 7 :: (.slice (some ⟨gS, 0, none⟩) n n : Value) :: (.slice (some ⟨gW, 0, none⟩) L L : Value) :: (.int .i64 (i : Int) : Value) :: u 11 :: u 12 :: u 13 :: u 14 :: u 15 :: u 16 :: u 17 :: u 18 :: u 19 :: u 20 :: u 21 :: u 22 :: u 23 :: u 24 :: u 25 :: u 26 :: u 27 :: u 28 :: u 29 :: u 30 :: u 31 :: u 32 :: u 33 :: u 34 :: u 35 :: u 36 :: u 37 :: u 38 :: u 39 :: u 40 :: u 41 :: u 42 :: u 43 :: u 44 :: u 45 :: u 46 :: u 47 :: u 48 :: u 49 :: u 50 :: u 51 :: u 52 :: u 53 :: u 54 :: u 55 :: u 56 :: u 57 :: u 58 :: u 59 :: u 60 :: u 61 :: u 62 :: u 63 :: u 64 :: u 65 :: u 66 :: u 67 :: u 68 :: u 69 :: u 70 :: u 71 :: u 72 :: u 73 :: u 74 :: u 75 :: u 76 :: u 77 :: u 78 :: u 79 :: u 80 :: u 81 :: u 82 :: u 83 :: u 84 :: u 85 :: u 86 :: u 87 :: u 88 :: u 89 :: u 90 :: u 91 :: u 92 :: u 93 :: u 94 :: u 95 :: u 96 :: u 97 :: u 98 :: u 99 :: u 100 :: u 101 :: u 102 :: u 103 :: u 104 :: u 105 :: u 106 :: u 107 :: u 108 :: u 109 :: u 110 :: u 111 :: u 112 :: u 113 :: u 114 :: u 115 :: u 116 :: u 117 :: u 118 :: u 119 :: u 120 :: u 121 :: u 122 :: u 123 :: u 124 :: u 125 :: u 126 :: u 127 :: u 128 :: u 129 :: u 130 :: u 131 :: u 132 :: u 133 :: u 134 :: u 135 :: u 136 :: u 137 :: u 138 :: u 139 :: u 140 :: u 141 :: u 142 :: u 143 :: u 144 :: u 145 :: u 146 :: u 147 :: u 148 :: u 149 :: u 150 :: u 151 :: u 152 :: u 153 :: u 154 :: u 155 :: u 156 :: u 157 :: u 158 :: u 159 :: u 160 :: u 161 :: u 162 :: u 163 :: u 164 :: u 165 :: u 166 :: u 167 :: u 168 :: u 169 :: u 170 :: u 171 :: u 172 :: u 173 :: u 174 :: u 175 :: u 176 :: u 177 :: u 178 :: u 179 :: u 180 :: u 181 :: u 182 :: u 183 :: u 184 :: u 185 :: u 186 :: u 187 :: u 188 :: u 189 :: u 190 :: u 191 :: u 192 :: u 193 :: u 194 :: u 195 :: u 196 :: u 197 :: u 198 :: u 199 :: u 200 :: u 201 :: u 202 :: u 203 :: u 204 :: u 205 :: u 206 :: u 207 :: u 208 :: u 209 :: u 210 :: u 211 :: u 212 :: u 213 :: u 214 :: u 215 :: u 216 :: u 217 :: u 218 :: u 219 :: u 220 :: u 221 :: u 222 :: u 223 :: u 224 :: u 225 :: u 226 :: u 227 :: u 228 :: u 229 :: u 230 :: u 231 :: u 232 :: u 233 :: u 234 :: u 235 :: u 236 :: u 237 :: u 238 :: u 239 :: u 240 :: u 241 :: u 242 :: u 243 :: u 244 :: []), defers := [] } := fun T hT =>
      ⟨0, fun i => T.getD i undef, rfl, Nat.zero_le _, HF5.out, congrArg (fun T => (Act.mk T _)) hT⟩
    exact sta _ rfl
  case round =>
    rintro m a W ⟨i, u, rfl, hi', hF, rfl⟩ J K hJ hK
    clear HF5
    have HF := Aside0.mk hF
    by_cases hiL : i < L
    · have fin : ∀ (T : Array Value) (W' : World), T = List.toArray ((.int .i64 (n : Int) : Value) :: T.getD 1 undef :: T.getD 2 undef :: (.slice At L ct : Value) :: T.getD 4 undef :: (.int .i64 (CK.rr n : Int) : Value) :: (.int .i64 B : Value) :: T.getD 7 undef :: (.slice (some ⟨gS, 0, none⟩) n n : Value) :: (.slice (some ⟨gW, 0, none⟩) L L : Value) :: (.int .i64 ((i : Int) + 1) : Value) :: T.getD 11 undef :: T.getD 12 undef :: T.getD 13 undef :: T.getD 14 undef :: T.getD 15 undef :: T.getD 16 undef :: T.getD 17 undef :: T.getD 18 undef :: T.getD 19 undef :: T.getD 20 undef :: T.getD 21 undef :: T.getD 22 undef :: T.getD 23 undef :: T.getD 24 undef :: T.getD 25 undef :: T.getD 26 undef :: T.getD 27 undef :: T.getD 28 undef :: T.getD 29 undef :: T.getD 30 undef :: T.getD 31 undef :: T.getD 32 undef :: T.getD 33 undef :: T.getD 34 undef :: T.getD 35 undef :: T.getD 36 undef :: T.getD 37 undef :: T.getD 38 undef :: T.getD 39 undef :: T.getD 40 undef :: T.getD 41 undef :: T.getD 42 undef :: T.getD 43 undef :: T.getD 44 undef :: T.getD 45 undef :: T.getD 46 undef :: T.getD 47 undef :: T.getD 48 undef :: T.getD 49 undef :: T.getD 50 undef :: T.getD 51 undef :: T.getD 52 undef :: T.getD 53 undef :: T.getD 54 undef :: T.getD 55 undef :: T.getD 56 undef :: T.getD 57 undef :: T.getD 58 undef :: T.getD 59 undef :: T.getD 60 undef :: T.getD 61 undef :: T.getD 62 undef :: T.getD 63 undef :: T.getD 64 undef :: T.getD 65 undef :: T.getD 66 undef :: T.getD 67 undef :: T.getD 68 undef :: T.getD 69 undef :: T.getD 70 undef :: T.getD 71 undef :: T.getD 72 undef :: T.getD 73 undef :: T.getD 74 undef :: T.getD 75 undef :: T.getD 76 undef :: T.getD 77 undef :: T.getD 78 undef :: T.getD 79 undef :: T.getD 80 undef :: T.getD 81 undef :: T.getD 82 undef :: T.getD 83 undef :: T.getD 84 undef :: T.getD 85 undef :: T.getD 86 undef :: T.getD 87 undef :: T.getD 88 undef :: T.getD 89 undef :: T.getD 90 undef :: T.getD 91 undef :: T.getD 92 undef :: T.getD 93 undef :: T.getD 94 undef :: T.getD 95 undef :: T.getD 96 undef :: T.getD 97 undef :: T.getD 98 undef :: T.getD 99 undef :: T.getD 100 undef :: T.getD 101 undef :: T.getD 102 undef :: T.getD 103 undef :: T.getD 104 undef :: T.getD 105 undef :: T.getD 106 undef :: T.getD 107 undef :: T.getD 108 undef :: T.getD 109 undef :: T.getD 110 undef :: T.getD 111 undef :: T.getD 112 undef :: T.getD 113 undef :: T.getD 114 undef :: T.getD 115 undef :: T.getD 116 undef :: T.getD 117 undef :: T.getD 118 undef :: T.getD 119 undef :: T.getD 120 undef :: T.getD 121 undef :: T.getD 122 undef :: T.getD 123 undef :: T.getD 124 undef :: T.getD 125 undef :: T.getD 126 undef :: T.getD 127 undef :: T.getD 128 undef :: T.getD 129 undef :: T.getD 130 undef :: T.getD 131 undef :: T.getD 132 undef :: T.getD 133 undef :: T.getD 134 undef :: T.getD 135 undef :: T.getD 136 undef :: T.getD 137 undef :: T.getD 138 undef :: T.getD 139 undef :: T.getD 140 undef :: T.getD 141 undef :: T.getD 142 undef :: T.getD 143 undef :: T.getD 144 undef :: T.getD 145 undef :: T.getD 146 undef :: T.getD 147 undef :: T.getD 148 undef :: T.getD 149 undef :: T.getD 150 undef :: T.getD 151 undef :: T.getD 152 undef :: T.getD 153 undef :: T.getD 154 undef :: T.getD 155 undef :: T.getD 156 undef :: T.getD 157 undef :: T.getD 158 undef :: T.getD 159 undef :: T.getD 160 undef :: T.getD 161 undef :: T.getD 162 undef :: T.getD 163 undef :: T.getD 164 undef :: T.getD 165 undef :: T.getD 166 undef :: T.getD 167 undef :: T.getD 168 undef :: T.getD 169 undef :: T.getD 170 undef :: T.getD 171 undef :: T.getD 172 undef :: T.getD 173 undef :: T.getD 174 undef :: T.getD 175 undef :: T.getD 176 undef :: T.getD 177 undef :: T.getD 178 undef :: T.getD 179 undef :: T.getD 180 undef :: T.getD 181 undef :: T.getD 182 undef :: T.getD 183 undef :: T.getD 184 undef :: T.getD 185 undef :: T.getD 186 undef :: T.getD 187 undef :: T.getD 188 undef :: T.getD 189 undef :: T.getD 190 undef :: T.getD 191 undef :: T.getD 192 undef :: T.getD 193 undef :: T.getD 194 undef :: T.getD 195 undef :: T.getD 196 undef :: T.getD 197 undef :: T.getD 198 undef :: T.getD 199 undef :: T.getD 200 undef :: T.getD 201 undef :: T.getD 202 undef :: T.getD 203 undef :: T.getD 204 undef :: T.getD 205 undef :: T.getD 206 undef :: T.getD 207 undef :: T.getD 208 undef :: T.getD 209 undef :: T.getD 210 undef :: T.getD 211 undef :: T.getD 212 undef :: T.getD 213 undef :: T.getD 214 undef :: T.getD 215 undef :: T.getD 216 undef :: T.getD 217 undef :: T.getD 218 undef :: T.getD 219 undef :: T.getD 220 undef :: T.getD 221 undef :: T.getD 222 undef :: T.getD 223 undef :: T.getD 224 undef :: T.getD 225 undef :: T.getD 226 undef :: T.getD 227 undef :: T.getD 228 undef :: T.getD 229 undef :: T.getD 230 undef :: T.getD 231 undef :: T.getD 232 undef :: T.getD 233 undef :: T.getD 234 undef :: T.getD 235 undef :: T.getD 236 undef :: T.getD 237 undef :: T.getD 238 undef :: T.getD 239 undef :: T.getD 240 undef :: T.getD 241 undef :: T.getD 242 undef :: T.getD 243 undef :: T.getD 244 undef :: []) → Fs n L w W' At ct gS gW (st n (i + 1)) → Handed J (L - i) { tmps := T, defers := [] } W' := fun T W' hT h1 =>
        ⟨L - (i + 1), by omega, hJ _ _ _ ⟨i + 1, fun i => T.getD i undef, rfl, by omega, h1, congrArg (fun T => (Act.mk T _)) hT⟩⟩
      obtain ⟨g, rfl, r0, ⟨u0, u1, u2⟩, u3, u4, u5⟩ := tie_at hF HL.out hiL
      have hrnd := HFM.out.rnd i (by have := HLN.out; omega)
      obtain ⟨R, hRR⟩ : ∃ R, (tie n i).f0 = R := ⟨_, rfl⟩
      rw [hRR] at r0 hrnd
      have HRR := Aside0.mk hRR
      have HU := Aside0.mk (And.intro (And.intro u0 (And.intro u1 u2)) (And.intro u3 (And.intro u4 u5)))
      clear hF hRR u0 u1 u2 u3 u4 u5
      go_upto_region 16 with (fail)
      go_cut [97] from 61 (fun v97 wd => v97 = .bool false ∧ ∃ k, wd = W.drewN k)
      case first =>
        by_cases hi0 : i = 0
        · have k1 : decide ((i : Int) > 0) = false := decide_eq_false (by omega)
          have k2 : decide (0 < (i : Int)) = false := decide_eq_false (by omega)
          have k3 : decide (0 < i) = false := decide_eq_false (by omega)
          clear hrnd hi0
          go_quiet (fail)
          go_wp2_with fail
          go_meet
          case rel => exact ⟨rfl, _, rfl⟩
        · obtain ⟨j, hj⟩ : ∃ j : Nat, (i : Int) - 1 = (j : Int) := ⟨i - 1, by omega⟩
          have hj' : i - 1 = j := by omega
          obtain ⟨g', hg', rj, _, _⟩ := tie_at HF.out HL.out (show j < L by omega)
          cases hg'
          have hrj := (HFM.out.rnd j (by have := HLN.out; omega))
          rw [hj'] at hrnd
          obtain ⟨Q, hQQ⟩ : ∃ Q, (tie n j).f0 = Q := ⟨_, rfl⟩
          rw [hQQ] at rj hrj hrnd
          have k1 : decide ((i : Int) > 0) = true := decide_eq_true (by omega)
          have k2 : decide (0 < (i : Int)) = true := decide_eq_true (by omega)
          have k3 : decide (0 < i) = true := decide_eq_true (by omega)
          have k4 : IntKind.i64.wrap ((i : Int) - 1) = (j : Int) := by rw [CK.wrap_eq (by omega) (by omega)]; exact hj
          have k5 : IntKind.i64.wrap (Q + 1) = Q + 1 := CK.wrap_eq (by omega) (by omega)
          have k6 : decide (R < Q) = false := decide_eq_false (by omega)
          have k7 : decide (R > Q + 1) = false := decide_eq_false (by omega)
          have hjL : j < L := by omega
          clear hrnd hrj hj hj' hQQ hi0
          go_quiet (fail)
          go_wp2_with fail
          go_meet
          case rel => exact ⟨rfl, _, rfl⟩
      case rest =>
        obtain ⟨rfl, kd, rfl⟩ := hcut
        obtain ⟨⟨u0, u1, u2⟩, u3, u4, u5⟩ := HU.out
        have hF1 := HF.out.drewN kd
        obtain ⟨W1, hW1⟩ : ∃ W1, W.drewN kd = W1 := ⟨_, rfl⟩
        have v0 : W1.drew.cell? ⟨g, i * 7 + 1, none⟩ = some (.int .i64 (tie n i).f1.f0) := by rw [← hW1]; exact u0
        have v1 : W1.drew.cell? ⟨g, i * 7 + 1 + 1, none⟩ = some (.int .i64 (tie n i).f1.f1) := by rw [← hW1]; exact u1
        have v2 : W1.drew.cell? ⟨g, i * 7 + 1 + 2, none⟩ = some (.int .i64 (tie n i).f1.f2) := by rw [← hW1]; exact u2
        have v3 : W1.drew.cell? ⟨g, i * 7 + 4, none⟩ = some (.int .i64 (tie n i).f2.f0) := by rw [← hW1]; exact u3
        have v4 : W1.drew.cell? ⟨g, i * 7 + 4 + 1, none⟩ = some (.int .i64 (tie n i).f2.f1) := by rw [← hW1]; exact u4
        have v5 : W1.drew.cell? ⟨g, i * 7 + 4 + 2, none⟩ = some (.int .i64 (tie n i).f2.f2) := by rw [← hW1]; exact u5
        rw [hW1] at hF1 ⊢
        have HF1 := Aside0.mk hF1
        clear hW1 hF1 u0 u1 u2 u3 u4 u5 HF HU r0 hrnd HRR
        go_wp2_with fail
        go_still_tail 10, (by kernel_rfl)
        change wpList _ _ _ _ _ W1.drew
        go_wp2_with fail
        obtain ⟨gB, hgB⟩ : ∃ gB, W1.heap.size = gB := ⟨_, rfl⟩
        have hF2 := (HF1.out.alloc (.cells #[.int .i64 (tie n i).f1.f0, .int .i64 (tie n i).f1.f1, .int .i64 (tie n i).f1.f2, .int .i64 (tie n i).f2.f0, .int .i64 (tie n i).f2.f1, .int .i64 (tie n i).f2.f2] 40)).drew
        have hGB := blk_new W1 (.cells #[.int .i64 (tie n i).f1.f0, .int .i64 (tie n i).f1.f1, .int .i64 (tie n i).f1.f2, .int .i64 (tie n i).f2.f0, .int .i64 (tie n i).f2.f1, .int .i64 (tie n i).f2.f2] 40)
        rw [hgB] at hGB ⊢
        obtain ⟨W2, hW2⟩ : ∃ W2, (W1.alloc (.cells #[.int .i64 (tie n i).f1.f0, .int .i64 (tie n i).f1.f1, .int .i64 (tie n i).f1.f2, .int .i64 (tie n i).f2.f0, .int .i64 (tie n i).f2.f1, .int .i64 (tie n i).f2.f2] 40)).drew = W2 := ⟨_, rfl⟩
        have hGB2 : W2.heap[gB]? = some (.cells #[.int .i64 (tie n i).f1.f0, .int .i64 (tie n i).f1.f1, .int .i64 (tie n i).f1.f2, .int .i64 (tie n i).f2.f0, .int .i64 (tie n i).f2.f1, .int .i64 (tie n i).f2.f2] 40 (0, 0)) := by rw [← hW2]; exact hGB
        rw [hW2] at hF2 ⊢
        have HF2 := Aside0.mk hF2
        have HGB2 := Aside0.mk hGB2
        clear hW2 hF2 hGB2 hGB hgB v0 v1 v2 v3 v4 v5 HF1
        refine wp_loop_ghost_k (fun m a W' => ∃ (kk : Int) (y : Nat → Value), m = (2 - kk).toNat ∧ (kk = 0 ∨ kk = 1 ∨ kk = 2) ∧ Fs n L w W' (some ⟨g, 0, none⟩) ct gS gW (stq n i kk) ∧ W'.heap[gB]? = some (.cells #[.int .i64 (tie n i).f1.f0, .int .i64 (tie n i).f1.f1, .int .i64 (tie n i).f1.f2, .int .i64 (tie n i).f2.f0, .int .i64 (tie n i).f2.f1, .int .i64 (tie n i).f2.f2] 40 (0, 0)) ∧ a = { tmps := List.toArray ((.int .i64 (n : Int) : Value) :: y 1 :: y 2 :: (.slice (some ⟨g, 0, none⟩) L ct : Value) :: y 4 :: (.int .i64 (CK.rr n : Int) : Value) :: (.int .i64 B : Value) :: y 7 :: (.slice (some ⟨gS, 0, none⟩) n n : Value) :: (.slice (some ⟨gW, 0, none⟩) L L : Value) :: (.int .i64 (i : Int) : Value) :: (.slice (some ⟨gB, 0, none⟩) 2 2 : Value) :: (.int .i64 kk : Value) :: y 13 :: y 14 :: y 15 :: y 16 :: y 17 :: y 18 :: y 19 :: y 20 :: y 21 :: y 22 :: y 23 :: y 24 :: y 25 :: y 26 :: y 27 :: y 28 :: y 29 :: y 30 :: y 31 :: y 32 :: y 33 :: y 34 :: y 35 :: y 36 :: y 37 :: y 38 :: y 39 :: y 40 :: y 41 :: y 42 :: y 43 :: y 44 :: y 45 :: y 46 :: y 47 :: y 48 :: y 49 :: y 50 :: y 51 :: y 52 :: y 53 :: y 54 :: y 55 :: y 56 :: y 57 :: y 58 :: y 59 :: y 60 :: y 61 :: y 62 :: y 63 :: y 64 :: y 65 :: y 66 :: y 67 :: y 68 :: y 69 :: y 70 :: y 71 :: y 72 :: y 73 :: y 74 :: y 75 :: y 76 :: y 77 :: y 78 :: y 79 :: y 80 :: y 81 :: y 82 :: y 83 :: y 84 :: y 85 :: y 86 :: y 87 :: y 88 :: y 89 :: y 90 :: y 91 :: y 92 :: y 93 :: y 94 :: y 95 :: y 96 :: y 97 :: y 98 :: y 99 :: y 100 :: y 101 :: y 102 :: y 103 :: y 104 :: y 105 :: y 106 :: y 107 :: y 108 :: y 109 :: y 110 :: y 111 :: y 112 :: y 113 :: y 114 :: y 115 :: y 116 :: y 117 :: y 118 :: y 119 :: y 120 :: y 121 :: y 122 :: y 123 :: y 124 :: y 125 :: y 126 :: y 127 :: y 128 :: y 129 :: y 130 :: y 131 :: y 132 :: y 133 :: y 134 :: y 135 :: y 136 :: y 137 :: y 138 :: y 139 :: y 140 :: y 141 :: y 142 :: y 143 :: y 144 :: y 145 :: y 146 :: y 147 :: y 148 :: y 149 :: y 150 :: y 151 :: y 152 :: y 153 :: y 154 :: y 155 :: y 156 :: y 157 :: y 158 :: y 159 :: y 160 :: y 161 :: y 162 :: y 163 :: y 164 :: y 165 :: y 166 :: y 167 :: y 168 :: y 169 :: y 170 :: y 171 :: y 172 :: y 173 :: y 174 :: y 175 :: y 176 :: y 177 :: y 178 :: y 179 :: y 180 :: y 181 :: y 182 :: y 183 :: y 184 :: y 185 :: y 186 :: y 187 :: y 188 :: y 189 :: y 190 :: y 191 :: y 192 :: y 193 :: y 194 :: y 195 :: y 196 :: y 197 :: y 198 :: y 199 :: y 200 :: y 201 :: y 202 :: y 203 :: y 204 :: y 205 :: y 206 :: y 207 :: y 208 :: y 209 :: y 210 :: y 211 :: y 212 :: y 213 :: y 214 :: y 215 :: y 216 :: y 217 :: y 218 :: y 219 :: y 220 :: y 221 :: y 222 :: y 223 :: y 224 :: y 225 :: y 226 :: y 227 :: y 228 :: y 229 :: y 230 :: y 231 :: y 232 :: y 233 :: y 234 :: y 235 :: y 236 :: y 237 :: y 238 :: y 239 :: y 240 :: y 241 :: y 242 :: y 243 :: y 244 :: []), defers := [] }) 2 ?start2 ?round2
        case start2 =>
          have sta : ∀ T : Array Value, T = List.toArray ((.int .i64 (n : Int) : Value) :: T.getD 1 undef :: T.getD 2 undef :: (.slice (some ⟨g, 0, none⟩) L ct : Value) :: T.getD 4 undef :: (.int .i64 (CK.rr n : Int) : Value) :: (.int .i64 B : Value) :: T.getD 7 undef :: (.slice (some ⟨gS, 0, none⟩) n n : Value) :: (.slice (some ⟨gW, 0, none⟩) L L : Value) :: (.int .i64 (i : Int) : Value) :: (.slice (some ⟨gB, 0, none⟩) 2 2 : Value) :: (.int .i64 0 : Value) :: T.getD 13 undef :: T.getD 14 undef :: T.getD 15 undef :: T.getD 16 undef :: T.getD 17 undef :: T.getD 18 undef :: T.getD 19 undef :: T.getD 20 undef :: T.getD 21 undef :: T.getD 22 undef :: T.getD 23 undef :: T.getD 24 undef :: T.getD 25 undef :: T.getD 26 undef :: T.getD 27 undef :: T.getD 28 undef :: T.getD 29 undef :: T.getD 30 undef :: T.getD 31 undef :: T.getD 32 undef :: T.getD 33 undef :: T.getD 34 undef :: T.getD 35 undef :: T.getD 36 undef :: T.getD 37 undef :: T.getD 38 undef :: T.getD 39 undef :: T.getD 40 undef :: T.getD 41 undef :: T.getD 42 undef :: T.getD 43 undef :: T.getD 44 undef :: T.getD 45 undef :: T.getD 46 undef :: T.getD 47 undef :: T.getD 48 undef :: T.getD 49 undef :: T.getD 50 undef :: T.getD 51 undef :: T.getD 52 undef :: T.getD 53 undef :: T.getD 54 undef :: T.getD 55 undef :: T.getD 56 undef :: T.getD 57 undef :: T.getD 58 undef :: T.getD 59 undef :: T.getD 60 undef :: T.getD 61 undef :: T.getD 62 undef :: T.getD 63 undef :: T.getD 64 undef :: T.getD 65 undef :: T.getD 66 undef :: T.getD 67 undef :: T.getD 68 undef :: T.getD 69 undef :: T.getD 70 undef :: T.getD 71 undef :: T.getD 72 undef :: T.getD 73 undef :: T.getD 74 undef :: T.getD 75 undef :: T.getD 76 undef :: T.getD 77 undef :: T.getD 78 undef :: T.getD 79 undef :: T.getD 80 undef :: T.getD 81 undef :: T.getD 82 undef :: T.getD 83 undef :: T.getD 84 undef :: T.getD 85 undef :: T.getD 86 undef :: T.getD 87 undef :: T.getD 88 undef :: T.getD 89 undef :: T.getD 90 undef :: T.getD 91 undef :: T.getD 92 undef :: T.getD 93 undef :: T.getD 94 undef :: T.getD 95 undef :: T.getD 96 undef :: T.getD 97 undef :: T.getD 98 undef :: T.getD 99 undef :: T.getD 100 undef :: T.getD 101 undef :: T.getD 102 undef :: T.getD 103 undef :: T.getD 104 undef :: T.getD 105 undef :: T.getD 106 undef :: T.getD 107 undef :: T.getD 108 undef :: T.getD 109 undef :: T.getD 110 undef :: T.getD 111 undef :: T.getD 112 undef :: T.getD 113 undef :: T.getD 114 undef :: T.getD 115 undef :: T.getD 116 undef :: T.getD 117 undef :: T.getD 118 undef :: T.getD 119 undef :: T.getD 120 undef :: T.getD 121 undef :: T.getD 122 undef :: T.getD 123 undef :: T.getD 124 undef :: T.getD 125 undef :: T.getD 126 undef :: T.getD 127 undef :: T.getD 128 undef :: T.getD 129 undef :: T.getD 130 undef :: T.getD 131 undef :: T.getD 132 undef :: T.getD 133 undef :: T.getD 134 undef :: T.getD 135 undef :: T.getD 136 undef :: T.getD 137 undef :: T.getD 138 undef :: T.getD 139 undef :: T.getD 140 undef :: T.getD 141 undef :: T.getD 142 undef :: T.getD 143 undef :: T.getD 144 undef :: T.getD 145 undef :: T.getD 146 undef :: T.getD 147 undef :: T.getD 148 undef :: T.getD 149 undef :: T.getD 150 undef :: T.getD 151 undef :: T.getD 152 undef :: T.getD 153 undef :: T.getD 154 undef :: T.getD 155 undef :: T.getD 156 undef :: T.getD 157 undef :: T.getD 158 undef :: T.getD 159 undef :: T.getD 160 undef :: T.getD 161 undef :: T.getD 162 undef :: T.getD 163 undef :: T.getD 164 undef :: T.getD 165 undef :: T.getD 166 undef :: T.getD 167 undef :: T.getD 168 undef :: T.getD 169 undef :: T.getD 170 undef :: T.getD 171 undef :: T.getD 172 undef :: T.getD 173 undef :: T.getD 174 undef :: T.getD 175 undef :: T.getD 176 undef :: T.getD 177 undef :: T.getD 178 undef :: T.getD 179 undef :: T.getD 180 undef :: T.getD 181 undef :: T.getD 182 undef :: T.getD 183 undef :: T.getD 184 undef :: T.getD 185 undef :: T.getD 186 undef :: T.getD 187 undef :: T.getD 188 undef :: T.getD 189 undef :: T.getD 190 undef :: T.getD 191 undef :: T.getD 192 undef :: T.getD 193 undef :: T.getD 194 undef :: T.getD 195 undef :: T.getD 196 undef :: T.getD 197 undef :: T.getD 198 undef :: T.getD 199 undef :: T.getD 200 undef :: T.getD 201 undef :: T.getD 202 undef :: T.getD 203 undef :: T.getD 204 undef :: T.getD 205 undef :: T.getD 206 undef :: T.getD 207 undef :: T.getD 208 undef :: T.getD 209 undef :: T.getD 210 undef :: T.getD 211 undef :: T.getD 212 undef :: T.getD 213 undef :: T.getD 214 undef :: T.getD 215 undef :: T.getD 216 undef :: T.getD 217 undef :: T.getD 218 undef :: T.getD 219 undef :: T.getD 220 undef :: T.getD 221 undef :: T.getD 222 undef :: T.getD 223 undef :: T.getD 224 undef :: T.getD 225 undef :: T.getD 226 undef :: T.getD 227 undef :: T.getD 228 undef :: T.getD 229 undef :: T.getD 230 undef :: T.getD 231 undef :: T.getD 232 undef :: T.getD 233 undef :: T.getD 234 undef :: T.getD 235 undef :: T.getD 236 undef :: T.getD 237 undef :: T.getD 238 undef :: T.getD 239 undef :: T.getD 240 undef :: T.getD 241 undef :: T.getD 242 undef :: T.getD 243 undef :: T.getD 244 undef :: []) → ∃ (kk : Int) (y : Nat → Value), 2 = (2 - kk).toNat ∧ (kk = 0 ∨ kk = 1 ∨ kk = 2) ∧ Fs n L w W2 (some ⟨g, 0, none⟩) ct gS gW (stq n i kk) ∧ W2.heap[gB]? = some (.cells #[.int .i64 (tie n i).f1.f0, .int .i64 (tie n i).f1.f1, .int .i64 (tie n i).f1.f2, .int .i64 (tie n i).f2.f0, .int .i64 (tie n i).f2.f1, .int .i64 (tie n i).f2.f2] 40 (0, 0)) ∧ (Act.mk T []) = { tmps := List.toArray ((.int .i64 (n : Int) : Value) :: y 1 :: y 2 :: (.slice (some ⟨g, 0, none⟩) L ct : Value) :: y 4 :: (.int .i64 (CK.rr n : Int) : Value) :: (.int .i64 B : Value) :: y 7 :: (.slice (some ⟨gS, 0, none⟩) n n : Value) :: (.slice (some ⟨gW, 0, none⟩) L L : Value) :: (.int .i64 (i : Int) : Value) :: (.slice (some ⟨gB, 0, none⟩) 2 2 : Value) :: (.int .i64 kk : Value) :: y 13 :: y 14 :: y 15 :: y 16 :: y 17 :: y 18 :: y 19 :: y 20 :: y 21 :: y 22 :: y 23 :: y 24 :: y 25 :: y 26 :: y 27 :: y 28 :: y 29 :: y 30 :: y 31 :: y 32 :: y 33 :: y 34 :: y 35 :: y 36 :: y 37 :: y 38 :: y 39 :: y 40 :: y 41 :: y 42 :: y 43 :: y 44 :: y 45 :: y 46 :: y 47 :: y 48 :: y 49 :: y 50 :: y 51 :: y 52 :: y 53 :: y 54 :: y 55 :: y 56 :: y 57 :: y 58 :: y 59 :: y 60 :: y 61 :: y 62 :: y 63 :: y 64 :: y 65 :: y 66 :: y 67 :: y 68 :: y 69 :: y 70 :: y 71 :: y 72 :: y 73 :: y 74 :: y 75 :: y 76 :: y 77 :: y 78 :: y 79 :: y 80 :: y 81 :: y 82 :: y 83 :: y 84 :: y 85 :: y 86 :: y 87 :: y 88 :: y 89 :: y 90 :: y 91 :: y 92 :: y 93 :: y 94 :: y 95 :: y 96 :: y 97 :: y 98 :: y 99 :: y 100 :: y 101 :: y 102 :: y 103 :: y 104 :: y 105 :: y 106 :: y 107 :: y 108 :: y 109 :: y 110 :: y 111 :: y 112 :: y 113 :: y 114 :: y 115 :: y 116 :: y 117 :: y 118 :: y 119 :: y 120 :: y 121 :: y 122 :: y 123 :: y 124 :: y 125 :: y 126 :: y 127 :: y 128 :: y 129 :: y 130 :: y 131 :: y 132 :: y 133 :: y 134 :: y 135 :: y 136 :: y 137 :: y 138 :: y 139 :: y 140 :: y 141 :: y 142 :: y 143 :: y 144 :: y 145 :: y 146 :: y 147 :: y 148 :: y 149 :: y 150 :: y 151 :: y 152 :: y 153 :: y 154 :: y 155 :: y 156 :: y 157 :: y 158 :: y 159 :: y 160 :: y 161 :: y 162 :: y 163 :: y 164 :: y 165 :: y 166 :: y 167 :: y 168 :: y 169 :: y 170 :: y 171 :: y 172 :: y 173 :: y 174 :: y 175 :: y 176 :: y 177 :: y 178 :: y 179 :: y 180 :: y 181 :: y 182 :: y 183 :: y 184 :: y 185 :: y 186 :: y 187 :: y 188 :: y 189 :: y 190 :: y 191 :: y 192 :: y 193 :: y 194 :: y 195 :: y 196 :: y 197 :: y 198 :: y 199 :: y 200 :: y 201 :: y 202 :: y 203 :: y 204 :: y 205 :: y 206 :: y 207 :: y 208 :: y 209 :: y 210 :: y 211 :: y 212 :: y 213 :: y 214 :: y 215 :: y 216 :: y 217 :: y 218 :: y 219 :: y 220 :: y 221 :: y 222 :: y 223 :: y 224 :: y 225 :: y 226 :: y 227 :: y 228 :: y 229 :: y 230 :: y 231 :: y 232 :: y 233 :: y 234 :: y 235 :: y 236 :: y 237 :: y 238 :: y 239 :: y 240 :: y 241 :: y 242 :: y 243 :: y 244 :: []), defers := [] } := fun T hT =>
            ⟨0, fun i => T.getD i undef, rfl, .inl rfl, HF2.out, HGB2.out, congrArg (fun T => (Act.mk T _)) hT⟩
          exact sta _ rfl
        case round2 =>
          rintro m a W' ⟨kk, y, rfl, hkk, hFI, hGB, rfl⟩ J2 K2 hJ2 hK2
          clear HF2 HGB2
          have HGB := Aside0.mk hGB
          rcases hkk with rfl | rfl | rfl
          · have HFI : Aside0 (Fs n L w W' (some ⟨g, 0, none⟩) ct gS gW (stk n i false)) := ⟨hFI⟩
            have fin2 : ∀ (T : Array Value) (W4 : World), T = List.toArray ((.int .i64 (n : Int) : Value) :: T.getD 1 undef :: T.getD 2 undef :: (.slice (some ⟨g, 0, none⟩) L ct : Value) :: T.getD 4 undef :: (.int .i64 (CK.rr n : Int) : Value) :: (.int .i64 B : Value) :: T.getD 7 undef :: (.slice (some ⟨gS, 0, none⟩) n n : Value) :: (.slice (some ⟨gW, 0, none⟩) L L : Value) :: (.int .i64 (i : Int) : Value) :: (.slice (some ⟨gB, 0, none⟩) 2 2 : Value) :: (.int .i64 1 : Value) :: T.getD 13 undef :: T.getD 14 undef :: T.getD 15 undef :: T.getD 16 undef :: T.getD 17 undef :: T.getD 18 undef :: T.getD 19 undef :: T.getD 20 undef :: T.getD 21 undef :: T.getD 22 undef :: T.getD 23 undef :: T.getD 24 undef :: T.getD 25 undef :: T.getD 26 undef :: T.getD 27 undef :: T.getD 28 undef :: T.getD 29 undef :: T.getD 30 undef :: T.getD 31 undef :: T.getD 32 undef :: T.getD 33 undef :: T.getD 34 undef :: T.getD 35 undef :: T.getD 36 undef :: T.getD 37 undef :: T.getD 38 undef :: T.getD 39 undef :: T.getD 40 undef :: T.getD 41 undef :: T.getD 42 undef :: T.getD 43 undef :: T.getD 44 undef :: T.getD 45 undef :: T.getD 46 undef :: T.getD 47 undef :: T.getD 48 undef :: T.getD 49 undef :: T.getD 50 undef :: T.getD 51 undef :: T.getD 52 undef :: T.getD 53 undef :: T.getD 54 undef :: T.getD 55 undef :: T.getD 56 undef :: T.getD 57 undef :: T.getD 58 undef :: T.getD 59 undef :: T.getD 60 undef :: T.getD 61 undef :: T.getD 62 undef :: T.getD 63 undef :: T.getD 64 undef :: T.getD 65 undef :: T.getD 66 undef :: T.getD 67 undef :: T.getD 68 undef :: T.getD 69 undef :: T.getD 70 undef :: T.getD 71 undef :: T.getD 72 undef :: T.getD 73 undef :: T.getD 74 undef :: T.getD 75 undef :: T.getD 76 undef :: T.getD 77 undef :: T.getD 78 undef :: T.getD 79 undef :: T.getD 80 undef :: T.getD 81 undef :: T.getD 82 undef :: T.getD 83 undef :: T.getD 84 undef :: T.getD 85 undef :: T.getD 86 undef :: T.getD 87 undef :: T.getD 88 undef :: T.getD 89 undef :: T.getD 90 undef :: T.getD 91 undef :: T.getD 92 undef :: T.getD 93 undef :: T.getD 94 undef :: T.getD 95 undef :: T.getD 96 undef :: T.getD 97 undef :: T.getD 98 undef :: T.getD 99 undef :: T.getD 100 undef :: T.getD 101 undef :: T.getD 102 undef :: T.getD 103 undef :: T.getD 104 undef :: T.getD 105 undef :: T.getD 106 undef :: T.getD 107 undef :: T.getD 108 undef :: T.getD 109 undef :: T.getD 110 undef :: T.getD 111 undef :: T.getD 112 undef :: T.getD 113 undef :: T.getD 114 undef :: T.getD 115 undef :: T.getD 116 undef :: T.getD 117 undef :: T.getD 118 undef :: T.getD 119 undef :: T.getD 120 undef :: T.getD 121 undef :: T.getD 122 undef :: T.getD 123 undef :: T.getD 124 undef :: T.getD 125 undef :: T.getD 126 undef :: T.getD 127 undef :: T.getD 128 undef :: T.getD 129 undef :: T.getD 130 undef :: T.getD 131 undef :: T.getD 132 undef :: T.getD 133 undef :: T.getD 134 undef :: T.getD 135 undef :: T.getD 136 undef :: T.getD 137 undef :: T.getD 138 undef :: T.getD 139 undef :: T.getD 140 undef :: T.getD 141 undef :: T.getD 142 undef :: T.getD 143 undef :: T.getD 144 undef :: T.getD 145 undef :: T.getD 146 undef :: T.getD 147 undef :: T.getD 148 undef :: T.getD 149 undef :: T.getD 150 undef :: T.getD 151 undef :: T.getD 152 undef :: T.getD 153 undef :: T.getD 154 undef :: T.getD 155 undef :: T.getD 156 undef :: T.getD 157 undef :: T.getD 158 undef :: T.getD 159 undef :: T.getD 160 undef :: T.getD 161 undef :: T.getD 162 undef :: T.getD 163 undef :: T.getD 164 undef :: T.getD 165 undef :: T.getD 166 undef :: T.getD 167 undef :: T.getD 168 undef :: T.getD 169 undef :: T.getD 170 undef :: T.getD 171 undef :: T.getD 172 undef :: T.getD 173 undef :: T.getD 174 undef :: T.getD 175 undef :: T.getD 176 undef :: T.getD 177 undef :: T.getD 178 undef :: T.getD 179 undef :: T.getD 180 undef :: T.getD 181 undef :: T.getD 182 undef :: T.getD 183 undef :: T.getD 184 undef :: T.getD 185 undef :: T.getD 186 undef :: T.getD 187 undef :: T.getD 188 undef :: T.getD 189 undef :: T.getD 190 undef :: T.getD 191 undef :: T.getD 192 undef :: T.getD 193 undef :: T.getD 194 undef :: T.getD 195 undef :: T.getD 196 undef :: T.getD 197 undef :: T.getD 198 undef :: T.getD 199 undef :: T.getD 200 undef :: T.getD 201 undef :: T.getD 202 undef :: T.getD 203 undef :: T.getD 204 undef :: T.getD 205 undef :: T.getD 206 undef :: T.getD 207 undef :: T.getD 208 undef :: T.getD 209 undef :: T.getD 210 undef :: T.getD 211 undef :: T.getD 212 undef :: T.getD 213 undef :: T.getD 214 undef :: T.getD 215 undef :: T.getD 216 undef :: T.getD 217 undef :: T.getD 218 undef :: T.getD 219 undef :: T.getD 220 undef :: T.getD 221 undef :: T.getD 222 undef :: T.getD 223 undef :: T.getD 224 undef :: T.getD 225 undef :: T.getD 226 undef :: T.getD 227 undef :: T.getD 228 undef :: T.getD 229 undef :: T.getD 230 undef :: T.getD 231 undef :: T.getD 232 undef :: T.getD 233 undef :: T.getD 234 undef :: T.getD 235 undef :: T.getD 236 undef :: T.getD 237 undef :: T.getD 238 undef :: T.getD 239 undef :: T.getD 240 undef :: T.getD 241 undef :: T.getD 242 undef :: T.getD 243 undef :: T.getD 244 undef :: []) → Fs n L w W4 (some ⟨g, 0, none⟩) ct gS gW (bump (sdd n i false) (stk n i false)) → W4.heap[gB]? = some (.cells #[.int .i64 (tie n i).f1.f0, .int .i64 (tie n i).f1.f1, .int .i64 (tie n i).f1.f2, .int .i64 (tie n i).f2.f0, .int .i64 (tie n i).f2.f1, .int .i64 (tie n i).f2.f2] 40 (0, 0)) → Handed J2 (2 - (0 : Int)).toNat { tmps := T, defers := [] } W4 := fun T W4 hT h1 h2 =>
              ⟨1, by decide, hJ2 _ _ _ ⟨1, fun i => T.getD i undef, rfl, .inr (.inl rfl), h1, h2, congrArg (fun T => (Act.mk T _)) hT⟩⟩
            clear hFI hGB
            have hsid := HFM.out.sid i false (by have := HLN.out; omega)
            have hs2 : sdd n i false = (tie n i).f1 := rfl
            obtain ⟨s, hs⟩ : ∃ s, sdd n i false = s := ⟨_, rfl⟩
            rw [hs] at hsid hs2
            have x0 := blk_cell HGB.out 0
            have x1 := blk_cell HGB.out 1
            have x2 := blk_cell HGB.out 2
            simp only [List.getElem?_toArray, List.getElem?_cons_zero, List.getElem?_cons_succ] at x0 x1 x2
            obtain ⟨s0, s1, s2⟩ := s
            simp only at hsid
            obtain ⟨rfl, hq0, hcase⟩ := hsid
            obtain ⟨q, rfl⟩ : ∃ q : Nat, s1 = (q : Int) := ⟨_, (Int.toNat_of_nonneg hq0).symm⟩
            rw [← hs2] at x0 x1 x2
            simp only at x0 x1 x2
            have HS := Aside0.mk hs
            have gx := blk_new W' (.cells #[.int .i64 s0, .int .i64 (q : Int), .int .i64 0] 40)
            have hF3 := HFI.out.alloc (.cells #[.int .i64 s0, .int .i64 (q : Int), .int .i64 0] 40)
            have hGB3 := blk_alloc HGB.out (.cells #[.int .i64 s0, .int .i64 (q : Int), .int .i64 0] 40)
            obtain ⟨g', hAt, r0, _, _⟩ := tie_at hF3 HL.out hiL
            cases hAt
            have z0 := blk_cell gx 0
            have z1 := blk_cell gx 1
            have z2 := blk_cell gx 2
            simp only [List.getElem?_toArray, List.getElem?_cons_zero, List.getElem?_cons_succ] at z0 z1 z2
            have k0 : decide ((q : Int) < 0) = false := decide_eq_false (by omega)
            have hrnd := HFM.out.rnd i (by have := HLN.out; omega)
            have hpl := stk_len n i false
            rcases hcase with ⟨rfl, hqn, hR⟩ | ⟨rfl, hqi, hR⟩
            · have hqn' : q < (stk n i false).1.length := by omega
              obtain ⟨c1, f1⟩ := read_row hF3.es q hqn'
              have hF4 := hF3.seed q (wrap64 ((stk n i false).1[q] + 1))
              have hne4 : gS ≠ gB := blk_ne hF3.es hGB3 (by decide)
              have hGB4 := (CM.set_ne (i := q) (Ne.symm hne4) (.int .i64 (wrap64 ((stk n i false).1[q] + 1)))).trans hGB3
              have hbs := bump_seed q (stk n i false) hqn'
              rw [← hs] at hbs
              rw [← hbs] at hF4
              obtain ⟨v, hv⟩ : ∃ v, (stk n i false).1[q] = v := ⟨_, rfl⟩
              rw [hv] at c1 hF4 hGB4
              have k1 : decide ((q : Int) ≥ (n : Int)) = false := decide_eq_false (by omega)
              have k2 : decide (n ≤ q) = false := decide_eq_false (by omega)
              have k3 : decide ((n : Int) ≤ (q : Int)) = false := decide_eq_false (by omega)
              have hqn2 : q < n := by omega
              have HF4 := Aside0.mk hF4
              have HGB4 := Aside0.mk hGB4
              have HV := Aside0.mk hv
              clear hs hs2 hpl hbs hF4 hGB4 hv hF3 hGB3 hrnd gx hne4
              rcases hR with ⟨hR0, hbq⟩ | ⟨hR0, hbq⟩
              · rw [hR0] at r0
                have k4 : decide ((q : Int) < B) = false := decide_eq_false (by have := HBY.out; omega)
                clear hR0 hbq
                go_wp2_with fail
                exact fin2 _ _ rfl HF4.out HGB4.out
              · rw [hR0] at r0
                have k4 : decide ((q : Int) ≥ B) = false := decide_eq_false (by have := HBY.out; omega)
                clear hR0 hbq
                go_wp2_with fail
                exact fin2 _ _ rfl HF4.out HGB4.out
            · have hqn' : q < (stk n i false).2.length := by omega
              obtain ⟨g', hAt', rq, _, _⟩ := tie_at hF3 HL.out (show q < L by omega)
              cases hAt'
              rw [Int.toNat_natCast] at hR
              rw [hR] at rq
              obtain ⟨R, hRR⟩ : ∃ R, (tie n i).f0 = R := ⟨_, rfl⟩
              rw [hRR] at rq r0 hrnd
              have k1 : decide ((q : Int) ≥ (i : Int)) = false := decide_eq_false (by omega)
              have k2 : decide (i ≤ q) = false := decide_eq_false (by omega)
              have k3 : decide ((i : Int) ≤ (q : Int)) = false := decide_eq_false (by omega)
              have k4 : IntKind.i64.wrap (R - 1) = R - 1 := CK.wrap_eq (by omega) (by omega)
              have k5 : wrap64 (R - 1) = R - 1 := w64 (by omega) (by omega)
              have hqL : q < L := by omega
              have HF3 := Aside0.mk hF3
              have HGB3 := Aside0.mk hGB3
              have HPL := Aside0.mk hpl
              clear hs hs2 hpl hF3 hGB3 hR hRR hqi hrnd
              go_wp2_with fail
              go_quiet (fail)
              have hF4' := HF3.out.drewN nq
              have hGB3' : ((W'.alloc (.cells #[.int .i64 3, .int .i64 (q : Int), .int .i64 0] 40)).drewN nq).heap[gB]? = _ := HGB3.out
              have gx' : ((W'.alloc (.cells #[.int .i64 3, .int .i64 (q : Int), .int .i64 0] 40)).drewN nq).heap[W'.heap.size]? = _ := gx
              obtain ⟨gxx, hgxx⟩ : ∃ gxx, W'.heap.size = gxx := ⟨_, rfl⟩
              rw [hgxx] at gx' ⊢
              obtain ⟨W6, hW6⟩ : ∃ W6, (W'.alloc (.cells #[.int .i64 3, .int .i64 (q : Int), .int .i64 0] 40)).drewN nq = W6 := ⟨_, rfl⟩
              rw [hW6] at hF4' hGB3' gx' ⊢
              obtain ⟨c1, f1⟩ := read_row hF4'.ew q hqn'
              have y1 := blk_cell gx' 1
              simp only [List.getElem?_toArray, List.getElem?_cons_zero, List.getElem?_cons_succ] at y1
              have hF4 := hF4'.wins q (wrap64 ((stk n i false).2[q] + 1))
              have hne4 : gW ≠ gB := blk_ne hF4'.ew hGB3' (by decide)
              have hGB4 := (CM.set_ne (i := q) (Ne.symm hne4) (.int .i64 (wrap64 ((stk n i false).2[q] + 1)))).trans hGB3'
              have hbs := bump_win q (stk n i false) hqn'
              rw [← HS.out] at hbs
              rw [← hbs] at hF4
              obtain ⟨v, hv⟩ : ∃ v, (stk n i false).2[q] = v := ⟨_, rfl⟩
              rw [hv] at c1 hF4 hGB4
              have HF4 := Aside0.mk hF4
              have HGB4 := Aside0.mk hGB4
              have HV := Aside0.mk hv
              clear hW6 hgxx hbs hF4 hGB4 hv hF4' hGB3' gx gx' hne4 z0 z1 z2
              go_wp2_with fail
              exact fin2 _ _ rfl HF4.out HGB4.out
          · have HFI : Aside0 (Fs n L w W' (some ⟨g, 0, none⟩) ct gS gW (stk n i true)) := ⟨hFI⟩
            have fin2 : ∀ (T : Array Value) (W4 : World), T = List.toArray ((.int .i64 (n : Int) : Value) :: T.getD 1 undef :: T.getD 2 undef :: (.slice (some ⟨g, 0, none⟩) L ct : Value) :: T.getD 4 undef :: (.int .i64 (CK.rr n : Int) : Value) :: (.int .i64 B : Value) :: T.getD 7 undef :: (.slice (some ⟨gS, 0, none⟩) n n : Value) :: (.slice (some ⟨gW, 0, none⟩) L L : Value) :: (.int .i64 (i : Int) : Value) :: (.slice (some ⟨gB, 0, none⟩) 2 2 : Value) :: (.int .i64 2 : Value) :: T.getD 13 undef :: T.getD 14 undef :: T.getD 15 undef :: T.getD 16 undef :: T.getD 17 undef :: T.getD 18 undef :: T.getD 19 undef :: T.getD 20 undef :: T.getD 21 undef :: T.getD 22 undef :: T.getD 23 undef :: T.getD 24 undef :: T.getD 25 undef :: T.getD 26 undef :: T.getD 27 undef :: T.getD 28 undef :: T.getD 29 undef :: T.getD 30 undef :: T.getD 31 undef :: T.getD 32 undef :: T.getD 33 undef :: T.getD 34 undef :: T.getD 35 undef :: T.getD 36 undef :: T.getD 37 undef :: T.getD 38 undef :: T.getD 39 undef :: T.getD 40 undef :: T.getD 41 undef :: T.getD 42 undef :: T.getD 43 undef :: T.getD 44 undef :: T.getD 45 undef :: T.getD 46 undef :: T.getD 47 undef :: T.getD 48 undef :: T.getD 49 undef :: T.getD 50 undef :: T.getD 51 undef :: T.getD 52 undef :: T.getD 53 undef :: T.getD 54 undef :: T.getD 55 undef :: T.getD 56 undef :: T.getD 57 undef :: T.getD 58 undef :: T.getD 59 undef :: T.getD 60 undef :: T.getD 61 undef :: T.getD 62 undef :: T.getD 63 undef :: T.getD 64 undef :: T.getD 65 undef :: T.getD 66 undef :: T.getD 67 undef :: T.getD 68 undef :: T.getD 69 undef :: T.getD 70 undef :: T.getD 71 undef :: T.getD 72 undef :: T.getD 73 undef :: T.getD 74 undef :: T.getD 75 undef :: T.getD 76 undef :: T.getD 77 undef :: T.getD 78 undef :: T.getD 79 undef :: T.getD 80 undef :: T.getD 81 undef :: T.getD 82 undef :: T.getD 83 undef :: T.getD 84 undef :: T.getD 85 undef :: T.getD 86 undef :: T.getD 87 undef :: T.getD 88 undef :: T.getD 89 undef :: T.getD 90 undef :: T.getD 91 undef :: T.getD 92 undef :: T.getD 93 undef :: T.getD 94 undef :: T.getD 95 undef :: T.getD 96 undef :: T.getD 97 undef :: T.getD 98 undef :: T.getD 99 undef :: T.getD 100 undef :: T.getD 101 undef :: T.getD 102 undef :: T.getD 103 undef :: T.getD 104 undef :: T.getD 105 undef :: T.getD 106 undef :: T.getD 107 undef :: T.getD 108 undef :: T.getD 109 undef :: T.getD 110 undef :: T.getD 111 undef :: T.getD 112 undef :: T.getD 113 undef :: T.getD 114 undef :: T.getD 115 undef :: T.getD 116 undef :: T.getD 117 undef :: T.getD 118 undef :: T.getD 119 undef :: T.getD 120 undef :: T.getD 121 undef :: T.getD 122 undef :: T.getD 123 undef :: T.getD 124 undef :: T.getD 125 undef :: T.getD 126 undef :: T.getD 127 undef :: T.getD 128 undef :: T.getD 129 undef :: T.getD 130 undef :: T.getD 131 undef :: T.getD 132 undef :: T.getD 133 undef :: T.getD 134 undef :: T.getD 135 undef :: T.getD 136 undef :: T.getD 137 undef :: T.getD 138 undef :: T.getD 139 undef :: T.getD 140 undef :: T.getD 141 undef :: T.getD 142 undef :: T.getD 143 undef :: T.getD 144 undef :: T.getD 145 undef :: T.getD 146 undef :: T.getD 147 undef :: T.getD 148 undef :: T.getD 149 undef :: T.getD 150 undef :: T.getD 151 undef :: T.getD 152 undef :: T.getD 153 undef :: T.getD 154 undef :: T.getD 155 undef :: T.getD 156 undef :: T.getD 157 undef :: T.getD 158 undef :: T.getD 159 undef :: T.getD 160 undef :: T.getD 161 undef :: T.getD 162 undef :: T.getD 163 undef :: T.getD 164 undef :: T.getD 165 undef :: T.getD 166 undef :: T.getD 167 undef :: T.getD 168 undef :: T.getD 169 undef :: T.getD 170 undef :: T.getD 171 undef :: T.getD 172 undef :: T.getD 173 undef :: T.getD 174 undef :: T.getD 175 undef :: T.getD 176 undef :: T.getD 177 undef :: T.getD 178 undef :: T.getD 179 undef :: T.getD 180 undef :: T.getD 181 undef :: T.getD 182 undef :: T.getD 183 undef :: T.getD 184 undef :: T.getD 185 undef :: T.getD 186 undef :: T.getD 187 undef :: T.getD 188 undef :: T.getD 189 undef :: T.getD 190 undef :: T.getD 191 undef :: T.getD 192 undef :: T.getD 193 undef :: T.getD 194 undef :: T.getD 195 undef :: T.getD 196 undef :: T.getD 197 undef :: T.getD 198 undef :: T.getD 199 undef :: T.getD 200 undef :: T.getD 201 undef :: T.getD 202 undef :: T.getD 203 undef :: T.getD 204 undef :: T.getD 205 undef :: T.getD 206 undef :: T.getD 207 undef :: T.getD 208 undef :: T.getD 209 undef :: T.getD 210 undef :: T.getD 211 undef :: T.getD 212 undef :: T.getD 213 undef :: T.getD 214 undef :: T.getD 215 undef :: T.getD 216 undef :: T.getD 217 undef :: T.getD 218 undef :: T.getD 219 undef :: T.getD 220 undef :: T.getD 221 undef :: T.getD 222 undef :: T.getD 223 undef :: T.getD 224 undef :: T.getD 225 undef :: T.getD 226 undef :: T.getD 227 undef :: T.getD 228 undef :: T.getD 229 undef :: T.getD 230 undef :: T.getD 231 undef :: T.getD 232 undef :: T.getD 233 undef :: T.getD 234 undef :: T.getD 235 undef :: T.getD 236 undef :: T.getD 237 undef :: T.getD 238 undef :: T.getD 239 undef :: T.getD 240 undef :: T.getD 241 undef :: T.getD 242 undef :: T.getD 243 undef :: T.getD 244 undef :: []) → Fs n L w W4 (some ⟨g, 0, none⟩) ct gS gW (bump (sdd n i true) (stk n i true)) → W4.heap[gB]? = some (.cells #[.int .i64 (tie n i).f1.f0, .int .i64 (tie n i).f1.f1, .int .i64 (tie n i).f1.f2, .int .i64 (tie n i).f2.f0, .int .i64 (tie n i).f2.f1, .int .i64 (tie n i).f2.f2] 40 (0, 0)) → Handed J2 (2 - (1 : Int)).toNat { tmps := T, defers := [] } W4 := fun T W4 hT h1 h2 =>
              ⟨0, by decide, hJ2 _ _ _ ⟨2, fun i => T.getD i undef, rfl, .inr (.inr rfl), h1, h2, congrArg (fun T => (Act.mk T _)) hT⟩⟩
            clear hFI hGB
            have hsid := HFM.out.sid i true (by have := HLN.out; omega)
            have hs2 : sdd n i true = (tie n i).f2 := rfl
            obtain ⟨s, hs⟩ : ∃ s, sdd n i true = s := ⟨_, rfl⟩
            rw [hs] at hsid hs2
            have x0 := blk_cell HGB.out 3
            have x1 := blk_cell HGB.out 4
            have x2 := blk_cell HGB.out 5
            simp only [List.getElem?_toArray, List.getElem?_cons_zero, List.getElem?_cons_succ] at x0 x1 x2
            obtain ⟨s0, s1, s2⟩ := s
            simp only at hsid
            obtain ⟨rfl, hq0, hcase⟩ := hsid
            obtain ⟨q, rfl⟩ : ∃ q : Nat, s1 = (q : Int) := ⟨_, (Int.toNat_of_nonneg hq0).symm⟩
            rw [← hs2] at x0 x1 x2
            simp only at x0 x1 x2
            have HS := Aside0.mk hs
            have gx := blk_new W' (.cells #[.int .i64 s0, .int .i64 (q : Int), .int .i64 0] 40)
            have hF3 := HFI.out.alloc (.cells #[.int .i64 s0, .int .i64 (q : Int), .int .i64 0] 40)
            have hGB3 := blk_alloc HGB.out (.cells #[.int .i64 s0, .int .i64 (q : Int), .int .i64 0] 40)
            obtain ⟨g', hAt, r0, _, _⟩ := tie_at hF3 HL.out hiL
            cases hAt
            have z0 := blk_cell gx 0
            have z1 := blk_cell gx 1
            have z2 := blk_cell gx 2
            simp only [List.getElem?_toArray, List.getElem?_cons_zero, List.getElem?_cons_succ] at z0 z1 z2
            have k0 : decide ((q : Int) < 0) = false := decide_eq_false (by omega)
            have hrnd := HFM.out.rnd i (by have := HLN.out; omega)
            have hpl := stk_len n i true
            rcases hcase with ⟨rfl, hqn, hR⟩ | ⟨rfl, hqi, hR⟩
            · have hqn' : q < (stk n i true).1.length := by omega
              obtain ⟨c1, f1⟩ := read_row hF3.es q hqn'
              have hF4 := hF3.seed q (wrap64 ((stk n i true).1[q] + 1))
              have hne4 : gS ≠ gB := blk_ne hF3.es hGB3 (by decide)
              have hGB4 := (CM.set_ne (i := q) (Ne.symm hne4) (.int .i64 (wrap64 ((stk n i true).1[q] + 1)))).trans hGB3
              have hbs := bump_seed q (stk n i true) hqn'
              rw [← hs] at hbs
              rw [← hbs] at hF4
              obtain ⟨v, hv⟩ : ∃ v, (stk n i true).1[q] = v := ⟨_, rfl⟩
              rw [hv] at c1 hF4 hGB4
              have k1 : decide ((q : Int) ≥ (n : Int)) = false := decide_eq_false (by omega)
              have k2 : decide (n ≤ q) = false := decide_eq_false (by omega)
              have k3 : decide ((n : Int) ≤ (q : Int)) = false := decide_eq_false (by omega)
              have hqn2 : q < n := by omega
              have HF4 := Aside0.mk hF4
              have HGB4 := Aside0.mk hGB4
              have HV := Aside0.mk hv
              clear hs hs2 hpl hbs hF4 hGB4 hv hF3 hGB3 hrnd gx hne4
              rcases hR with ⟨hR0, hbq⟩ | ⟨hR0, hbq⟩
              · rw [hR0] at r0
                have k4 : decide ((q : Int) < B) = false := decide_eq_false (by have := HBY.out; omega)
                clear hR0 hbq
                go_wp2_with fail
                exact fin2 _ _ rfl HF4.out HGB4.out
              · rw [hR0] at r0
                have k4 : decide ((q : Int) ≥ B) = false := decide_eq_false (by have := HBY.out; omega)
                clear hR0 hbq
                go_wp2_with fail
                exact fin2 _ _ rfl HF4.out HGB4.out
            · have hqn' : q < (stk n i true).2.length := by omega
              obtain ⟨g', hAt', rq, _, _⟩ := tie_at hF3 HL.out (show q < L by omega)
              cases hAt'
              rw [Int.toNat_natCast] at hR
              rw [hR] at rq
              obtain ⟨R, hRR⟩ : ∃ R, (tie n i).f0 = R := ⟨_, rfl⟩
              rw [hRR] at rq r0 hrnd
              have k1 : decide ((q : Int) ≥ (i : Int)) = false := decide_eq_false (by omega)
              have k2 : decide (i ≤ q) = false := decide_eq_false (by omega)
              have k3 : decide ((i : Int) ≤ (q : Int)) = false := decide_eq_false (by omega)
              have k4 : IntKind.i64.wrap (R - 1) = R - 1 := CK.wrap_eq (by omega) (by omega)
              have k5 : wrap64 (R - 1) = R - 1 := w64 (by omega) (by omega)
              have hqL : q < L := by omega
              have HF3 := Aside0.mk hF3
              have HGB3 := Aside0.mk hGB3
              have HPL := Aside0.mk hpl
              clear hs hs2 hpl hF3 hGB3 hR hRR hqi hrnd
              go_wp2_with fail
              go_quiet (fail)
              have hF4' := HF3.out.drewN nq
              have hGB3' : ((W'.alloc (.cells #[.int .i64 3, .int .i64 (q : Int), .int .i64 0] 40)).drewN nq).heap[gB]? = _ := HGB3.out
              have gx' : ((W'.alloc (.cells #[.int .i64 3, .int .i64 (q : Int), .int .i64 0] 40)).drewN nq).heap[W'.heap.size]? = _ := gx
              obtain ⟨gxx, hgxx⟩ : ∃ gxx, W'.heap.size = gxx := ⟨_, rfl⟩
              rw [hgxx] at gx' ⊢
              obtain ⟨W6, hW6⟩ : ∃ W6, (W'.alloc (.cells #[.int .i64 3, .int .i64 (q : Int), .int .i64 0] 40)).drewN nq = W6 := ⟨_, rfl⟩
              rw [hW6] at hF4' hGB3' gx' ⊢
              obtain ⟨c1, f1⟩ := read_row hF4'.ew q hqn'
              have y1 := blk_cell gx' 1
              simp only [List.getElem?_toArray, List.getElem?_cons_zero, List.getElem?_cons_succ] at y1
              have hF4 := hF4'.wins q (wrap64 ((stk n i true).2[q] + 1))
              have hne4 : gW ≠ gB := blk_ne hF4'.ew hGB3' (by decide)
              have hGB4 := (CM.set_ne (i := q) (Ne.symm hne4) (.int .i64 (wrap64 ((stk n i true).2[q] + 1)))).trans hGB3'
              have hbs := bump_win q (stk n i true) hqn'
              rw [← HS.out] at hbs
              rw [← hbs] at hF4
              obtain ⟨v, hv⟩ : ∃ v, (stk n i true).2[q] = v := ⟨_, rfl⟩
              rw [hv] at c1 hF4 hGB4
              have HF4 := Aside0.mk hF4
              have HGB4 := Aside0.mk hGB4
              have HV := Aside0.mk hv
              clear hW6 hgxx hbs hF4 hGB4 hv hF4' hGB3' gx gx' hne4 z0 z1 z2
              go_wp2_with fail
              exact fin2 _ _ rfl HF4.out HGB4.out
          · have HFE : Aside0 (Fs n L w W' (some ⟨g, 0, none⟩) ct gS gW (st n (i + 1))) := ⟨hFI⟩
            clear hFI hGB hJ2 hK2 HGB
            go_wp2_with fail
            exact fin _ _ rfl HFE.out
    · obtain rfl : L = i := by omega
      have hst : st n L = (List.replicate n 1, List.replicate (n - 2) 1 ++ [0]) := by rw [← HLN.out]; exact HFM.out.fin
      rw [hst] at hF
      have HFZ := Aside0.mk hF
      clear hJ hK hst hF HF
      go_wp2_with fail
      refine wp_loop_ghost_k (fun m a W' => ∃ (j : Nat) (y : Nat → Value), m = n - j ∧ j ≤ n ∧ W' = W ∧ a = { tmps := List.toArray ((.int .i64 (n : Int) : Value) :: y 1 :: y 2 :: (.slice At L ct : Value) :: y 4 :: (.int .i64 (CK.rr n : Int) : Value) :: (.int .i64 B : Value) :: y 7 :: (.slice (some ⟨gS, 0, none⟩) n n : Value) :: (.slice (some ⟨gW, 0, none⟩) L L : Value) :: y 10 :: y 11 :: y 12 :: y 13 :: (.int .i64 (j : Int) : Value) :: y 15 :: y 16 :: y 17 :: y 18 :: y 19 :: y 20 :: y 21 :: y 22 :: y 23 :: y 24 :: y 25 :: y 26 :: y 27 :: y 28 :: y 29 :: y 30 :: y 31 :: y 32 :: y 33 :: y 34 :: y 35 :: y 36 :: y 37 :: y 38 :: y 39 :: y 40 :: y 41 :: y 42 :: y 43 :: y 44 :: y 45 :: y 46 :: y 47 :: y 48 :: y 49 :: y 50 :: y 51 :: y 52 :: y 53 :: y 54 :: y 55 :: y 56 :: y 57 :: y 58 :: y 59 :: y 60 :: y 61 :: y 62 :: y 63 :: y 64 :: y 65 :: y 66 :: y 67 :: y 68 :: y 69 :: y 70 :: y 71 :: y 72 :: y 73 :: y 74 :: y 75 :: y 76 :: y 77 :: y 78 :: y 79 :: y 80 :: y 81 :: y 82 :: y 83 :: y 84 :: y 85 :: y 86 :: y 87 :: y 88 :: y 89 :: y 90 :: y 91 :: y 92 :: y 93 :: y 94 :: y 95 :: y 96 :: y 97 :: y 98 :: y 99 :: y 100 :: y 101 :: y 102 :: y 103 :: y 104 :: y 105 :: y 106 :: y 107 :: y 108 :: y 109 :: y 110 :: y 111 :: y 112 :: y 113 :: y 114 :: y 115 :: y 116 :: y 117 :: y 118 :: y 119 :: y 120 :: y 121 :: y 122 :: y 123 :: y 124 :: y 125 :: y 126 :: y 127 :: y 128 :: y 129 :: y 130 :: y 131 :: y 132 :: y 133 :: y 134 :: y 135 :: y 136 :: y 137 :: y 138 :: y 139 :: y 140 :: y 141 :: y 142 :: y 143 :: y 144 :: y 145 :: y 146 :: y 147 :: y 148 :: y 149 :: y 150 :: y 151 :: y 152 :: y 153 :: y 154 :: y 155 :: y 156 :: y 157 :: y 158 :: y 159 :: y 160 :: y 161 :: y 162 :: y 163 :: y 164 :: y 165 :: y 166 :: y 167 :: y 168 :: y 169 :: y 170 :: y 171 :: y 172 :: y 173 :: y 174 :: y 175 :: y 176 :: y 177 :: y 178 :: y 179 :: y 180 :: y 181 :: y 182 :: y 183 :: y 184 :: y 185 :: y 186 :: y 187 :: y 188 :: y 189 :: y 190 :: y 191 :: y 192 :: y 193 :: y 194 :: y 195 :: y 196 :: y 197 :: y 198 :: y 199 :: y 200 :: y 201 :: y 202 :: y 203 :: y 204 :: y 205 :: y 206 :: y 207 :: y 208 :: y 209 :: y 210 :: y 211 :: y 212 :: y 213 :: y 214 :: y 215 :: y 216 :: y 217 :: y 218 :: y 219 :: y 220 :: y 221 :: y 222 :: y 223 :: y 224 :: y 225 :: y 226 :: y 227 :: y 228 :: y 229 :: y 230 :: y 231 :: y 232 :: y 233 :: y 234 :: y 235 :: y 236 :: y 237 :: y 238 :: y 239 :: y 240 :: y 241 :: y 242 :: y 243 :: y 244 :: []), defers := [] }) n ?start3 ?round3
      case start3 =>
        have sta : ∀ T : Array Value, T = List.toArray ((.int .i64 (n : Int) : Value) :: T.getD 1 undef :: T.getD 2 undef :: (.slice At L ct : Value) :: T.getD 4 undef :: (.int .i64 (CK.rr n : Int) : Value) :: (.int .i64 B : Value) :: T.getD 7 undef :: (.slice (some ⟨gS, 0, none⟩) n n : Value) :: (.slice (some ⟨gW, 0, none⟩) L L : Value) :: T.getD 10 undef :: T.getD 11 undef :: T.getD 12 undef :: T.getD 13 undef :: (.int .i64 0 : Value) :: T.getD 15 undef :: T.getD 16 undef :: T.getD 17 undef :: T.getD 18 undef :: T.getD 19 undef :: T.getD 20 undef :: T.getD 21 undef :: T.getD 22 undef :: T.getD 23 undef :: T.getD 24 undef :: T.getD 25 undef :: T.getD 26 undef :: T.getD 27 undef :: T.getD 28 undef :: T.getD 29 undef :: T.getD 30 undef :: T.getD 31 undef :: T.getD 32 undef :: T.getD 33 undef :: T.getD 34 undef :: T.getD 35 undef :: T.getD 36 undef :: T.getD 37 undef :: T.getD 38 undef :: T.getD 39 undef :: T.getD 40 undef :: T.getD 41 undef :: T.getD 42 undef :: T.getD 43 undef :: T.getD 44 undef :: T.getD 45 undef :: T.getD 46 undef :: T.getD 47 undef :: T.getD 48 undef :: T.getD 49 undef :: T.getD 50 undef :: T.getD 51 undef :: T.getD 52 undef :: T.getD 53 undef :: T.getD 54 undef :: T.getD 55 undef :: T.getD 56 undef :: T.getD 57 undef :: T.getD 58 undef :: T.getD 59 undef :: T.getD 60 undef :: T.getD 61 undef :: T.getD 62 undef :: T.getD 63 undef :: T.getD 64 undef :: T.getD 65 undef :: T.getD 66 undef :: T.getD 67 undef :: T.getD 68 undef :: T.getD 69 undef :: T.getD 70 undef :: T.getD 71 undef :: T.getD 72 undef :: T.getD 73 undef :: T.getD 74 undef :: T.getD 75 undef :: T.getD 76 undef :: T.getD 77 undef :: T.getD 78 undef :: T.getD 79 undef :: T.getD 80 undef :: T.getD 81 undef :: T.getD 82 undef :: T.getD 83 undef :: T.getD 84 undef :: T.getD 85 undef :: T.getD 86 undef :: T.getD 87 undef :: T.getD 88 undef :: T.getD 89 undef :: T.getD 90 undef :: T.getD 91 undef :: T.getD 92 undef :: T.getD 93 undef :: T.getD 94 undef :: T.getD 95 undef :: T.getD 96 undef :: T.getD 97 undef :: T.getD 98 undef :: T.getD 99 undef :: T.getD 100 undef :: T.getD 101 undef :: T.getD 102 undef :: T.getD 103 undef :: T.getD 104 undef :: T.getD 105 undef :: T.getD 106 undef :: T.getD 107 undef :: T.getD 108 undef :: T.getD 109 undef :: T.getD 110 undef :: T.getD 111 undef :: T.getD 112 undef :: T.getD 113 undef :: T.getD 114 undef :: T.getD 115 undef :: T.getD 116 undef :: T.getD 117 undef :: T.getD 118 undef :: T.getD 119 undef :: T.getD 120 undef :: T.getD 121 undef :: T.getD 122 undef :: T.getD 123 undef :: T.getD 124 undef :: T.getD 125 undef :: T.getD 126 undef :: T.getD 127 undef :: T.getD 128 undef :: T.getD 129 undef :: T.getD 130 undef :: T.getD 131 undef :: T.getD 132 undef :: T.getD 133 undef :: T.getD 134 undef :: T.getD 135 undef :: T.getD 136 undef :: T.getD 137 undef :: T.getD 138 undef :: T.getD 139 undef :: T.getD 140 undef :: T.getD 141 undef :: T.getD 142 undef :: T.getD 143 undef :: T.getD 144 undef :: T.getD 145 undef :: T.getD 146 undef :: T.getD 147 undef :: T.getD 148 undef :: T.getD 149 undef :: T.getD 150 undef :: T.getD 151 undef :: T.getD 152 undef :: T.getD 153 undef :: T.getD 154 undef :: T.getD 155 undef :: T.getD 156 undef :: T.getD 157 undef :: T.getD 158 undef :: T.getD 159 undef :: T.getD 160 undef :: T.getD 161 undef :: T.getD 162 undef :: T.getD 163 undef :: T.getD 164 undef :: T.getD 165 undef :: T.getD 166 undef :: T.getD 167 undef :: T.getD 168 undef :: T.getD 169 undef :: T.getD 170 undef :: T.getD 171 undef :: T.getD 172 undef :: T.getD 173 undef :: T.getD 174 undef :: T.getD 175 undef :: T.getD 176 undef :: T.getD 177 undef :: T.getD 178 undef :: T.getD 179 undef :: T.getD 180 undef :: T.getD 181 undef :: T.getD 182 undef :: T.getD 183 undef :: T.getD 184 undef :: T.getD 185 undef :: T.getD 186 undef :: T.getD 187 undef :: T.getD 188 undef :: T.getD 189 undef :: T.getD 190 undef :: T.getD 191 undef :: T.getD 192 undef :: T.getD 193 undef :: T.getD 194 undef :: T.getD 195 undef :: T.getD 196 undef :: T.getD 197 undef :: T.getD 198 undef :: T.getD 199 undef :: T.getD 200 undef :: T.getD 201 undef :: T.getD 202 undef :: T.getD 203 undef :: T.getD 204 undef :: T.getD 205 undef :: T.getD 206 undef :: T.getD 207 undef :: T.getD 208 undef :: T.getD 209 undef :: T.getD 210 undef :: T.getD 211 undef :: T.getD 212 undef :: T.getD 213 undef :: T.getD 214 undef :: T.getD 215 undef :: T.getD 216 undef :: T.getD 217 undef :: T.getD 218 undef :: T.getD 219 undef :: T.getD 220 undef :: T.getD 221 undef :: T.getD 222 undef :: T.getD 223 undef :: T.getD 224 undef :: T.getD 225 undef :: T.getD 226 undef :: T.getD 227 undef :: T.getD 228 undef :: T.getD 229 undef :: T.getD 230 undef :: T.getD 231 undef :: T.getD 232 undef :: T.getD 233 undef :: T.getD 234 undef :: T.getD 235 undef :: T.getD 236 undef :: T.getD 237 undef :: T.getD 238 undef :: T.getD 239 undef :: T.getD 240 undef :: T.getD 241 undef :: T.getD 242 undef :: T.getD 243 undef :: T.getD 244 undef :: []) → ∃ (j : Nat) (y : Nat → Value), n = n - j ∧ j ≤ n ∧ W = W ∧ (Act.mk T []) = { tmps := List.toArray ((.int .i64 (n : Int) : Value) :: y 1 :: y 2 :: (.slice At L ct : Value) :: y 4 :: (.int .i64 (CK.rr n : Int) : Value) :: (.int .i64 B : Value) :: y 7 :: (.slice (some ⟨gS, 0, none⟩) n n : Value) :: (.slice (some ⟨gW, 0, none⟩) L L : Value) :: y 10 :: y 11 :: y 12 :: y 13 :: (.int .i64 (j : Int) : Value) :: y 15 :: y 16 :: y 17 :: y 18 :: y 19 :: y 20 :: y 21 :: y 22 :: y 23 :: y 24 :: y 25 :: y 26 :: y 27 :: y 28 :: y 29 :: y 30 :: y 31 :: y 32 :: y 33 :: y 34 :: y 35 :: y 36 :: y 37 :: y 38 :: y 39 :: y 40 :: y 41 :: y 42 :: y 43 :: y 44 :: y 45 :: y 46 :: y 47 :: y 48 :: y 49 :: y 50 :: y 51 :: y 52 :: y 53 :: y 54 :: y 55 :: y 56 :: y 57 :: y 58 :: y 59 :: y 60 :: y 61 :: y 62 :: y 63 :: y 64 :: y 65 :: y 66 :: y 67 :: y 68 :: y 69 :: y 70 :: y 71 :: y 72 :: y 73 :: y 74 :: y 75 :: y 76 :: y 77 :: y 78 :: y 79 :: y 80 :: y 81 :: y 82 :: y 83 :: y 84 :: y 85 :: y 86 :: y 87 :: y 88 :: y 89 :: y 90 :: y 91 :: y 92 :: y 93 :: y 94 :: y 95 :: y 96 :: y 97 :: y 98 :: y 99 :: y 100 :: y 101 :: y 102 :: y 103 :: y 104 :: y 105 :: y 106 :: y 107 :: y 108 :: y 109 :: y 110 :: y 111 :: y 112 :: y 113 :: y 114 :: y 115 :: y 116 :: y 117 :: y 118 :: y 119 :: y 120 :: y 121 :: y 122 :: y 123 :: y 124 :: y 125 :: y 126 :: y 127 :: y 128 :: y 129 :: y 130 :: y 131 :: y 132 :: y 133 :: y 134 :: y 135 :: y 136 :: y 137 :: y 138 :: y 139 :: y 140 :: y 141 :: y 142 :: y 143 :: y 144 :: y 145 :: y 146 :: y 147 :: y 148 :: y 149 :: y 150 :: y 151 :: y 152 :: y 153 :: y 154 :: y 155 :: y 156 :: y 157 :: y 158 :: y 159 :: y 160 :: y 161 :: y 162 :: y 163 :: y 164 :: y 165 :: y 166 :: y 167 :: y 168 :: y 169 :: y 170 :: y 171 :: y 172 :: y 173 :: y 174 :: y 175 :: y 176 :: y 177 :: y 178 :: y 179 :: y 180 :: y 181 :: y 182 :: y 183 :: y 184 :: y 185 :: y 186 :: y 187 :: y 188 :: y 189 :: y 190 :: y 191 :: y 192 :: y 193 :: y 194 :: y 195 :: y 196 :: y 197 :: y 198 :: y 199 :: y 200 :: y 201 :: y 202 :: y 203 :: y 204 :: y 205 :: y 206 :: y 207 :: y 208 :: y 209 :: y 210 :: y 211 :: y 212 :: y 213 :: y 214 :: y 215 :: y 216 :: y 217 :: y 218 :: y 219 :: y 220 :: y 221 :: y 222 :: y 223 :: y 224 :: y 225 :: y 226 :: y 227 :: y 228 :: y 229 :: y 230 :: y 231 :: y 232 :: y 233 :: y 234 :: y 235 :: y 236 :: y 237 :: y 238 :: y 239 :: y 240 :: y 241 :: y 242 :: y 243 :: y 244 :: []), defers := [] } := fun T hT =>
          ⟨0, fun i => T.getD i undef, rfl, Nat.zero_le _, rfl, congrArg (fun T => (Act.mk T _)) hT⟩
        exact sta _ rfl
      case round3 =>
        rintro m a W' ⟨j, y, rfl, hj, hWW, rfl⟩ J3 K3 hJ3 hK3
        obtain rfl : W = W' := hWW.symm
        clear hWW
        by_cases hjn : j < n
        · have fin3 : ∀ (T : Array Value), T = List.toArray ((.int .i64 (n : Int) : Value) :: T.getD 1 undef :: T.getD 2 undef :: (.slice At L ct : Value) :: T.getD 4 undef :: (.int .i64 (CK.rr n : Int) : Value) :: (.int .i64 B : Value) :: T.getD 7 undef :: (.slice (some ⟨gS, 0, none⟩) n n : Value) :: (.slice (some ⟨gW, 0, none⟩) L L : Value) :: T.getD 10 undef :: T.getD 11 undef :: T.getD 12 undef :: T.getD 13 undef :: (.int .i64 ((j : Int) + 1) : Value) :: T.getD 15 undef :: T.getD 16 undef :: T.getD 17 undef :: T.getD 18 undef :: T.getD 19 undef :: T.getD 20 undef :: T.getD 21 undef :: T.getD 22 undef :: T.getD 23 undef :: T.getD 24 undef :: T.getD 25 undef :: T.getD 26 undef :: T.getD 27 undef :: T.getD 28 undef :: T.getD 29 undef :: T.getD 30 undef :: T.getD 31 undef :: T.getD 32 undef :: T.getD 33 undef :: T.getD 34 undef :: T.getD 35 undef :: T.getD 36 undef :: T.getD 37 undef :: T.getD 38 undef :: T.getD 39 undef :: T.getD 40 undef :: T.getD 41 undef :: T.getD 42 undef :: T.getD 43 undef :: T.getD 44 undef :: T.getD 45 undef :: T.getD 46 undef :: T.getD 47 undef :: T.getD 48 undef :: T.getD 49 undef :: T.getD 50 undef :: T.getD 51 undef :: T.getD 52 undef :: T.getD 53 undef :: T.getD 54 undef :: T.getD 55 undef :: T.getD 56 undef :: T.getD 57 undef :: T.getD 58 undef :: T.getD 59 undef :: T.getD 60 undef :: T.getD 61 undef :: T.getD 62 undef :: T.getD 63 undef :: T.getD 64 undef :: T.getD 65 undef :: T.getD 66 undef :: T.getD 67 undef :: T.getD 68 undef :: T.getD 69 undef :: T.getD 70 undef :: T.getD 71 undef :: T.getD 72 undef :: T.getD 73 undef :: T.getD 74 undef :: T.getD 75 undef :: T.getD 76 undef :: T.getD 77 undef :: T.getD 78 undef :: T.getD 79 undef :: T.getD 80 undef :: T.getD 81 undef :: T.getD 82 undef :: T.getD 83 undef :: T.getD 84 undef :: T.getD 85 undef :: T.getD 86 undef :: T.getD 87 undef :: T.getD 88 undef :: T.getD 89 undef :: T.getD 90 undef :: T.getD 91 undef :: T.getD 92 undef :: T.getD 93 undef :: T.getD 94 undef :: T.getD 95 undef :: T.getD 96 undef :: T.getD 97 undef :: T.getD 98 undef :: T.getD 99 undef :: T.getD 100 undef :: T.getD 101 undef :: T.getD 102 undef :: T.getD 103 undef :: T.getD 104 undef :: T.getD 105 undef :: T.getD 106 undef :: T.getD 107 undef :: T.getD 108 undef :: T.getD 109 undef :: T.getD 110 undef :: T.getD 111 undef :: T.getD 112 undef :: T.getD 113 undef :: T.getD 114 undef :: T.getD 115 undef :: T.getD 116 undef :: T.getD 117 undef :: T.getD 118 undef :: T.getD 119 undef :: T.getD 120 undef :: T.getD 121 undef :: T.getD 122 undef :: T.getD 123 undef :: T.getD 124 undef :: T.getD 125 undef :: T.getD 126 undef :: T.getD 127 undef :: T.getD 128 undef :: T.getD 129 undef :: T.getD 130 undef :: T.getD 131 undef :: T.getD 132 undef :: T.getD 133 undef :: T.getD 134 undef :: T.getD 135 undef :: T.getD 136 undef :: T.getD 137 undef :: T.getD 138 undef :: T.getD 139 undef :: T.getD 140 undef :: T.getD 141 undef :: T.getD 142 undef :: T.getD 143 undef :: T.getD 144 undef :: T.getD 145 undef :: T.getD 146 undef :: T.getD 147 undef :: T.getD 148 undef :: T.getD 149 undef :: T.getD 150 undef :: T.getD 151 undef :: T.getD 152 undef :: T.getD 153 undef :: T.getD 154 undef :: T.getD 155 undef :: T.getD 156 undef :: T.getD 157 undef :: T.getD 158 undef :: T.getD 159 undef :: T.getD 160 undef :: T.getD 161 undef :: T.getD 162 undef :: T.getD 163 undef :: T.getD 164 undef :: T.getD 165 undef :: T.getD 166 undef :: T.getD 167 undef :: T.getD 168 undef :: T.getD 169 undef :: T.getD 170 undef :: T.getD 171 undef :: T.getD 172 undef :: T.getD 173 undef :: T.getD 174 undef :: T.getD 175 undef :: T.getD 176 undef :: T.getD 177 undef :: T.getD 178 undef :: T.getD 179 undef :: T.getD 180 undef :: T.getD 181 undef :: T.getD 182 undef :: T.getD 183 undef :: T.getD 184 undef :: T.getD 185 undef :: T.getD 186 undef :: T.getD 187 undef :: T.getD 188 undef :: T.getD 189 undef :: T.getD 190 undef :: T.getD 191 undef :: T.getD 192 undef :: T.getD 193 undef :: T.getD 194 undef :: T.getD 195 undef :: T.getD 196 undef :: T.getD 197 undef :: T.getD 198 undef :: T.getD 199 undef :: T.getD 200 undef :: T.getD 201 undef :: T.getD 202 undef :: T.getD 203 undef :: T.getD 204 undef :: T.getD 205 undef :: T.getD 206 undef :: T.getD 207 undef :: T.getD 208 undef :: T.getD 209 undef :: T.getD 210 undef :: T.getD 211 undef :: T.getD 212 undef :: T.getD 213 undef :: T.getD 214 undef :: T.getD 215 undef :: T.getD 216 undef :: T.getD 217 undef :: T.getD 218 undef :: T.getD 219 undef :: T.getD 220 undef :: T.getD 221 undef :: T.getD 222 undef :: T.getD 223 undef :: T.getD 224 undef :: T.getD 225 undef :: T.getD 226 undef :: T.getD 227 undef :: T.getD 228 undef :: T.getD 229 undef :: T.getD 230 undef :: T.getD 231 undef :: T.getD 232 undef :: T.getD 233 undef :: T.getD 234 undef :: T.getD 235 undef :: T.getD 236 undef :: T.getD 237 undef :: T.getD 238 undef :: T.getD 239 undef :: T.getD 240 undef :: T.getD 241 undef :: T.getD 242 undef :: T.getD 243 undef :: T.getD 244 undef :: []) → Handed J3 (n - j) { tmps := T, defers := [] } W := fun T hT =>
            ⟨n - (j + 1), by omega, hJ3 _ _ _ ⟨j + 1, fun i => T.getD i undef, rfl, by omega, rfl, congrArg (fun T => (Act.mk T _)) hT⟩⟩
          obtain ⟨c1, _⟩ := read_row HFZ.out.es j (by simpa using hjn)
          simp only [List.getElem_replicate] at c1
          go_wp2_with fail
          exact fin3 _ rfl
        · obtain rfl : n = j := by omega
          clear hJ3 hK3
          obtain ⟨M, hM⟩ : ∃ M : Nat, (L : Int) - 1 = (M : Int) := ⟨L - 1, by have := HLN.out; omega⟩
          have hMw : wrap64 ((L : Int) - 1) = (M : Int) := by rw [w64 (by omega) (by omega)]; exact hM
          have hML : M < L := by omega
          have hM2 : n - 2 = M := by have := HLN.out; omega
          have HM2 := Aside0.mk hM2
          clear hM2
          go_wp2_with fail
          refine wp_loop_ghost_k (fun m a W' => ∃ (j : Nat) (y : Nat → Value), m = M - j ∧ j ≤ M ∧ W' = W ∧ a = { tmps := List.toArray ((.int .i64 (n : Int) : Value) :: y 1 :: y 2 :: (.slice At L ct : Value) :: y 4 :: (.int .i64 (CK.rr n : Int) : Value) :: (.int .i64 B : Value) :: y 7 :: (.slice (some ⟨gS, 0, none⟩) n n : Value) :: (.slice (some ⟨gW, 0, none⟩) L L : Value) :: y 10 :: y 11 :: y 12 :: y 13 :: y 14 :: (.int .i64 (j : Int) : Value) :: y 16 :: y 17 :: y 18 :: y 19 :: y 20 :: y 21 :: y 22 :: y 23 :: y 24 :: y 25 :: y 26 :: y 27 :: y 28 :: y 29 :: y 30 :: y 31 :: y 32 :: y 33 :: y 34 :: y 35 :: y 36 :: y 37 :: y 38 :: y 39 :: y 40 :: y 41 :: y 42 :: y 43 :: y 44 :: y 45 :: y 46 :: y 47 :: y 48 :: y 49 :: y 50 :: y 51 :: y 52 :: y 53 :: y 54 :: y 55 :: y 56 :: y 57 :: y 58 :: y 59 :: y 60 :: y 61 :: y 62 :: y 63 :: y 64 :: y 65 :: y 66 :: y 67 :: y 68 :: y 69 :: y 70 :: y 71 :: y 72 :: y 73 :: y 74 :: y 75 :: y 76 :: y 77 :: y 78 :: y 79 :: y 80 :: y 81 :: y 82 :: y 83 :: y 84 :: y 85 :: y 86 :: y 87 :: y 88 :: y 89 :: y 90 :: y 91 :: y 92 :: y 93 :: y 94 :: y 95 :: y 96 :: y 97 :: y 98 :: y 99 :: y 100 :: y 101 :: y 102 :: y 103 :: y 104 :: y 105 :: y 106 :: y 107 :: y 108 :: y 109 :: y 110 :: y 111 :: y 112 :: y 113 :: y 114 :: y 115 :: y 116 :: y 117 :: y 118 :: y 119 :: y 120 :: y 121 :: y 122 :: y 123 :: y 124 :: y 125 :: y 126 :: y 127 :: y 128 :: y 129 :: y 130 :: y 131 :: y 132 :: y 133 :: y 134 :: y 135 :: y 136 :: y 137 :: y 138 :: y 139 :: y 140 :: y 141 :: y 142 :: y 143 :: y 144 :: y 145 :: y 146 :: y 147 :: y 148 :: y 149 :: y 150 :: y 151 :: y 152 :: y 153 :: y 154 :: y 155 :: y 156 :: y 157 :: y 158 :: y 159 :: y 160 :: y 161 :: y 162 :: y 163 :: y 164 :: y 165 :: y 166 :: y 167 :: y 168 :: y 169 :: y 170 :: y 171 :: y 172 :: y 173 :: y 174 :: y 175 :: y 176 :: y 177 :: y 178 :: y 179 :: y 180 :: y 181 :: y 182 :: y 183 :: y 184 :: y 185 :: y 186 :: y 187 :: y 188 :: y 189 :: y 190 :: y 191 :: y 192 :: y 193 :: y 194 :: y 195 :: y 196 :: y 197 :: y 198 :: y 199 :: y 200 :: y 201 :: y 202 :: y 203 :: y 204 :: y 205 :: y 206 :: y 207 :: y 208 :: y 209 :: y 210 :: y 211 :: y 212 :: y 213 :: y 214 :: y 215 :: y 216 :: y 217 :: y 218 :: y 219 :: y 220 :: y 221 :: y 222 :: y 223 :: y 224 :: y 225 :: y 226 :: y 227 :: y 228 :: y 229 :: y 230 :: y 231 :: y 232 :: y 233 :: y 234 :: y 235 :: y 236 :: y 237 :: y 238 :: y 239 :: y 240 :: y 241 :: y 242 :: y 243 :: y 244 :: []), defers := [] }) M ?start4 ?round4
          case start4 =>
            have sta : ∀ T : Array Value, T = List.toArray ((.int .i64 (n : Int) : Value) :: T.getD 1 undef :: T.getD 2 undef :: (.slice At L ct : Value) :: T.getD 4 undef :: (.int .i64 (CK.rr n : Int) : Value) :: (.int .i64 B : Value) :: T.getD 7 undef :: (.slice (some ⟨gS, 0, none⟩) n n : Value) :: (.slice (some ⟨gW, 0, none⟩) L L : Value) :: T.getD 10 undef :: T.getD 11 undef :: T.getD 12 undef :: T.getD 13 undef :: T.getD 14 undef :: (.int .i64 0 : Value) :: T.getD 16 undef :: T.getD 17 undef :: T.getD 18 undef :: T.getD 19 undef :: T.getD 20 undef :: T.getD 21 undef :: T.getD 22 undef :: T.getD 23 undef :: T.getD 24 undef :: T.getD 25 undef :: T.getD 26 undef :: T.getD 27 undef :: T.getD 28 undef :: T.getD 29 undef :: T.getD 30 undef :: T.getD 31 undef :: T.getD 32 undef :: T.getD 33 undef :: T.getD 34 undef :: T.getD 35 undef :: T.getD 36 undef :: T.getD 37 undef :: T.getD 38 undef :: T.getD 39 undef :: T.getD 40 undef :: T.getD 41 undef :: T.getD 42 undef :: T.getD 43 undef :: T.getD 44 undef :: T.getD 45 undef :: T.getD 46 undef :: T.getD 47 undef :: T.getD 48 undef :: T.getD 49 undef :: T.getD 50 undef :: T.getD 51 undef :: T.getD 52 undef :: T.getD 53 undef :: T.getD 54 undef :: T.getD 55 undef :: T.getD 56 undef :: T.getD 57 undef :: T.getD 58 undef :: T.getD 59 undef :: T.getD 60 undef :: T.getD 61 undef :: T.getD 62 undef :: T.getD 63 undef :: T.getD 64 undef :: T.getD 65 undef :: T.getD 66 undef :: T.getD 67 undef :: T.getD 68 undef :: T.getD 69 undef :: T.getD 70 undef :: T.getD 71 undef :: T.getD 72 undef :: T.getD 73 undef :: T.getD 74 undef :: T.getD 75 undef :: T.getD 76 undef :: T.getD 77 undef :: T.getD 78 undef :: T.getD 79 undef :: T.getD 80 undef :: T.getD 81 undef :: T.getD 82 undef :: T.getD 83 undef :: T.getD 84 undef :: T.getD 85 undef :: T.getD 86 undef :: T.getD 87 undef :: T.getD 88 undef :: T.getD 89 undef :: T.getD 90 undef :: T.getD 91 undef :: T.getD 92 undef :: T.getD 93 undef :: T.getD 94 undef :: T.getD 95 undef :: T.getD 96 undef :: T.getD 97 undef :: T.getD 98 undef :: T.getD 99 undef :: T.getD 100 undef :: T.getD 101 undef :: T.getD 102 undef :: T.getD 103 undef :: T.getD 104 undef :: T.getD 105 undef :: T.getD 106 undef :: T.getD 107 undef :: T.getD 108 undef :: T.getD 109 undef :: T.getD 110 undef :: T.getD 111 undef :: T.getD 112 undef :: T.getD 113 undef :: T.getD 114 undef :: T.getD 115 undef :: T.getD 116 undef :: T.getD 117 undef :: T.getD 118 undef :: T.getD 119 undef :: T.getD 120 undef :: T.getD 121 undef :: T.getD 122 undef :: T.getD 123 undef :: T.getD 124 undef :: T.getD 125 undef :: T.getD 126 undef :: T.getD 127 undef :: T.getD 128 undef :: T.getD 129 undef :: T.getD 130 undef :: T.getD 131 undef :: T.getD 132 undef :: T.getD 133 undef :: T.getD 134 undef :: T.getD 135 undef :: T.getD 136 undef :: T.getD 137 undef :: T.getD 138 undef :: T.getD 139 undef :: T.getD 140 undef :: T.getD 141 undef :: T.getD 142 undef :: T.getD 143 undef :: T.getD 144 undef :: T.getD 145 undef :: T.getD 146 undef :: T.getD 147 undef :: T.getD 148 undef :: T.getD 149 undef :: T.getD 150 undef :: T.getD 151 undef :: T.getD 152 undef :: T.getD 153 undef :: T.getD 154 undef :: T.getD 155 undef :: T.getD 156 undef :: T.getD 157 undef :: T.getD 158 undef :: T.getD 159 undef :: T.getD 160 undef :: T.getD 161 undef :: T.getD 162 undef :: T.getD 163 undef :: T.getD 164 undef :: T.getD 165 undef :: T.getD 166 undef :: T.getD 167 undef :: T.getD 168 undef :: T.getD 169 undef :: T.getD 170 undef :: T.getD 171 undef :: T.getD 172 undef :: T.getD 173 undef :: T.getD 174 undef :: T.getD 175 undef :: T.getD 176 undef :: T.getD 177 undef :: T.getD 178 undef :: T.getD 179 undef :: T.getD 180 undef :: T.getD 181 undef :: T.getD 182 undef :: T.getD 183 undef :: T.getD 184 undef :: T.getD 185 undef :: T.getD 186 undef :: T.getD 187 undef :: T.getD 188 undef :: T.getD 189 undef :: T.getD 190 undef :: T.getD 191 undef :: T.getD 192 undef :: T.getD 193 undef :: T.getD 194 undef :: T.getD 195 undef :: T.getD 196 undef :: T.getD 197 undef :: T.getD 198 undef :: T.getD 199 undef :: T.getD 200 undef :: T.getD 201 undef :: T.getD 202 undef :: T.getD 203 undef :: T.getD 204 undef :: T.getD 205 undef :: T.getD 206 undef :: T.getD 207 undef :: T.getD 208 undef :: T.getD 209 undef :: T.getD 210 undef :: T.getD 211 undef :: T.getD 212 undef :: T.getD 213 undef :: T.getD 214 undef :: T.getD 215 undef :: T.getD 216 undef :: T.getD 217 undef :: T.getD 218 undef :: T.getD 219 undef :: T.getD 220 undef :: T.getD 221 undef :: T.getD 222 undef :: T.getD 223 undef :: T.getD 224 undef :: T.getD 225 undef :: T.getD 226 undef :: T.getD 227 undef :: T.getD 228 undef :: T.getD 229 undef :: T.getD 230 undef :: T.getD 231 undef :: T.getD 232 undef :: T.getD 233 undef :: T.getD 234 undef :: T.getD 235 undef :: T.getD 236 undef :: T.getD 237 undef :: T.getD 238 undef :: T.getD 239 undef :: T.getD 240 undef :: T.getD 241 undef :: T.getD 242 undef :: T.getD 243 undef :: T.getD 244 undef :: []) → ∃ (j : Nat) (y : Nat → Value), M = M - j ∧ j ≤ M ∧ W = W ∧ (Act.mk T []) = { tmps := List.toArray ((.int .i64 (n : Int) : Value) :: y 1 :: y 2 :: (.slice At L ct : Value) :: y 4 :: (.int .i64 (CK.rr n : Int) : Value) :: (.int .i64 B : Value) :: y 7 :: (.slice (some ⟨gS, 0, none⟩) n n : Value) :: (.slice (some ⟨gW, 0, none⟩) L L : Value) :: y 10 :: y 11 :: y 12 :: y 13 :: y 14 :: (.int .i64 (j : Int) : Value) :: y 16 :: y 17 :: y 18 :: y 19 :: y 20 :: y 21 :: y 22 :: y 23 :: y 24 :: y 25 :: y 26 :: y 27 :: y 28 :: y 29 :: y 30 :: y 31 :: y 32 :: y 33 :: y 34 :: y 35 :: y 36 :: y 37 :: y 38 :: y 39 :: y 40 :: y 41 :: y 42 :: y 43 :: y 44 :: y 45 :: y 46 :: y 47 :: y 48 :: y 49 :: y 50 :: y 51 :: y 52 :: y 53 :: y 54 :: y 55 :: y 56 :: y 57 :: y 58 :: y 59 :: y 60 :: y 61 :: y 62 :: y 63 :: y 64 :: y 65 :: y 66 :: y 67 :: y 68 :: y 69 :: y 70 :: y 71 :: y 72 :: y 73 :: y 74 :: y 75 :: y 76 :: y 77 :: y 78 :: y 79 :: y 80 :: y 81 :: y 82 :: y 83 :: y 84 :: y 85 :: y 86 :: y 87 :: y 88 :: y 89 :: y 90 :: y 91 :: y 92 :: y 93 :: y 94 :: y 95 :: y 96 :: y 97 :: y 98 :: y 99 :: y 100 :: y 101 :: y 102 :: y 103 :: y 104 :: y 105 :: y 106 :: y 107 :: y 108 :: y 109 :: y 110 :: y 111 :: y 112 :: y 113 :: y 114 :: y 115 :: y 116 :: y 117 :: y 118 :: y 119 :: y 120 :: y 121 :: y 122 :: y 123 :: y 124 :: y 125 :: y 126 :: y 127 :: y 128 :: y 129 :: y 130 :: y 131 :: y 132 :: y 133 :: y 134 :: y 135 :: y 136 :: y 137 :: y 138 :: y 139 :: y 140 :: y 141 :: y 142 :: y 143 :: y 144 :: y 145 :: y 146 :: y 147 :: y 148 :: y 149 :: y 150 :: y 151 :: y 152 :: y 153 :: y 154 :: y 155 :: y 156 :: y 157 :: y 158 :: y 159 :: y 160 :: y 161 :: y 162 :: y 163 :: y 164 :: y 165 :: y 166 :: y 167 :: y 168 :: y 169 :: y 170 :: y 171 :: y 172 :: y 173 :: y 174 :: y 175 :: y 176 :: y 177 :: y 178 :: y 179 :: y 180 :: y 181 :: y 182 :: y 183 :: y 184 :: y 185 :: y 186 :: y 187 :: y 188 :: y 189 :: y 190 :: y 191 :: y 192 :: y 193 :: y 194 :: y 195 :: y 196 :: y 197 :: y 198 :: y 199 :: y 200 :: y 201 :: y 202 :: y 203 :: y 204 :: y 205 :: y 206 :: y 207 :: y 208 :: y 209 :: y 210 :: y 211 :: y 212 :: y 213 :: y 214 :: y 215 :: y 216 :: y 217 :: y 218 :: y 219 :: y 220 :: y 221 :: y 222 :: y 223 :: y 224 :: y 225 :: y 226 :: y 227 :: y 228 :: y 229 :: y 230 :: y 231 :: y 232 :: y 233 :: y 234 :: y 235 :: y 236 :: y 237 :: y 238 :: y 239 :: y 240 :: y 241 :: y 242 :: y 243 :: y 244 :: []), defers := [] } := fun T hT =>
              ⟨0, fun i => T.getD i undef, rfl, Nat.zero_le _, rfl, congrArg (fun T => (Act.mk T _)) hT⟩
            exact sta _ rfl
          case round4 =>
            rintro m a W' ⟨j, y, rfl, hj, hWW, rfl⟩ J4 K4 hJ4 hK4
            obtain rfl : W = W' := hWW.symm
            clear hWW
            by_cases hjM : j < M
            · have fin4 : ∀ (T : Array Value), T = List.toArray ((.int .i64 (n : Int) : Value) :: T.getD 1 undef :: T.getD 2 undef :: (.slice At L ct : Value) :: T.getD 4 undef :: (.int .i64 (CK.rr n : Int) : Value) :: (.int .i64 B : Value) :: T.getD 7 undef :: (.slice (some ⟨gS, 0, none⟩) n n : Value) :: (.slice (some ⟨gW, 0, none⟩) L L : Value) :: T.getD 10 undef :: T.getD 11 undef :: T.getD 12 undef :: T.getD 13 undef :: T.getD 14 undef :: (.int .i64 ((j : Int) + 1) : Value) :: T.getD 16 undef :: T.getD 17 undef :: T.getD 18 undef :: T.getD 19 undef :: T.getD 20 undef :: T.getD 21 undef :: T.getD 22 undef :: T.getD 23 undef :: T.getD 24 undef :: T.getD 25 undef :: T.getD 26 undef :: T.getD 27 undef :: T.getD 28 undef :: T.getD 29 undef :: T.getD 30 undef :: T.getD 31 undef :: T.getD 32 undef :: T.getD 33 undef :: T.getD 34 undef :: T.getD 35 undef :: T.getD 36 undef :: T.getD 37 undef :: T.getD 38 undef :: T.getD 39 undef :: T.getD 40 undef :: T.getD 41 undef :: T.getD 42 undef :: T.getD 43 undef :: T.getD 44 undef :: T.getD 45 undef :: T.getD 46 undef :: T.getD 47 undef :: T.getD 48 undef :: T.getD 49 undef :: T.getD 50 undef :: T.getD 51 undef :: T.getD 52 undef :: T.getD 53 undef :: T.getD 54 undef :: T.getD 55 undef :: T.getD 56 undef :: T.getD 57 undef :: T.getD 58 undef :: T.getD 59 undef :: T.getD 60 undef :: T.getD 61 undef :: T.getD 62 undef :: T.getD 63 undef :: T.getD 64 undef :: T.getD 65 undef :: T.getD 66 undef :: T.getD 67 undef :: T.getD 68 undef :: T.getD 69 undef :: T.getD 70 undef :: T.getD 71 undef :: T.getD 72 undef :: T.getD 73 undef :: T.getD 74 undef :: T.getD 75 undef :: T.getD 76 undef :: T.getD 77 undef :: T.getD 78 undef :: T.getD 79 undef :: T.getD 80 undef :: T.getD 81 undef :: T.getD 82 undef :: T.getD 83 undef :: T.getD 84 undef :: T.getD 85 undef :: T.getD 86 undef :: T.getD 87 undef :: T.getD 88 undef :: T.getD 89 undef :: T.getD 90 undef :: T.getD 91 undef :: T.getD 92 undef :: T.getD 93 undef :: T.getD 94 undef :: T.getD 95 undef :: T.getD 96 undef :: T.getD 97 undef :: T.getD 98 undef :: T.getD 99 undef :: T.getD 100 undef :: T.getD 101 undef :: T.getD 102 undef :: T.getD 103 undef :: T.getD 104 undef :: T.getD 105 undef :: T.getD 106 undef :: T.getD 107 undef :: T.getD 108 undef :: T.getD 109 undef :: T.getD 110 undef :: T.getD 111 undef :: T.getD 112 undef :: T.getD 113 undef :: T.getD 114 undef :: T.getD 115 undef :: T.getD 116 undef :: T.getD 117 undef :: T.getD 118 undef :: T.getD 119 undef :: T.getD 120 undef :: T.getD 121 undef :: T.getD 122 undef :: T.getD 123 undef :: T.getD 124 undef :: T.getD 125 undef :: T.getD 126 undef :: T.getD 127 undef :: T.getD 128 undef :: T.getD 129 undef :: T.getD 130 undef :: T.getD 131 undef :: T.getD 132 undef :: T.getD 133 undef :: T.getD 134 undef :: T.getD 135 undef :: T.getD 136 undef :: T.getD 137 undef :: T.getD 138 undef :: T.getD 139 undef :: T.getD 140 undef :: T.getD 141 undef :: T.getD 142 undef :: T.getD 143 undef :: T.getD 144 undef :: T.getD 145 undef :: T.getD 146 undef :: T.getD 147 undef :: T.getD 148 undef :: T.getD 149 undef :: T.getD 150 undef :: T.getD 151 undef :: T.getD 152 undef :: T.getD 153 undef :: T.getD 154 undef :: T.getD 155 undef :: T.getD 156 undef :: T.getD 157 undef :: T.getD 158 undef :: T.getD 159 undef :: T.getD 160 undef :: T.getD 161 undef :: T.getD 162 undef :: T.getD 163 undef :: T.getD 164 undef :: T.getD 165 undef :: T.getD 166 undef :: T.getD 167 undef :: T.getD 168 undef :: T.getD 169 undef :: T.getD 170 undef :: T.getD 171 undef :: T.getD 172 undef :: T.getD 173 undef :: T.getD 174 undef :: T.getD 175 undef :: T.getD 176 undef :: T.getD 177 undef :: T.getD 178 undef :: T.getD 179 undef :: T.getD 180 undef :: T.getD 181 undef :: T.getD 182 undef :: T.getD 183 undef :: T.getD 184 undef :: T.getD 185 undef :: T.getD 186 undef :: T.getD 187 undef :: T.getD 188 undef :: T.getD 189 undef :: T.getD 190 undef :: T.getD 191 undef :: T.getD 192 undef :: T.getD 193 undef :: T.getD 194 undef :: T.getD 195 undef :: T.getD 196 undef :: T.getD 197 undef :: T.getD 198 undef :: T.getD 199 undef :: T.getD 200 undef :: T.getD 201 undef :: T.getD 202 undef :: T.getD 203 undef :: T.getD 204 undef :: T.getD 205 undef :: T.getD 206 undef :: T.getD 207 undef :: T.getD 208 undef :: T.getD 209 undef :: T.getD 210 undef :: T.getD 211 undef :: T.getD 212 undef :: T.getD 213 undef :: T.getD 214 undef :: T.getD 215 undef :: T.getD 216 undef :: T.getD 217 undef :: T.getD 218 undef :: T.getD 219 undef :: T.getD 220 undef :: T.getD 221 undef :: T.getD 222 undef :: T.getD 223 undef :: T.getD 224 undef :: T.getD 225 undef :: T.getD 226 undef :: T.getD 227 undef :: T.getD 228 undef :: T.getD 229 undef :: T.getD 230 undef :: T.getD 231 undef :: T.getD 232 undef :: T.getD 233 undef :: T.getD 234 undef :: T.getD 235 undef :: T.getD 236 undef :: T.getD 237 undef :: T.getD 238 undef :: T.getD 239 undef :: T.getD 240 undef :: T.getD 241 undef :: T.getD 242 undef :: T.getD 243 undef :: T.getD 244 undef :: []) → Handed J4 (M - j) { tmps := T, defers := [] } W := fun T hT =>
                ⟨M - (j + 1), by omega, hJ4 _ _ _ ⟨j + 1, fun i => T.getD i undef, rfl, by omega, rfl, congrArg (fun T => (Act.mk T _)) hT⟩⟩
              obtain ⟨c1, _⟩ := read_row HFZ.out.ew j (by have := HM2.out; simp; omega)
              rw [List.getElem_append_left (by have := HM2.out; simp; omega), List.getElem_replicate] at c1
              have hjL : j < L := by omega
              go_wp2_with fail
              exact fin4 _ rfl
            · obtain rfl : M = j := by omega
              clear hJ4 hK4
              obtain ⟨c1, _⟩ := read_row HFZ.out.ew M (by have := HM2.out; simp; omega)
              rw [List.getElem_append_right (by have := HM2.out; simp; omega)] at c1
              simp only [List.getElem_singleton] at c1
              obtain ⟨g, rfl, r0, _, _⟩ := tie_at HFZ.out HL.out hML
              have htop := HFM.out.top
              rw [HM2.out] at htop
              rw [htop] at r0
              have hr6 := HFM.out.rr6
              have hrw : wrap64 ((CK.rr n : Int) - 1) = (CK.rr n : Int) - 1 := w64 (by omega) (by omega)
              clear htop hr6
              go_wp2_with fail
              exact bodyPost_ret (v := .bool true) (by simp [results, Try.results6, go_sem]) rfl ⟨rfl, HFZ.out.hb⟩
set_option maxRecDepth 100000 in
theorem form_bad (a0 : Int) (h : ¬ (2 ≤ a0 ∧ a0 ≤ 64)) (w : World) : Calls Try.prog 6 #[.int .i64 a0] w fun e w' => e = .returned (.bool true) ∧ Below w.heap.size w w' := by
  have hr : cups_Rounds.f a0 = some (0, 0, 1) := by
    unfold cups_Rounds.f
    by_cases h2 : a0 < 2
    · rw [if_pos h2]
    · rw [if_neg h2, if_pos (by omega)]
  have HR := Aside0.mk hr
  clear hr
  go_enter Try.func6, Try.ntmps6
  go_wp2_with fail
  refine (fastilaw23_sane.calls true w rfl).mono ?_
  rintro e w1 ⟨rfl, hb1⟩
  have HB1 := Aside0.mk hb1
  clear hb1
  go_wp2_with fail
  refine (CK.make_bad a0 h w1).mono ?_
  rintro e w2 ⟨rfl, hb2⟩
  have HB2 := Aside0.mk (below_then HB1.out HB1.out.size hb2)
  clear hb2 h
  go_wp2_with fail
  refine (cups_Rounds.calls a0 0 0 1 w2 HR.out).mono ?_
  rintro e w3 ⟨rfl, ⟨n3, rfl⟩⟩
  go_wp2_with fail
  exact bodyPost_ret (v := .bool true) (by simp [results, Try.results6, go_sem]) rfl ⟨rfl, pw_below_drewN HB2.out n3⟩
theorem form_walk (a0 : Int) (w : World) : Calls Try.prog 6 #[.int .i64 a0] w fun e w' => e = .returned (.bool true) ∧ Below w.heap.size w w' := by
  by_cases h : 2 ≤ a0 ∧ a0 ≤ 64
  · obtain ⟨n, rfl⟩ : ∃ n : Nat, a0 = (n : Int) := ⟨a0.toNat, (Int.toNat_of_nonneg (by omega)).symm⟩
    exact form_good n (by omega) (by omega) w
  · exact form_bad a0 h w
end CF
end Go.Proofs.Ytaadhandkljcdaa.X
