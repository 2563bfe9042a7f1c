/- Proved here: what the law function DaysCounted returns: true, for every input (CW) -/
import Derived.Test.YtpodgkmgameocaaDoorX0
import Derived.Test.YtpodgkmgameocaaDoorK
import Derived.Test.YtpodgkmgameocaaDoorX6
import Derived.Test.YtpodgkmgameocaaDoorX20b
import Derived.Test.YtpodgkmgameocaaDoorXComb
import Derived.Test.YtpodgkmgameocaaDoorQCounted
import Derived.Test.YtpodgkmgameocaaDoorQHas
namespace Go.Proofs.YtpodgkmgameocaaDoor.X
open Go.RowKit Go.Proofs.YtpodgkmgameocaaDoorW.PrintWords Go.Proofs.YtpodgkmgameocaaDoorW.PrintLast Go.Proofs.YtpodgkmgameocaaDoorW.PrintMore
attribute [local go_sem] max2_int min2_int max_two min_two max_three min_three max_four min_four
set_option linter.unusedVariables false
set_option linter.unusedSimpArgs false
namespace CW
open Go.Proofs.YtpodgkmgameocaaDoor.K DQ
attribute [local go_sem] Oper.semAt_some
set_option maxHeartbeats 16000000
set_option maxRecDepth 100000
/-- The arguments refused: true. -/
theorem skip0 (A0 : Option Addr) (c0 : Nat) (l0 : List S45) (A1 : Option Addr) (c1 : Nat) (l1 : List S45) (kk : Int) (w : World) (hgl : GL.Glob w) (h : 128 < l0.length) :
    Calls Tryd.prog 8 #[.slice A0 l0.length c0, .slice A1 l1.length c1, .int .i64 kk] w fun e w' => e = .returned (.bool true) ∧ Below w.heap.size w w' := by
  have k1 : decide ((l0.length : Int) > 128) = true := decide_eq_true (by omega)
  clear h
  obtain ⟨n0, hn0⟩ : ∃ n0 : Nat, l0.length = n0 := ⟨_, rfl⟩
  rw [hn0] at k1 ⊢
  clear hn0
  have HG := Aside0.mk hgl
  clear hgl
  go_enter Tryd.func8, Tryd.ntmps8
  go_wp2_with fail
  refine (fastilaw12_sane.calls true w HG.out rfl).mono ?_
  rintro e w1 ⟨rfl, B1⟩
  have E1 := Aside0.mk B1
  clear B1
  go_wp2_with fail
  exact bodyPost_ret (v := .bool true) (by simp [results, Tryd.results8, go_sem]) rfl ⟨rfl, E1.out⟩
theorem skip1 (A0 : Option Addr) (c0 : Nat) (l0 : List S45) (A1 : Option Addr) (c1 : Nat) (l1 : List S45) (kk : Int) (w : World) (hgl : GL.Glob w) (h0 : ¬ 128 < l0.length) (h : 128 < l1.length) :
    Calls Tryd.prog 8 #[.slice A0 l0.length c0, .slice A1 l1.length c1, .int .i64 kk] w fun e w' => e = .returned (.bool true) ∧ Below w.heap.size w w' := by
  have k0 : decide ((l0.length : Int) > 128) = false := decide_eq_false (by omega)
  have k1 : decide ((l1.length : Int) > 128) = true := decide_eq_true (by omega)
  clear h h0
  obtain ⟨n0, hn0⟩ : ∃ n0 : Nat, l0.length = n0 := ⟨_, rfl⟩
  obtain ⟨n1, hn1⟩ : ∃ n1 : Nat, l1.length = n1 := ⟨_, rfl⟩
  rw [hn0] at k0 ⊢
  rw [hn1] at k1 ⊢
  clear hn0 hn1
  have HG := Aside0.mk hgl
  clear hgl
  go_enter Tryd.func8, Tryd.ntmps8
  go_wp2_with fail
  refine (fastilaw12_sane.calls true w HG.out rfl).mono ?_
  rintro e w1 ⟨rfl, B1⟩
  have E1 := Aside0.mk B1
  clear B1
  go_wp2_with fail
  exact bodyPost_ret (v := .bool true) (by simp [results, Tryd.results8, go_sem]) rfl ⟨rfl, E1.out⟩
theorem skip2 (A0 : Option Addr) (c0 : Nat) (l0 : List S45) (A1 : Option Addr) (c1 : Nat) (l1 : List S45) (kk : Int) (w : World) (hgl : GL.Glob w) (hr0 : Kd.C k45 w A0 l0.length l0) (hc0 : l0.length ≤ c0) (h0 : ¬ 128 < l0.length) (h1 : ¬ 128 < l1.length) (h : SS.chk l0 ≠ 0) :
    Calls Tryd.prog 8 #[.slice A0 l0.length c0, .slice A1 l1.length c1, .int .i64 kk] w fun e w' => e = .returned (.bool true) ∧ Below w.heap.size w w' := by
  have k0 : decide ((l0.length : Int) > 128) = false := decide_eq_false (by omega)
  have k1 : decide ((l1.length : Int) > 128) = false := decide_eq_false (by omega)
  obtain ⟨q0, hq0⟩ := (SS.chk_ev l0).rounds
  have hcc := fun W (hb : Below w.heap.size w W) => days_Check.calls q0 A0 c0 l0 (SS.chk l0) W (Kd.C_below hr0 hb) hc0 hq0
  clear h0 h1 hr0 hc0 hq0
  obtain ⟨v, hv⟩ : ∃ v, SS.chk l0 = v := ⟨_, rfl⟩
  rw [hv] at h hcc
  have k2 : decide (v = 0) = false := decide_eq_false h
  have k3 : (v != 0) = true := by simpa using h
  have k4 : (v == 0) = false := by simpa using h
  obtain ⟨n0, hn0⟩ : ∃ n0 : Nat, l0.length = n0 := ⟨_, rfl⟩
  obtain ⟨n1, hn1⟩ : ∃ n1 : Nat, l1.length = n1 := ⟨_, rfl⟩
  rw [hn0] at k0 hcc ⊢
  rw [hn1] at k1 ⊢
  clear hn0 hn1 hv h
  have HCC := Aside0.mk hcc
  have HG := Aside0.mk hgl
  clear hgl hcc
  go_enter Tryd.func8, Tryd.ntmps8
  go_wp2_with fail
  refine (fastilaw12_sane.calls true w HG.out rfl).mono ?_
  rintro e w1 ⟨rfl, B1⟩
  have E1 := Aside0.mk B1
  clear B1
  go_wp2_with fail
  refine (HCC.out w1 E1.out).mono ?_
  rintro e w2 ⟨rfl, B2⟩
  have E2 := Aside0.mk (CZ.stepB E1.out B2)
  clear B2 E1
  go_wp2_with fail
  exact bodyPost_ret (v := .bool true) (by simp [results, Tryd.results8, go_sem]) rfl ⟨rfl, E2.out⟩
theorem skip3 (A0 : Option Addr) (c0 : Nat) (l0 : List S45) (A1 : Option Addr) (c1 : Nat) (l1 : List S45) (kk : Int) (w : World) (hgl : GL.Glob w) (hr0 : Kd.C k45 w A0 l0.length l0) (hc0 : l0.length ≤ c0) (hr1 : Kd.C k45 w A1 l1.length l1) (hc1 : l1.length ≤ c1) (h0 : ¬ 128 < l0.length) (h1 : ¬ 128 < l1.length) (ha : SS.chk l0 = 0) (h : SS.chk l1 ≠ 0) :
    Calls Tryd.prog 8 #[.slice A0 l0.length c0, .slice A1 l1.length c1, .int .i64 kk] w fun e w' => e = .returned (.bool true) ∧ Below w.heap.size w w' := by
  have k0 : decide ((l0.length : Int) > 128) = false := decide_eq_false (by omega)
  have k1 : decide ((l1.length : Int) > 128) = false := decide_eq_false (by omega)
  obtain ⟨q0, hq0⟩ := (SS.chk_ev l0).rounds
  obtain ⟨q1, hq1⟩ := (SS.chk_ev l1).rounds
  rw [ha] at hq0
  have hcc := fun W (hb : Below w.heap.size w W) => days_Check.calls q0 A0 c0 l0 0 W (Kd.C_below hr0 hb) hc0 hq0
  have hcd := fun W (hb : Below w.heap.size w W) => days_Check.calls q1 A1 c1 l1 (SS.chk l1) W (Kd.C_below hr1 hb) hc1 hq1
  clear h0 h1 hr0 hc0 hq0 hr1 hc1 hq1 ha
  obtain ⟨v, hv⟩ : ∃ v, SS.chk l1 = v := ⟨_, rfl⟩
  rw [hv] at h hcd
  have k2 : decide (v = 0) = false := decide_eq_false h
  have k3 : (v != 0) = true := by simpa using h
  have k4 : (v == 0) = false := by simpa using h
  obtain ⟨n0, hn0⟩ : ∃ n0 : Nat, l0.length = n0 := ⟨_, rfl⟩
  obtain ⟨n1, hn1⟩ : ∃ n1 : Nat, l1.length = n1 := ⟨_, rfl⟩
  rw [hn0] at k0 hcc ⊢
  rw [hn1] at k1 hcd ⊢
  clear hn0 hn1 hv h
  have HCC := Aside0.mk hcc
  have HCD := Aside0.mk hcd
  have HG := Aside0.mk hgl
  clear hgl hcc hcd
  go_enter Tryd.func8, Tryd.ntmps8
  go_wp2_with fail
  refine (fastilaw12_sane.calls true w HG.out rfl).mono ?_
  rintro e w1 ⟨rfl, B1⟩
  have E1 := Aside0.mk B1
  clear B1
  go_wp2_with fail
  refine (HCC.out w1 E1.out).mono ?_
  rintro e w2 ⟨rfl, B2⟩
  have E2 := Aside0.mk (CZ.stepB E1.out B2)
  clear B2 E1
  go_wp2_with fail
  refine (HCD.out w2 E2.out).mono ?_
  rintro e w3 ⟨rfl, B3⟩
  have E3 := Aside0.mk (CZ.stepB E2.out B3)
  clear B3 E2
  go_wp2_with fail
  exact bodyPost_ret (v := .bool true) (by simp [results, Tryd.results8, go_sem]) rfl ⟨rfl, E3.out⟩
theorem cnt_call {l : List S45} (h : SS.chk l = 0) : ∃ k, days_Count.f k l = some (cnt l, 0) := by
  obtain ⟨k, hk⟩ := (count_ev l).rounds
  rw [if_pos h] at hk
  exact ⟨k, hk⟩
theorem nth_call (l : List S45) (a : Int) (ha : a ≤ 9223372036854775807) : ∃ k, days_Nth.f k l a = some (nthS l a) := (nth_ev l a ha).rounds
theorem main (A0 : Option Addr) (c0 : Nat) (l0 : List S45) (A1 : Option Addr) (c1 : Nat) (l1 : List S45) (kk : Int) (w : World) (hgl : GL.Glob w) (hr0 : Kd.C k45 w A0 l0.length l0) (hc0 : l0.length ≤ c0) (hr1 : Kd.C k45 w A1 l1.length l1) (hc1 : l1.length ≤ c1) (h0 : ¬ 128 < l0.length) (h1 : ¬ 128 < l1.length) (ha : SS.chk l0 = 0) (hb : SS.chk l1 = 0) (hkk : kk ≤ 9223372036854775807) :
    Calls Tryd.prog 8 #[.slice A0 l0.length c0, .slice A1 l1.length c1, .int .i64 kk] w fun e w' => e = .returned (.bool true) ∧ Below w.heap.size w w' := by
  have k0 : decide ((l0.length : Int) > 128) = false := decide_eq_false (by omega)
  have k1 : decide ((l1.length : Int) > 128) = false := decide_eq_false (by omega)
  obtain ⟨q0, hq0⟩ := (SS.chk_ev l0).rounds
  obtain ⟨q1, hq1⟩ := (SS.chk_ev l1).rounds
  rw [ha] at hq0
  rw [hb] at hq1
  obtain ⟨u1, u2, u3⟩ := set_all (fun u v => u || v) rfl ha hb
  obtain ⟨m1, m2, m3⟩ := set_all (fun u v => u && v) rfl ha hb
  obtain ⟨v1, v2, v3⟩ := set_all (fun u v => u && !v) rfl ha hb
  have eu := comb_set (fun u v => u || v) rfl ha hb (by omega)
  have em := comb_set (fun u v => u && v) rfl ha hb (by omega)
  have ew := comb_set (fun u v => u && !v) rfl ha hb (by omega)
  obtain ⟨hs1, hs2⟩ := set_counts ha hb
  obtain ⟨U, hU⟩ : ∃ U, setS (fun u v => u || v) l0 l1 = U := ⟨_, rfl⟩
  obtain ⟨M, hM⟩ : ∃ M, setS (fun u v => u && v) l0 l1 = M := ⟨_, rfl⟩
  obtain ⟨D, hD⟩ : ∃ D, setS (fun u v => u && !v) l0 l1 = D := ⟨_, rfl⟩
  rw [hU] at u1 u2 u3 eu hs1
  rw [hM] at m1 m2 m3 em hs1 hs2
  rw [hD] at v1 v2 v3 ew hs2
  have ku := chk_of u1 (by omega)
  have km := chk_of m1 (by omega)
  have kd := chk_of v1 (by omega)
  obtain ⟨qa, hqa⟩ := cnt_call ha
  obtain ⟨qb, hqb⟩ := cnt_call hb
  obtain ⟨qu, hqu⟩ := cnt_call ku
  obtain ⟨qm, hqm⟩ := cnt_call km
  obtain ⟨qd, hqd⟩ := cnt_call kd
  have ba := And.intro (cnt_nonneg (chk_canon ha)) (cnt_le (chk_canon ha))
  have bb := And.intro (cnt_nonneg (chk_canon hb)) (cnt_le (chk_canon hb))
  have bu := And.intro (cnt_nonneg u1) (cnt_le u1)
  have bm := And.intro (cnt_nonneg m1) (cnt_le m1)
  have bd := And.intro (cnt_nonneg v1) (cnt_le v1)
  obtain ⟨qn, hqn⟩ := nth_call U kk hkk
  have HA : ∀ W, Below w.heap.size w W → _ := fun W hb' => days_Check.calls q0 A0 c0 l0 0 W (Kd.C_below hr0 hb') hc0 hq0
  have HBc : ∀ W, Below w.heap.size w W → _ := fun W hb' => days_Check.calls q1 A1 c1 l1 0 W (Kd.C_below hr1 hb') hc1 hq1
  have HU : ∀ W, Below w.heap.size w W → _ := fun W hb' => days_Union.calls A0 c0 l0 A1 c1 l1 U 0 W (Kd.C_below hr0 hb') hc0 (Kd.C_below hr1 hb') hc1 (by unfold days_Union.f; rw [eu])
  have HM : ∀ W, Below w.heap.size w W → _ := fun W hb' => days_Meet.calls A0 c0 l0 A1 c1 l1 M 0 W (Kd.C_below hr0 hb') hc0 (Kd.C_below hr1 hb') hc1 (by unfold days_Meet.f; rw [em])
  have HD : ∀ W, Below w.heap.size w W → _ := fun W hb' => days_Without.calls A0 c0 l0 A1 c1 l1 D 0 W (Kd.C_below hr0 hb') hc0 (Kd.C_below hr1 hb') hc1 (by unfold days_Without.f; rw [ew])
  have HNA : ∀ W, Below w.heap.size w W → _ := fun W hb' => days_Count.calls qa A0 c0 l0 (cnt l0) 0 W (Kd.C_below hr0 hb') hc0 hqa
  have HNB : ∀ W, Below w.heap.size w W → _ := fun W hb' => days_Count.calls qb A1 c1 l1 (cnt l1) 0 W (Kd.C_below hr1 hb') hc1 hqb
  have HKN : ∀ (xa xb xu xm xw : Int), cnt l0 = xa → cnt l1 = xb → cnt U = xu → cnt M = xm → cnt D = xw → xu + xm = xa + xb ∧ xw = xa - xm := fun xa xb xu xm xw e1 e2 e3 e4 e5 => by rw [← e1, ← e2, ← e3, ← e4, ← e5]; exact ⟨hs1, hs2⟩
  obtain ⟨xa, hxa⟩ : ∃ x, cnt l0 = x := ⟨_, rfl⟩
  obtain ⟨xb, hxb⟩ : ∃ x, cnt l1 = x := ⟨_, rfl⟩
  obtain ⟨xu, hxu⟩ : ∃ x, cnt U = x := ⟨_, rfl⟩
  obtain ⟨xm, hxm⟩ : ∃ x, cnt M = x := ⟨_, rfl⟩
  obtain ⟨xw, hxw⟩ : ∃ x, cnt D = x := ⟨_, rfl⟩
  obtain ⟨s1, s2⟩ := HKN xa xb xu xm xw hxa hxb hxu hxm hxw
  rw [hxa] at ba HNA hs1 hs2
  rw [hxb] at bb HNB
  rw [hxu] at bu hqu
  rw [hxm] at bm hqm
  rw [hxw] at bd hqd
  obtain ⟨n0, hn0⟩ : ∃ n0 : Nat, l0.length = n0 := ⟨_, rfl⟩
  obtain ⟨n1, hn1⟩ : ∃ n1 : Nat, l1.length = n1 := ⟨_, rfl⟩
  rw [hn0] at k0 HA HU HM HD HNA ⊢
  rw [hn1] at k1 HBc HU HM HD HNB ⊢
  replace HA := Aside0.mk HA
  replace HBc := Aside0.mk HBc
  replace HU := Aside0.mk HU
  replace HM := Aside0.mk HM
  replace HD := Aside0.mk HD
  replace HNA := Aside0.mk HNA
  replace HNB := Aside0.mk HNB
  have HQ := Aside0.mk (And.intro hqu (And.intro hqm hqd))
  have HQN := Aside0.mk hqn
  have HG := Aside0.mk hgl
  have HKU := Aside0.mk (And.intro ku (And.intro u1 hxu))
  have HKK := Aside0.mk hkk
  have HS := Aside0.mk (And.intro s1 s2)
  have HBD := Aside0.mk (And.intro ba (And.intro bb (And.intro bu (And.intro bm bd))))
  clear hgl hr0 hc0 hr1 hc1 h0 h1 ha hb hkk hq0 hq1 u1 u2 u3 m1 m2 m3 v1 v2 v3 eu em ew hs1 hs2 hU hM hD ku km kd hqa hqb hqu hqm hqd hqn HKN hxa hxb hxu hxm hxw s1 s2 ba bb bu bm bd hn0 hn1
  go_enter Tryd.func8, Tryd.ntmps8
  go_wp2_with fail
  refine (fastilaw12_sane.calls true w HG.out rfl).mono ?_
  rintro e w1 ⟨rfl, B1⟩
  have E1 := Aside0.mk B1
  clear B1
  go_wp2_with fail
  refine (HA.out w1 E1.out).mono ?_
  rintro e w2 ⟨rfl, B2⟩
  have E2 := Aside0.mk (CZ.stepB E1.out B2)
  clear B2 E1
  go_wp2_with fail
  refine (HBc.out w2 E2.out).mono ?_
  rintro e w3 ⟨rfl, B3⟩
  have E3 := Aside0.mk (CZ.stepB E2.out B3)
  clear B3 E2
  go_wp2_with fail
  refine (HU.out w3 E3.out).mono ?_
  rintro e w4 ⟨vu, rfl, Ru, B4⟩
  obtain ⟨Au, cu, rfl, hcu, hCu⟩ := Kd.R_reads Ru
  have E4 := Aside0.mk (CZ.stepB E3.out B4)
  have CU4 := Aside0.mk hCu
  clear B4 E3 Ru hCu
  go_wp2_with fail
  refine (HM.out w4 E4.out).mono ?_
  rintro e w5 ⟨vm, rfl, Rm, B5⟩
  obtain ⟨Am, cm, rfl, hcm, hCm⟩ := Kd.R_reads Rm
  have E5 := Aside0.mk (CZ.stepB E4.out B5)
  have CU5 := Aside0.mk (Kd.C_below CU4.out B5)
  have CM5 := Aside0.mk hCm
  clear B5 E4 Rm hCm CU4
  go_wp2_with fail
  refine (HD.out w5 E5.out).mono ?_
  rintro e w6 ⟨vw, rfl, Rw, B6⟩
  obtain ⟨Aw, cw, rfl, hcw, hCw⟩ := Kd.R_reads Rw
  have E6 := Aside0.mk (CZ.stepB E5.out B6)
  have CU6 := Aside0.mk (Kd.C_below CU5.out B6)
  have CM6 := Aside0.mk (Kd.C_below CM5.out B6)
  have CW6 := Aside0.mk hCw
  clear B6 E5 Rw hCw CU5 CM5
  have HCU := Aside0.mk (And.intro hcu (And.intro hcm hcw))
  have HNU : ∀ W, Below w6.heap.size w6 W → _ := fun W hb' => days_Count.calls _ Au cu U xu 0 W (Kd.C_below CU6.out hb') hcu HQ.out.1
  have HNM : ∀ W, Below w6.heap.size w6 W → _ := fun W hb' => days_Count.calls _ Am cm M xm 0 W (Kd.C_below CM6.out hb') hcm HQ.out.2.1
  have HNW : ∀ W, Below w6.heap.size w6 W → _ := fun W hb' => days_Count.calls _ Aw cw D xw 0 W (Kd.C_below CW6.out hb') hcw HQ.out.2.2
  obtain ⟨nu, hnu⟩ : ∃ n : Nat, U.length = n := ⟨_, rfl⟩
  obtain ⟨nm, hnm⟩ : ∃ n : Nat, M.length = n := ⟨_, rfl⟩
  obtain ⟨nw, hnw⟩ : ∃ n : Nat, D.length = n := ⟨_, rfl⟩
  rw [hnu] at HNU ⊢
  rw [hnm] at HNM ⊢
  rw [hnw] at HNW ⊢
  replace HNU := Aside0.mk HNU
  replace HNM := Aside0.mk HNM
  replace HNW := Aside0.mk HNW
  have HNu := Aside0.mk hnu
  clear hnu hnm hnw hcu hcm hcw
  have HNAw : ∀ W, Below w6.heap.size w6 W → _ := fun W hb' => HNA.out W (E6.out.trans (hb'.mono E6.out.size))
  have HNBw : ∀ W, Below w6.heap.size w6 W → _ := fun W hb' => HNB.out W (E6.out.trans (hb'.mono E6.out.size))
  replace HNAw := Aside0.mk HNAw
  replace HNBw := Aside0.mk HNBw
  go_wp2_with fail
  have b1 := blk_alloc (blk_new w6 (.cells #[.int .i64 0, .int .i64 0, .int .i64 0, .int .i64 0, .int .i64 0] 47)) (.cells #[.slice A0 n0 c0, .slice A1 n1 c1, .slice Au nu cu, .slice Am nm cm, .slice Aw nw cw] 32)
  have b2 := CT.blk_here (w6.alloc (.cells #[.int .i64 0, .int .i64 0, .int .i64 0, .int .i64 0, .int .i64 0] 47)) (.cells #[.slice A0 n0 c0, .slice A1 n1 c1, .slice Au nu cu, .slice Am nm cm, .slice Aw nw cw] 32) (k := w6.heap.size + 1) (by simp)
  have b3 := below_alloc (below_alloc (Below.refl w6.heap.size w6) (.cells #[.int .i64 0, .int .i64 0, .int .i64 0, .int .i64 0, .int .i64 0] 47)) (.cells #[.slice A0 n0 c0, .slice A1 n1 c1, .slice Au nu cu, .slice Am nm cm, .slice Aw nw cw] 32)
  obtain ⟨w7, hw7⟩ : ∃ w7, (w6.alloc (.cells #[.int .i64 0, .int .i64 0, .int .i64 0, .int .i64 0, .int .i64 0] 47)).alloc (.cells #[.slice A0 n0 c0, .slice A1 n1 c1, .slice Au nu cu, .slice Am nm cm, .slice Aw nw cw] 32) = w7 := ⟨_, rfl⟩
  obtain ⟨gn, hgn⟩ : ∃ g, w6.heap.size = g := ⟨_, rfl⟩
  obtain ⟨gs, hgs⟩ : ∃ g, gn + 1 = g := ⟨_, rfl⟩
  rw [hw7, hgn] at b1 b2
  rw [hgs] at b2
  rw [hw7] at b3
  rw [hw7, hgn, hgs]
  have L1 := Aside0.mk (And.intro b3 (And.intro b1 b2))
  have HGN0 := Aside0.mk (And.intro hgn hgs)
  clear b1 b2 b3 hw7 hgn hgs
  refine wp_loop_ghost_k (fun q a W => ∃ (i : Int) (ar : Array Value) (u : Nat → Value), q = (5 - i).toNat ∧ ((i = 0 ∧ ar = #[.int .i64 0, .int .i64 0, .int .i64 0, .int .i64 0, .int .i64 0]) ∨ (i = 1 ∧ ar = #[.int .i64 xa, .int .i64 0, .int .i64 0, .int .i64 0, .int .i64 0]) ∨ (i = 2 ∧ ar = #[.int .i64 xa, .int .i64 xb, .int .i64 0, .int .i64 0, .int .i64 0]) ∨ (i = 3 ∧ ar = #[.int .i64 xa, .int .i64 xb, .int .i64 xu, .int .i64 0, .int .i64 0]) ∨ (i = 4 ∧ ar = #[.int .i64 xa, .int .i64 xb, .int .i64 xu, .int .i64 xm, .int .i64 0]) ∨ (i = 5 ∧ ar = #[.int .i64 xa, .int .i64 xb, .int .i64 xu, .int .i64 xm, .int .i64 xw])) ∧ Below w6.heap.size w6 W ∧ W.heap[gn]? = some (.cells ar 47 (0, 0)) ∧ W.heap[gs]? = some (.cells #[.slice A0 n0 c0, .slice A1 n1 c1, .slice Au nu cu, .slice Am nm cm, .slice Aw nw cw] 32 (0, 0)) ∧ a = { tmps := List.toArray ((.slice A0 n0 c0 : Value) :: (.slice A1 n1 c1 : Value) :: (.int .i64 kk : Value) :: u 3 :: u 4 :: u 5 :: u 6 :: (.slice Au nu cu : Value) :: (.int .i64 0 : Value) :: (.slice Am nm cm : Value) :: (.int .i64 0 : Value) :: (.slice Aw nw cw : Value) :: (.int .i64 0 : Value) :: (.pointer (some ⟨gn, 0, none⟩) : Value) :: u 14 :: u 15 :: u 16 :: u 17 :: u 18 :: u 19 :: u 20 :: u 21 :: u 22 :: u 23 :: u 24 :: u 25 :: u 26 :: u 27 :: u 28 :: u 29 :: u 30 :: u 31 :: u 32 :: u 33 :: u 34 :: u 35 :: u 36 :: u 37 :: u 38 :: u 39 :: u 40 :: u 41 :: u 42 :: u 43 :: u 44 :: u 45 :: u 46 :: u 47 :: u 48 :: u 49 :: u 50 :: u 51 :: u 52 :: u 53 :: u 54 :: u 55 :: u 56 :: u 57 :: u 58 :: u 59 :: u 60 :: u 61 :: u 62 :: u 63 :: u 64 :: u 65 :: u 66 :: u 67 :: u 68 :: u 69 :: u 70 :: u 71 :: u 72 :: u 73 :: u 74 :: u 75 :: u 76 :: u 77 :: (.slice (some ⟨gs, 0, none⟩) 5 5 : Value) :: (.int .i64 5 : Value) :: (.int .i64 i : Value) :: u 81 :: u 82 :: u 83 :: u 84 :: u 85 :: u 86 :: u 87 :: u 88 :: u 89 :: u 90 :: u 91 :: u 92 :: u 93 :: u 94 :: u 95 :: u 96 :: u 97 :: u 98 :: u 99 :: u 100 :: u 101 :: u 102 :: u 103 :: u 104 :: u 105 :: u 106 :: u 107 :: u 108 :: u 109 :: u 110 :: u 111 :: u 112 :: u 113 :: u 114 :: u 115 :: u 116 :: u 117 :: u 118 :: u 119 :: u 120 :: u 121 :: u 122 :: u 123 :: u 124 :: u 125 :: u 126 :: u 127 :: u 128 :: u 129 :: u 130 :: u 131 :: u 132 :: u 133 :: u 134 :: u 135 :: u 136 :: u 137 :: u 138 :: u 139 :: u 140 :: u 141 :: u 142 :: u 143 :: u 144 :: u 145 :: u 146 :: u 147 :: u 148 :: u 149 :: u 150 :: u 151 :: u 152 :: u 153 :: u 154 :: u 155 :: u 156 :: u 157 :: u 158 :: u 159 :: u 160 :: u 161 :: u 162 :: u 163 :: u 164 :: u 165 :: u 166 :: u 167 :: u 168 :: u 169 :: u 170 :: u 171 :: u 172 :: u 173 :: u 174 :: []), defers := [] }) 5 ?start ?round
  case start =>
    have sta : ∀ T : Array Value, T = List.toArray ((.slice A0 n0 c0 : Value) :: (.slice A1 n1 c1 : Value) :: (.int .i64 kk : Value) :: T.getD 3 undef :: T.getD 4 undef :: T.getD 5 undef :: T.getD 6 undef :: (.slice Au nu cu : Value) :: (.int .i64 0 : Value) :: (.slice Am nm cm : Value) :: (.int .i64 0 : Value) :: (.slice Aw nw cw : Value) :: (.int .i64 0 : Value) :: (.pointer (some ⟨gn, 0, none⟩) : Value) :: T.getD 14 undef :: T.getD 15 undef :: T.getD 16 undef :: T.getD 17 undef :: T.getD 18 undef :: T.getD 19 undef :: T.getD 20 undef :: T.getD 21 undef :: T.getD 22 undef :: T.getD 23 undef :: T.getD 24 undef :: T.getD 25 undef :: T.getD 26 undef :: T.getD 27 undef :: T.getD 28 undef :: T.getD 29 undef :: T.getD 30 undef :: T.getD 31 undef :: T.getD 32 undef :: T.getD 33 undef :: T.getD 34 undef :: T.getD 35 undef :: T.getD 36 undef :: T.getD 37 undef :: T.getD 38 undef :: T.getD 39 undef :: T.getD 40 undef :: T.getD 41 undef :: T.getD 42 undef :: T.getD 43 undef :: T.getD 44 undef :: T.getD 45 undef :: T.getD 46 undef :: T.getD 47 undef :: T.getD 48 undef :: T.getD 49 undef :: T.getD 50 undef :: T.getD 51 undef :: T.getD 52 undef :: T.getD 53 undef :: T.getD 54 undef :: T.getD 55 undef :: T.getD 56 undef :: T.getD 57 undef :: T.getD 58 undef :: T.getD 59 undef :: T.getD 60 undef :: T.getD 61 undef :: T.getD 62 undef :: T.getD 63 undef :: T.getD 64 undef :: T.getD 65 undef :: T.getD 66 undef :: T.getD 67 undef :: T.getD 68 undef :: T.getD 69 undef :: T.getD 70 undef :: T.getD 71 undef :: T.getD 72 undef :: T.getD 73 undef :: T.getD 74 undef :: T.getD 75 undef :: T.getD 76 undef :: T.getD 77 undef :: (.slice (some ⟨gs, 0, none⟩) 5 5 : Value) :: (.int .i64 5 : Value) :: (.int .i64 0 : Value) :: T.getD 81 undef :: T.getD 82 undef :: T.getD 83 undef :: T.getD 84 undef :: T.getD 85 undef :: T.getD 86 undef :: T.getD 87 undef :: T.getD 88 undef :: T.getD 89 undef :: T.getD 90 undef :: T.getD 91 undef :: T.getD 92 undef :: T.getD 93 undef :: T.getD 94 undef :: T.getD 95 undef :: T.getD 96 undef :: T.getD 97 undef :: T.getD 98 undef :: T.getD 99 undef :: T.getD 100 undef :: T.getD 101 undef :: T.getD 102 undef :: T.getD 103 undef :: T.getD 104 undef :: T.getD 105 undef :: T.getD 106 undef :: T.getD 107 undef :: T.getD 108 undef :: T.getD 109 undef :: T.getD 110 undef :: T.getD 111 undef :: T.getD 112 undef :: T.getD 113 undef :: T.getD 114 undef :: T.getD 115 undef :: T.getD 116 undef :: T.getD 117 undef :: T.getD 118 undef :: T.getD 119 undef :: T.getD 120 undef :: T.getD 121 undef :: T.getD 122 undef :: T.getD 123 undef :: T.getD 124 undef :: T.getD 125 undef :: T.getD 126 undef :: T.getD 127 undef :: T.getD 128 undef :: T.getD 129 undef :: T.getD 130 undef :: T.getD 131 undef :: T.getD 132 undef :: T.getD 133 undef :: T.getD 134 undef :: T.getD 135 undef :: T.getD 136 undef :: T.getD 137 undef :: T.getD 138 undef :: T.getD 139 undef :: T.getD 140 undef :: T.getD 141 undef :: T.getD 142 undef :: T.getD 143 undef :: T.getD 144 undef :: T.getD 145 undef :: T.getD 146 undef :: T.getD 147 undef :: T.getD 148 undef :: T.getD 149 undef :: T.getD 150 undef :: T.getD 151 undef :: T.getD 152 undef :: T.getD 153 undef :: T.getD 154 undef :: T.getD 155 undef :: T.getD 156 undef :: T.getD 157 undef :: T.getD 158 undef :: T.getD 159 undef :: T.getD 160 undef :: T.getD 161 undef :: T.getD 162 undef :: T.getD 163 undef :: T.getD 164 undef :: T.getD 165 undef :: T.getD 166 undef :: T.getD 167 undef :: T.getD 168 undef :: T.getD 169 undef :: T.getD 170 undef :: T.getD 171 undef :: T.getD 172 undef :: T.getD 173 undef :: T.getD 174 undef :: []) → ∃ (i : Int) (ar : Array Value) (u : Nat → Value), 5 = (5 - i).toNat ∧ ((i = 0 ∧ ar = #[.int .i64 0, .int .i64 0, .int .i64 0, .int .i64 0, .int .i64 0]) ∨ (i = 1 ∧ ar = #[.int .i64 xa, .int .i64 0, .int .i64 0, .int .i64 0, .int .i64 0]) ∨ (i = 2 ∧ ar = #[.int .i64 xa, .int .i64 xb, .int .i64 0, .int .i64 0, .int .i64 0]) ∨ (i = 3 ∧ ar = #[.int .i64 xa, .int .i64 xb, .int .i64 xu, .int .i64 0, .int .i64 0]) ∨ (i = 4 ∧ ar = #[.int .i64 xa, .int .i64 xb, .int .i64 xu, .int .i64 xm, .int .i64 0]) ∨ (i = 5 ∧ ar = #[.int .i64 xa, .int .i64 xb, .int .i64 xu, .int .i64 xm, .int .i64 xw])) ∧ Below w6.heap.size w6 w7 ∧ w7.heap[gn]? = some (.cells ar 47 (0, 0)) ∧ w7.heap[gs]? = some (.cells #[.slice A0 n0 c0, .slice A1 n1 c1, .slice Au nu cu, .slice Am nm cm, .slice Aw nw cw] 32 (0, 0)) ∧ (Act.mk T []) = { tmps := List.toArray ((.slice A0 n0 c0 : Value) :: (.slice A1 n1 c1 : Value) :: (.int .i64 kk : Value) :: u 3 :: u 4 :: u 5 :: u 6 :: (.slice Au nu cu : Value) :: (.int .i64 0 : Value) :: (.slice Am nm cm : Value) :: (.int .i64 0 : Value) :: (.slice Aw nw cw : Value) :: (.int .i64 0 : Value) :: (.pointer (some ⟨gn, 0, none⟩) : Value) :: u 14 :: u 15 :: u 16 :: u 17 :: u 18 :: u 19 :: u 20 :: u 21 :: u 22 :: u 23 :: u 24 :: u 25 :: u 26 :: u 27 :: u 28 :: u 29 :: u 30 :: u 31 :: u 32 :: u 33 :: u 34 :: u 35 :: u 36 :: u 37 :: u 38 :: u 39 :: u 40 :: u 41 :: u 42 :: u 43 :: u 44 :: u 45 :: u 46 :: u 47 :: u 48 :: u 49 :: u 50 :: u 51 :: u 52 :: u 53 :: u 54 :: u 55 :: u 56 :: u 57 :: u 58 :: u 59 :: u 60 :: u 61 :: u 62 :: u 63 :: u 64 :: u 65 :: u 66 :: u 67 :: u 68 :: u 69 :: u 70 :: u 71 :: u 72 :: u 73 :: u 74 :: u 75 :: u 76 :: u 77 :: (.slice (some ⟨gs, 0, none⟩) 5 5 : Value) :: (.int .i64 5 : Value) :: (.int .i64 i : Value) :: u 81 :: u 82 :: u 83 :: u 84 :: u 85 :: u 86 :: u 87 :: u 88 :: u 89 :: u 90 :: u 91 :: u 92 :: u 93 :: u 94 :: u 95 :: u 96 :: u 97 :: u 98 :: u 99 :: u 100 :: u 101 :: u 102 :: u 103 :: u 104 :: u 105 :: u 106 :: u 107 :: u 108 :: u 109 :: u 110 :: u 111 :: u 112 :: u 113 :: u 114 :: u 115 :: u 116 :: u 117 :: u 118 :: u 119 :: u 120 :: u 121 :: u 122 :: u 123 :: u 124 :: u 125 :: u 126 :: u 127 :: u 128 :: u 129 :: u 130 :: u 131 :: u 132 :: u 133 :: u 134 :: u 135 :: u 136 :: u 137 :: u 138 :: u 139 :: u 140 :: u 141 :: u 142 :: u 143 :: u 144 :: u 145 :: u 146 :: u 147 :: u 148 :: u 149 :: u 150 :: u 151 :: u 152 :: u 153 :: u 154 :: u 155 :: u 156 :: u 157 :: u 158 :: u 159 :: u 160 :: u 161 :: u 162 :: u 163 :: u 164 :: u 165 :: u 166 :: u 167 :: u 168 :: u 169 :: u 170 :: u 171 :: u 172 :: u 173 :: u 174 :: []), defers := [] } := fun T hT =>
      ⟨0, _, fun i => T.getD i undef, rfl, (.inl ⟨rfl, rfl⟩), L1.out.1, L1.out.2.1, L1.out.2.2, congrArg (fun T => (Act.mk T _)) hT⟩
    exact sta _ rfl
  case round =>
    clear L1
    rintro q a W ⟨i, ar, u, rfl, hii, hb, hn, hs, rfl⟩ J K hJ hK
    have HB := Aside0.mk hb
    have HGN := Aside0.mk hn
    have HGS := Aside0.mk hs
    clear hb hn hs
    rcases hii with ⟨rfl, rfl⟩ | ⟨rfl, rfl⟩ | ⟨rfl, rfl⟩ | ⟨rfl, rfl⟩ | ⟨rfl, rfl⟩ | ⟨rfl, rfl⟩
    · skip
      have x0 := blk_cell HGS.out 0
      simp only [List.getElem?_toArray, List.getElem?_cons_zero, List.getElem?_cons_succ] at x0
      have hcall := Aside0.mk (HNAw.out W HB.out)
      go_wp2_with fail
      refine hcall.out.mono ?_
      rintro e W1 ⟨rfl, B1⟩
      have d1 := blk_below HGN.out B1
      have y0 := blk_cell d1 0
      have y1 := blk_frozen d1 0
      simp only [List.getElem?_toArray, List.getElem?_cons_zero, List.getElem?_cons_succ] at y0
      have b1 := blk_set d1 0 (.int .i64 xa)
      simp only [List.setIfInBounds_toArray, List.set_cons_zero, List.set_cons_succ] at b1
      have b2 : (W1.setCell ⟨gn, 0, none⟩ (.int .i64 xa)).heap[gs]? = _ := (Below.heap_setCell W1 ⟨gn, 0, none⟩ (.int .i64 xa) gs (by have := HGN0.out.2; simp only; omega)).trans (blk_below HGS.out B1)
      have b3 := Aside0.mk (And.intro ((HB.out.trans (B1.mono HB.out.size)).setCell (p := ⟨gn, 0, none⟩) (by have := HGN0.out.1; simp only; omega) (.int .i64 xa)) (And.intro b1 b2))
      clear b1 b2 d1 B1 hcall
      go_wp2_with fail
      have sta : ∀ (T : Array Value), T = List.toArray ((.slice A0 n0 c0 : Value) :: (.slice A1 n1 c1 : Value) :: (.int .i64 kk : Value) :: T.getD 3 undef :: T.getD 4 undef :: T.getD 5 undef :: T.getD 6 undef :: (.slice Au nu cu : Value) :: (.int .i64 0 : Value) :: (.slice Am nm cm : Value) :: (.int .i64 0 : Value) :: (.slice Aw nw cw : Value) :: (.int .i64 0 : Value) :: (.pointer (some ⟨gn, 0, none⟩) : Value) :: T.getD 14 undef :: T.getD 15 undef :: T.getD 16 undef :: T.getD 17 undef :: T.getD 18 undef :: T.getD 19 undef :: T.getD 20 undef :: T.getD 21 undef :: T.getD 22 undef :: T.getD 23 undef :: T.getD 24 undef :: T.getD 25 undef :: T.getD 26 undef :: T.getD 27 undef :: T.getD 28 undef :: T.getD 29 undef :: T.getD 30 undef :: T.getD 31 undef :: T.getD 32 undef :: T.getD 33 undef :: T.getD 34 undef :: T.getD 35 undef :: T.getD 36 undef :: T.getD 37 undef :: T.getD 38 undef :: T.getD 39 undef :: T.getD 40 undef :: T.getD 41 undef :: T.getD 42 undef :: T.getD 43 undef :: T.getD 44 undef :: T.getD 45 undef :: T.getD 46 undef :: T.getD 47 undef :: T.getD 48 undef :: T.getD 49 undef :: T.getD 50 undef :: T.getD 51 undef :: T.getD 52 undef :: T.getD 53 undef :: T.getD 54 undef :: T.getD 55 undef :: T.getD 56 undef :: T.getD 57 undef :: T.getD 58 undef :: T.getD 59 undef :: T.getD 60 undef :: T.getD 61 undef :: T.getD 62 undef :: T.getD 63 undef :: T.getD 64 undef :: T.getD 65 undef :: T.getD 66 undef :: T.getD 67 undef :: T.getD 68 undef :: T.getD 69 undef :: T.getD 70 undef :: T.getD 71 undef :: T.getD 72 undef :: T.getD 73 undef :: T.getD 74 undef :: T.getD 75 undef :: T.getD 76 undef :: T.getD 77 undef :: (.slice (some ⟨gs, 0, none⟩) 5 5 : Value) :: (.int .i64 5 : Value) :: (.int .i64 1 : Value) :: T.getD 81 undef :: T.getD 82 undef :: T.getD 83 undef :: T.getD 84 undef :: T.getD 85 undef :: T.getD 86 undef :: T.getD 87 undef :: T.getD 88 undef :: T.getD 89 undef :: T.getD 90 undef :: T.getD 91 undef :: T.getD 92 undef :: T.getD 93 undef :: T.getD 94 undef :: T.getD 95 undef :: T.getD 96 undef :: T.getD 97 undef :: T.getD 98 undef :: T.getD 99 undef :: T.getD 100 undef :: T.getD 101 undef :: T.getD 102 undef :: T.getD 103 undef :: T.getD 104 undef :: T.getD 105 undef :: T.getD 106 undef :: T.getD 107 undef :: T.getD 108 undef :: T.getD 109 undef :: T.getD 110 undef :: T.getD 111 undef :: T.getD 112 undef :: T.getD 113 undef :: T.getD 114 undef :: T.getD 115 undef :: T.getD 116 undef :: T.getD 117 undef :: T.getD 118 undef :: T.getD 119 undef :: T.getD 120 undef :: T.getD 121 undef :: T.getD 122 undef :: T.getD 123 undef :: T.getD 124 undef :: T.getD 125 undef :: T.getD 126 undef :: T.getD 127 undef :: T.getD 128 undef :: T.getD 129 undef :: T.getD 130 undef :: T.getD 131 undef :: T.getD 132 undef :: T.getD 133 undef :: T.getD 134 undef :: T.getD 135 undef :: T.getD 136 undef :: T.getD 137 undef :: T.getD 138 undef :: T.getD 139 undef :: T.getD 140 undef :: T.getD 141 undef :: T.getD 142 undef :: T.getD 143 undef :: T.getD 144 undef :: T.getD 145 undef :: T.getD 146 undef :: T.getD 147 undef :: T.getD 148 undef :: T.getD 149 undef :: T.getD 150 undef :: T.getD 151 undef :: T.getD 152 undef :: T.getD 153 undef :: T.getD 154 undef :: T.getD 155 undef :: T.getD 156 undef :: T.getD 157 undef :: T.getD 158 undef :: T.getD 159 undef :: T.getD 160 undef :: T.getD 161 undef :: T.getD 162 undef :: T.getD 163 undef :: T.getD 164 undef :: T.getD 165 undef :: T.getD 166 undef :: T.getD 167 undef :: T.getD 168 undef :: T.getD 169 undef :: T.getD 170 undef :: T.getD 171 undef :: T.getD 172 undef :: T.getD 173 undef :: T.getD 174 undef :: []) → Handed J ((5 : Int) - 0).toNat { tmps := T, defers := [] } (W1.setCell ⟨gn, 0, none⟩ (.int .i64 xa)) := fun T hT =>
        ⟨((5 : Int) - 1).toNat, by decide, hJ _ _ _ ⟨1, #[.int .i64 xa, .int .i64 0, .int .i64 0, .int .i64 0, .int .i64 0], fun i => T.getD i undef, rfl, (.inr (.inl ⟨rfl, rfl⟩)), b3.out.1, b3.out.2.1, b3.out.2.2, congrArg (fun T => (Act.mk T _)) hT⟩⟩
      exact sta _ rfl
    · skip
      have x0 := blk_cell HGS.out 1
      simp only [List.getElem?_toArray, List.getElem?_cons_zero, List.getElem?_cons_succ] at x0
      have hcall := Aside0.mk (HNBw.out W HB.out)
      go_wp2_with fail
      refine hcall.out.mono ?_
      rintro e W1 ⟨rfl, B1⟩
      have d1 := blk_below HGN.out B1
      have y0 := blk_cell d1 1
      have y1 := blk_frozen d1 1
      simp only [List.getElem?_toArray, List.getElem?_cons_zero, List.getElem?_cons_succ] at y0
      have b1 := blk_set d1 1 (.int .i64 xb)
      simp only [List.setIfInBounds_toArray, List.set_cons_zero, List.set_cons_succ] at b1
      have b2 : (W1.setCell ⟨gn, 1, none⟩ (.int .i64 xb)).heap[gs]? = _ := (Below.heap_setCell W1 ⟨gn, 1, none⟩ (.int .i64 xb) gs (by have := HGN0.out.2; simp only; omega)).trans (blk_below HGS.out B1)
      have b3 := Aside0.mk (And.intro ((HB.out.trans (B1.mono HB.out.size)).setCell (p := ⟨gn, 1, none⟩) (by have := HGN0.out.1; simp only; omega) (.int .i64 xb)) (And.intro b1 b2))
      clear b1 b2 d1 B1 hcall
      go_wp2_with fail
      have sta : ∀ (T : Array Value), T = List.toArray ((.slice A0 n0 c0 : Value) :: (.slice A1 n1 c1 : Value) :: (.int .i64 kk : Value) :: T.getD 3 undef :: T.getD 4 undef :: T.getD 5 undef :: T.getD 6 undef :: (.slice Au nu cu : Value) :: (.int .i64 0 : Value) :: (.slice Am nm cm : Value) :: (.int .i64 0 : Value) :: (.slice Aw nw cw : Value) :: (.int .i64 0 : Value) :: (.pointer (some ⟨gn, 0, none⟩) : Value) :: T.getD 14 undef :: T.getD 15 undef :: T.getD 16 undef :: T.getD 17 undef :: T.getD 18 undef :: T.getD 19 undef :: T.getD 20 undef :: T.getD 21 undef :: T.getD 22 undef :: T.getD 23 undef :: T.getD 24 undef :: T.getD 25 undef :: T.getD 26 undef :: T.getD 27 undef :: T.getD 28 undef :: T.getD 29 undef :: T.getD 30 undef :: T.getD 31 undef :: T.getD 32 undef :: T.getD 33 undef :: T.getD 34 undef :: T.getD 35 undef :: T.getD 36 undef :: T.getD 37 undef :: T.getD 38 undef :: T.getD 39 undef :: T.getD 40 undef :: T.getD 41 undef :: T.getD 42 undef :: T.getD 43 undef :: T.getD 44 undef :: T.getD 45 undef :: T.getD 46 undef :: T.getD 47 undef :: T.getD 48 undef :: T.getD 49 undef :: T.getD 50 undef :: T.getD 51 undef :: T.getD 52 undef :: T.getD 53 undef :: T.getD 54 undef :: T.getD 55 undef :: T.getD 56 undef :: T.getD 57 undef :: T.getD 58 undef :: T.getD 59 undef :: T.getD 60 undef :: T.getD 61 undef :: T.getD 62 undef :: T.getD 63 undef :: T.getD 64 undef :: T.getD 65 undef :: T.getD 66 undef :: T.getD 67 undef :: T.getD 68 undef :: T.getD 69 undef :: T.getD 70 undef :: T.getD 71 undef :: T.getD 72 undef :: T.getD 73 undef :: T.getD 74 undef :: T.getD 75 undef :: T.getD 76 undef :: T.getD 77 undef :: (.slice (some ⟨gs, 0, none⟩) 5 5 : Value) :: (.int .i64 5 : Value) :: (.int .i64 2 : Value) :: T.getD 81 undef :: T.getD 82 undef :: T.getD 83 undef :: T.getD 84 undef :: T.getD 85 undef :: T.getD 86 undef :: T.getD 87 undef :: T.getD 88 undef :: T.getD 89 undef :: T.getD 90 undef :: T.getD 91 undef :: T.getD 92 undef :: T.getD 93 undef :: T.getD 94 undef :: T.getD 95 undef :: T.getD 96 undef :: T.getD 97 undef :: T.getD 98 undef :: T.getD 99 undef :: T.getD 100 undef :: T.getD 101 undef :: T.getD 102 undef :: T.getD 103 undef :: T.getD 104 undef :: T.getD 105 undef :: T.getD 106 undef :: T.getD 107 undef :: T.getD 108 undef :: T.getD 109 undef :: T.getD 110 undef :: T.getD 111 undef :: T.getD 112 undef :: T.getD 113 undef :: T.getD 114 undef :: T.getD 115 undef :: T.getD 116 undef :: T.getD 117 undef :: T.getD 118 undef :: T.getD 119 undef :: T.getD 120 undef :: T.getD 121 undef :: T.getD 122 undef :: T.getD 123 undef :: T.getD 124 undef :: T.getD 125 undef :: T.getD 126 undef :: T.getD 127 undef :: T.getD 128 undef :: T.getD 129 undef :: T.getD 130 undef :: T.getD 131 undef :: T.getD 132 undef :: T.getD 133 undef :: T.getD 134 undef :: T.getD 135 undef :: T.getD 136 undef :: T.getD 137 undef :: T.getD 138 undef :: T.getD 139 undef :: T.getD 140 undef :: T.getD 141 undef :: T.getD 142 undef :: T.getD 143 undef :: T.getD 144 undef :: T.getD 145 undef :: T.getD 146 undef :: T.getD 147 undef :: T.getD 148 undef :: T.getD 149 undef :: T.getD 150 undef :: T.getD 151 undef :: T.getD 152 undef :: T.getD 153 undef :: T.getD 154 undef :: T.getD 155 undef :: T.getD 156 undef :: T.getD 157 undef :: T.getD 158 undef :: T.getD 159 undef :: T.getD 160 undef :: T.getD 161 undef :: T.getD 162 undef :: T.getD 163 undef :: T.getD 164 undef :: T.getD 165 undef :: T.getD 166 undef :: T.getD 167 undef :: T.getD 168 undef :: T.getD 169 undef :: T.getD 170 undef :: T.getD 171 undef :: T.getD 172 undef :: T.getD 173 undef :: T.getD 174 undef :: []) → Handed J ((5 : Int) - 1).toNat { tmps := T, defers := [] } (W1.setCell ⟨gn, 1, none⟩ (.int .i64 xb)) := fun T hT =>
        ⟨((5 : Int) - 2).toNat, by decide, hJ _ _ _ ⟨2, #[.int .i64 xa, .int .i64 xb, .int .i64 0, .int .i64 0, .int .i64 0], fun i => T.getD i undef, rfl, (.inr (.inr (.inl ⟨rfl, rfl⟩))), b3.out.1, b3.out.2.1, b3.out.2.2, congrArg (fun T => (Act.mk T _)) hT⟩⟩
      exact sta _ rfl
    · skip
      have x0 := blk_cell HGS.out 2
      simp only [List.getElem?_toArray, List.getElem?_cons_zero, List.getElem?_cons_succ] at x0
      have hcall := Aside0.mk (HNU.out W HB.out)
      go_wp2_with fail
      refine hcall.out.mono ?_
      rintro e W1 ⟨rfl, B1⟩
      have d1 := blk_below HGN.out B1
      have y0 := blk_cell d1 2
      have y1 := blk_frozen d1 2
      simp only [List.getElem?_toArray, List.getElem?_cons_zero, List.getElem?_cons_succ] at y0
      have b1 := blk_set d1 2 (.int .i64 xu)
      simp only [List.setIfInBounds_toArray, List.set_cons_zero, List.set_cons_succ] at b1
      have b2 : (W1.setCell ⟨gn, 2, none⟩ (.int .i64 xu)).heap[gs]? = _ := (Below.heap_setCell W1 ⟨gn, 2, none⟩ (.int .i64 xu) gs (by have := HGN0.out.2; simp only; omega)).trans (blk_below HGS.out B1)
      have b3 := Aside0.mk (And.intro ((HB.out.trans (B1.mono HB.out.size)).setCell (p := ⟨gn, 2, none⟩) (by have := HGN0.out.1; simp only; omega) (.int .i64 xu)) (And.intro b1 b2))
      clear b1 b2 d1 B1 hcall
      go_wp2_with fail
      have sta : ∀ (T : Array Value), T = List.toArray ((.slice A0 n0 c0 : Value) :: (.slice A1 n1 c1 : Value) :: (.int .i64 kk : Value) :: T.getD 3 undef :: T.getD 4 undef :: T.getD 5 undef :: T.getD 6 undef :: (.slice Au nu cu : Value) :: (.int .i64 0 : Value) :: (.slice Am nm cm : Value) :: (.int .i64 0 : Value) :: (.slice Aw nw cw : Value) :: (.int .i64 0 : Value) :: (.pointer (some ⟨gn, 0, none⟩) : Value) :: T.getD 14 undef :: T.getD 15 undef :: T.getD 16 undef :: T.getD 17 undef :: T.getD 18 undef :: T.getD 19 undef :: T.getD 20 undef :: T.getD 21 undef :: T.getD 22 undef :: T.getD 23 undef :: T.getD 24 undef :: T.getD 25 undef :: T.getD 26 undef :: T.getD 27 undef :: T.getD 28 undef :: T.getD 29 undef :: T.getD 30 undef :: T.getD 31 undef :: T.getD 32 undef :: T.getD 33 undef :: T.getD 34 undef :: T.getD 35 undef :: T.getD 36 undef :: T.getD 37 undef :: T.getD 38 undef :: T.getD 39 undef :: T.getD 40 undef :: T.getD 41 undef :: T.getD 42 undef :: T.getD 43 undef :: T.getD 44 undef :: T.getD 45 undef :: T.getD 46 undef :: T.getD 47 undef :: T.getD 48 undef :: T.getD 49 undef :: T.getD 50 undef :: T.getD 51 undef :: T.getD 52 undef :: T.getD 53 undef :: T.getD 54 undef :: T.getD 55 undef :: T.getD 56 undef :: T.getD 57 undef :: T.getD 58 undef :: T.getD 59 undef :: T.getD 60 undef :: T.getD 61 undef :: T.getD 62 undef :: T.getD 63 undef :: T.getD 64 undef :: T.getD 65 undef :: T.getD 66 undef :: T.getD 67 undef :: T.getD 68 undef :: T.getD 69 undef :: T.getD 70 undef :: T.getD 71 undef :: T.getD 72 undef :: T.getD 73 undef :: T.getD 74 undef :: T.getD 75 undef :: T.getD 76 undef :: T.getD 77 undef :: (.slice (some ⟨gs, 0, none⟩) 5 5 : Value) :: (.int .i64 5 : Value) :: (.int .i64 3 : Value) :: T.getD 81 undef :: T.getD 82 undef :: T.getD 83 undef :: T.getD 84 undef :: T.getD 85 undef :: T.getD 86 undef :: T.getD 87 undef :: T.getD 88 undef :: T.getD 89 undef :: T.getD 90 undef :: T.getD 91 undef :: T.getD 92 undef :: T.getD 93 undef :: T.getD 94 undef :: T.getD 95 undef :: T.getD 96 undef :: T.getD 97 undef :: T.getD 98 undef :: T.getD 99 undef :: T.getD 100 undef :: T.getD 101 undef :: T.getD 102 undef :: T.getD 103 undef :: T.getD 104 undef :: T.getD 105 undef :: T.getD 106 undef :: T.getD 107 undef :: T.getD 108 undef :: T.getD 109 undef :: T.getD 110 undef :: T.getD 111 undef :: T.getD 112 undef :: T.getD 113 undef :: T.getD 114 undef :: T.getD 115 undef :: T.getD 116 undef :: T.getD 117 undef :: T.getD 118 undef :: T.getD 119 undef :: T.getD 120 undef :: T.getD 121 undef :: T.getD 122 undef :: T.getD 123 undef :: T.getD 124 undef :: T.getD 125 undef :: T.getD 126 undef :: T.getD 127 undef :: T.getD 128 undef :: T.getD 129 undef :: T.getD 130 undef :: T.getD 131 undef :: T.getD 132 undef :: T.getD 133 undef :: T.getD 134 undef :: T.getD 135 undef :: T.getD 136 undef :: T.getD 137 undef :: T.getD 138 undef :: T.getD 139 undef :: T.getD 140 undef :: T.getD 141 undef :: T.getD 142 undef :: T.getD 143 undef :: T.getD 144 undef :: T.getD 145 undef :: T.getD 146 undef :: T.getD 147 undef :: T.getD 148 undef :: T.getD 149 undef :: T.getD 150 undef :: T.getD 151 undef :: T.getD 152 undef :: T.getD 153 undef :: T.getD 154 undef :: T.getD 155 undef :: T.getD 156 undef :: T.getD 157 undef :: T.getD 158 undef :: T.getD 159 undef :: T.getD 160 undef :: T.getD 161 undef :: T.getD 162 undef :: T.getD 163 undef :: T.getD 164 undef :: T.getD 165 undef :: T.getD 166 undef :: T.getD 167 undef :: T.getD 168 undef :: T.getD 169 undef :: T.getD 170 undef :: T.getD 171 undef :: T.getD 172 undef :: T.getD 173 undef :: T.getD 174 undef :: []) → Handed J ((5 : Int) - 2).toNat { tmps := T, defers := [] } (W1.setCell ⟨gn, 2, none⟩ (.int .i64 xu)) := fun T hT =>
        ⟨((5 : Int) - 3).toNat, by decide, hJ _ _ _ ⟨3, #[.int .i64 xa, .int .i64 xb, .int .i64 xu, .int .i64 0, .int .i64 0], fun i => T.getD i undef, rfl, (.inr (.inr (.inr (.inl ⟨rfl, rfl⟩)))), b3.out.1, b3.out.2.1, b3.out.2.2, congrArg (fun T => (Act.mk T _)) hT⟩⟩
      exact sta _ rfl
    · skip
      have x0 := blk_cell HGS.out 3
      simp only [List.getElem?_toArray, List.getElem?_cons_zero, List.getElem?_cons_succ] at x0
      have hcall := Aside0.mk (HNM.out W HB.out)
      go_wp2_with fail
      refine hcall.out.mono ?_
      rintro e W1 ⟨rfl, B1⟩
      have d1 := blk_below HGN.out B1
      have y0 := blk_cell d1 3
      have y1 := blk_frozen d1 3
      simp only [List.getElem?_toArray, List.getElem?_cons_zero, List.getElem?_cons_succ] at y0
      have b1 := blk_set d1 3 (.int .i64 xm)
      simp only [List.setIfInBounds_toArray, List.set_cons_zero, List.set_cons_succ] at b1
      have b2 : (W1.setCell ⟨gn, 3, none⟩ (.int .i64 xm)).heap[gs]? = _ := (Below.heap_setCell W1 ⟨gn, 3, none⟩ (.int .i64 xm) gs (by have := HGN0.out.2; simp only; omega)).trans (blk_below HGS.out B1)
      have b3 := Aside0.mk (And.intro ((HB.out.trans (B1.mono HB.out.size)).setCell (p := ⟨gn, 3, none⟩) (by have := HGN0.out.1; simp only; omega) (.int .i64 xm)) (And.intro b1 b2))
      clear b1 b2 d1 B1 hcall
      go_wp2_with fail
      have sta : ∀ (T : Array Value), T = List.toArray ((.slice A0 n0 c0 : Value) :: (.slice A1 n1 c1 : Value) :: (.int .i64 kk : Value) :: T.getD 3 undef :: T.getD 4 undef :: T.getD 5 undef :: T.getD 6 undef :: (.slice Au nu cu : Value) :: (.int .i64 0 : Value) :: (.slice Am nm cm : Value) :: (.int .i64 0 : Value) :: (.slice Aw nw cw : Value) :: (.int .i64 0 : Value) :: (.pointer (some ⟨gn, 0, none⟩) : Value) :: T.getD 14 undef :: T.getD 15 undef :: T.getD 16 undef :: T.getD 17 undef :: T.getD 18 undef :: T.getD 19 undef :: T.getD 20 undef :: T.getD 21 undef :: T.getD 22 undef :: T.getD 23 undef :: T.getD 24 undef :: T.getD 25 undef :: T.getD 26 undef :: T.getD 27 undef :: T.getD 28 undef :: T.getD 29 undef :: T.getD 30 undef :: T.getD 31 undef :: T.getD 32 undef :: T.getD 33 undef :: T.getD 34 undef :: T.getD 35 undef :: T.getD 36 undef :: T.getD 37 undef :: T.getD 38 undef :: T.getD 39 undef :: T.getD 40 undef :: T.getD 41 undef :: T.getD 42 undef :: T.getD 43 undef :: T.getD 44 undef :: T.getD 45 undef :: T.getD 46 undef :: T.getD 47 undef :: T.getD 48 undef :: T.getD 49 undef :: T.getD 50 undef :: T.getD 51 undef :: T.getD 52 undef :: T.getD 53 undef :: T.getD 54 undef :: T.getD 55 undef :: T.getD 56 undef :: T.getD 57 undef :: T.getD 58 undef :: T.getD 59 undef :: T.getD 60 undef :: T.getD 61 undef :: T.getD 62 undef :: T.getD 63 undef :: T.getD 64 undef :: T.getD 65 undef :: T.getD 66 undef :: T.getD 67 undef :: T.getD 68 undef :: T.getD 69 undef :: T.getD 70 undef :: T.getD 71 undef :: T.getD 72 undef :: T.getD 73 undef :: T.getD 74 undef :: T.getD 75 undef :: T.getD 76 undef :: T.getD 77 undef :: (.slice (some ⟨gs, 0, none⟩) 5 5 : Value) :: (.int .i64 5 : Value) :: (.int .i64 4 : Value) :: T.getD 81 undef :: T.getD 82 undef :: T.getD 83 undef :: T.getD 84 undef :: T.getD 85 undef :: T.getD 86 undef :: T.getD 87 undef :: T.getD 88 undef :: T.getD 89 undef :: T.getD 90 undef :: T.getD 91 undef :: T.getD 92 undef :: T.getD 93 undef :: T.getD 94 undef :: T.getD 95 undef :: T.getD 96 undef :: T.getD 97 undef :: T.getD 98 undef :: T.getD 99 undef :: T.getD 100 undef :: T.getD 101 undef :: T.getD 102 undef :: T.getD 103 undef :: T.getD 104 undef :: T.getD 105 undef :: T.getD 106 undef :: T.getD 107 undef :: T.getD 108 undef :: T.getD 109 undef :: T.getD 110 undef :: T.getD 111 undef :: T.getD 112 undef :: T.getD 113 undef :: T.getD 114 undef :: T.getD 115 undef :: T.getD 116 undef :: T.getD 117 undef :: T.getD 118 undef :: T.getD 119 undef :: T.getD 120 undef :: T.getD 121 undef :: T.getD 122 undef :: T.getD 123 undef :: T.getD 124 undef :: T.getD 125 undef :: T.getD 126 undef :: T.getD 127 undef :: T.getD 128 undef :: T.getD 129 undef :: T.getD 130 undef :: T.getD 131 undef :: T.getD 132 undef :: T.getD 133 undef :: T.getD 134 undef :: T.getD 135 undef :: T.getD 136 undef :: T.getD 137 undef :: T.getD 138 undef :: T.getD 139 undef :: T.getD 140 undef :: T.getD 141 undef :: T.getD 142 undef :: T.getD 143 undef :: T.getD 144 undef :: T.getD 145 undef :: T.getD 146 undef :: T.getD 147 undef :: T.getD 148 undef :: T.getD 149 undef :: T.getD 150 undef :: T.getD 151 undef :: T.getD 152 undef :: T.getD 153 undef :: T.getD 154 undef :: T.getD 155 undef :: T.getD 156 undef :: T.getD 157 undef :: T.getD 158 undef :: T.getD 159 undef :: T.getD 160 undef :: T.getD 161 undef :: T.getD 162 undef :: T.getD 163 undef :: T.getD 164 undef :: T.getD 165 undef :: T.getD 166 undef :: T.getD 167 undef :: T.getD 168 undef :: T.getD 169 undef :: T.getD 170 undef :: T.getD 171 undef :: T.getD 172 undef :: T.getD 173 undef :: T.getD 174 undef :: []) → Handed J ((5 : Int) - 3).toNat { tmps := T, defers := [] } (W1.setCell ⟨gn, 3, none⟩ (.int .i64 xm)) := fun T hT =>
        ⟨((5 : Int) - 4).toNat, by decide, hJ _ _ _ ⟨4, #[.int .i64 xa, .int .i64 xb, .int .i64 xu, .int .i64 xm, .int .i64 0], fun i => T.getD i undef, rfl, (.inr (.inr (.inr (.inr (.inl ⟨rfl, rfl⟩))))), b3.out.1, b3.out.2.1, b3.out.2.2, congrArg (fun T => (Act.mk T _)) hT⟩⟩
      exact sta _ rfl
    · skip
      have x0 := blk_cell HGS.out 4
      simp only [List.getElem?_toArray, List.getElem?_cons_zero, List.getElem?_cons_succ] at x0
      have hcall := Aside0.mk (HNW.out W HB.out)
      go_wp2_with fail
      refine hcall.out.mono ?_
      rintro e W1 ⟨rfl, B1⟩
      have d1 := blk_below HGN.out B1
      have y0 := blk_cell d1 4
      have y1 := blk_frozen d1 4
      simp only [List.getElem?_toArray, List.getElem?_cons_zero, List.getElem?_cons_succ] at y0
      have b1 := blk_set d1 4 (.int .i64 xw)
      simp only [List.setIfInBounds_toArray, List.set_cons_zero, List.set_cons_succ] at b1
      have b2 : (W1.setCell ⟨gn, 4, none⟩ (.int .i64 xw)).heap[gs]? = _ := (Below.heap_setCell W1 ⟨gn, 4, none⟩ (.int .i64 xw) gs (by have := HGN0.out.2; simp only; omega)).trans (blk_below HGS.out B1)
      have b3 := Aside0.mk (And.intro ((HB.out.trans (B1.mono HB.out.size)).setCell (p := ⟨gn, 4, none⟩) (by have := HGN0.out.1; simp only; omega) (.int .i64 xw)) (And.intro b1 b2))
      clear b1 b2 d1 B1 hcall
      go_wp2_with fail
      have sta : ∀ (T : Array Value), T = List.toArray ((.slice A0 n0 c0 : Value) :: (.slice A1 n1 c1 : Value) :: (.int .i64 kk : Value) :: T.getD 3 undef :: T.getD 4 undef :: T.getD 5 undef :: T.getD 6 undef :: (.slice Au nu cu : Value) :: (.int .i64 0 : Value) :: (.slice Am nm cm : Value) :: (.int .i64 0 : Value) :: (.slice Aw nw cw : Value) :: (.int .i64 0 : Value) :: (.pointer (some ⟨gn, 0, none⟩) : Value) :: T.getD 14 undef :: T.getD 15 undef :: T.getD 16 undef :: T.getD 17 undef :: T.getD 18 undef :: T.getD 19 undef :: T.getD 20 undef :: T.getD 21 undef :: T.getD 22 undef :: T.getD 23 undef :: T.getD 24 undef :: T.getD 25 undef :: T.getD 26 undef :: T.getD 27 undef :: T.getD 28 undef :: T.getD 29 undef :: T.getD 30 undef :: T.getD 31 undef :: T.getD 32 undef :: T.getD 33 undef :: T.getD 34 undef :: T.getD 35 undef :: T.getD 36 undef :: T.getD 37 undef :: T.getD 38 undef :: T.getD 39 undef :: T.getD 40 undef :: T.getD 41 undef :: T.getD 42 undef :: T.getD 43 undef :: T.getD 44 undef :: T.getD 45 undef :: T.getD 46 undef :: T.getD 47 undef :: T.getD 48 undef :: T.getD 49 undef :: T.getD 50 undef :: T.getD 51 undef :: T.getD 52 undef :: T.getD 53 undef :: T.getD 54 undef :: T.getD 55 undef :: T.getD 56 undef :: T.getD 57 undef :: T.getD 58 undef :: T.getD 59 undef :: T.getD 60 undef :: T.getD 61 undef :: T.getD 62 undef :: T.getD 63 undef :: T.getD 64 undef :: T.getD 65 undef :: T.getD 66 undef :: T.getD 67 undef :: T.getD 68 undef :: T.getD 69 undef :: T.getD 70 undef :: T.getD 71 undef :: T.getD 72 undef :: T.getD 73 undef :: T.getD 74 undef :: T.getD 75 undef :: T.getD 76 undef :: T.getD 77 undef :: (.slice (some ⟨gs, 0, none⟩) 5 5 : Value) :: (.int .i64 5 : Value) :: (.int .i64 5 : Value) :: T.getD 81 undef :: T.getD 82 undef :: T.getD 83 undef :: T.getD 84 undef :: T.getD 85 undef :: T.getD 86 undef :: T.getD 87 undef :: T.getD 88 undef :: T.getD 89 undef :: T.getD 90 undef :: T.getD 91 undef :: T.getD 92 undef :: T.getD 93 undef :: T.getD 94 undef :: T.getD 95 undef :: T.getD 96 undef :: T.getD 97 undef :: T.getD 98 undef :: T.getD 99 undef :: T.getD 100 undef :: T.getD 101 undef :: T.getD 102 undef :: T.getD 103 undef :: T.getD 104 undef :: T.getD 105 undef :: T.getD 106 undef :: T.getD 107 undef :: T.getD 108 undef :: T.getD 109 undef :: T.getD 110 undef :: T.getD 111 undef :: T.getD 112 undef :: T.getD 113 undef :: T.getD 114 undef :: T.getD 115 undef :: T.getD 116 undef :: T.getD 117 undef :: T.getD 118 undef :: T.getD 119 undef :: T.getD 120 undef :: T.getD 121 undef :: T.getD 122 undef :: T.getD 123 undef :: T.getD 124 undef :: T.getD 125 undef :: T.getD 126 undef :: T.getD 127 undef :: T.getD 128 undef :: T.getD 129 undef :: T.getD 130 undef :: T.getD 131 undef :: T.getD 132 undef :: T.getD 133 undef :: T.getD 134 undef :: T.getD 135 undef :: T.getD 136 undef :: T.getD 137 undef :: T.getD 138 undef :: T.getD 139 undef :: T.getD 140 undef :: T.getD 141 undef :: T.getD 142 undef :: T.getD 143 undef :: T.getD 144 undef :: T.getD 145 undef :: T.getD 146 undef :: T.getD 147 undef :: T.getD 148 undef :: T.getD 149 undef :: T.getD 150 undef :: T.getD 151 undef :: T.getD 152 undef :: T.getD 153 undef :: T.getD 154 undef :: T.getD 155 undef :: T.getD 156 undef :: T.getD 157 undef :: T.getD 158 undef :: T.getD 159 undef :: T.getD 160 undef :: T.getD 161 undef :: T.getD 162 undef :: T.getD 163 undef :: T.getD 164 undef :: T.getD 165 undef :: T.getD 166 undef :: T.getD 167 undef :: T.getD 168 undef :: T.getD 169 undef :: T.getD 170 undef :: T.getD 171 undef :: T.getD 172 undef :: T.getD 173 undef :: T.getD 174 undef :: []) → Handed J ((5 : Int) - 4).toNat { tmps := T, defers := [] } (W1.setCell ⟨gn, 4, none⟩ (.int .i64 xw)) := fun T hT =>
        ⟨((5 : Int) - 5).toNat, by decide, hJ _ _ _ ⟨5, #[.int .i64 xa, .int .i64 xb, .int .i64 xu, .int .i64 xm, .int .i64 xw], fun i => T.getD i undef, rfl, (.inr (.inr (.inr (.inr (.inr ⟨rfl, rfl⟩))))), b3.out.1, b3.out.2.1, b3.out.2.2, congrArg (fun T => (Act.mk T _)) hT⟩⟩
      exact sta _ rfl
    · clear hJ hK
      have y0 := blk_cell HGN.out 0
      have y1 := blk_cell HGN.out 1
      have y2 := blk_cell HGN.out 2
      have y3 := blk_cell HGN.out 3
      have y4 := blk_cell HGN.out 4
      simp only [List.getElem?_toArray, List.getElem?_cons_zero, List.getElem?_cons_succ] at y0 y1 y2 y3 y4
      obtain ⟨⟨a0, a1⟩, ⟨b0, b1⟩, ⟨u0, u1⟩, ⟨m0, m1⟩, d0, d1⟩ := HBD.out
      obtain ⟨s1, s2⟩ := HS.out
      have g1 : (xu + xm != xa + xb) = false := by rw [s1]; simp
      have g2 : (xw != xa - xm) = false := by rw [s2]; simp
      have g3 : wrap64 (xu + xm) = xu + xm := w64 (by omega) (by omega)
      have g4 : wrap64 (xa + xb) = xa + xb := w64 (by omega) (by omega)
      have g5 : wrap64 (xa - xm) = xa - xm := w64 (by omega) (by omega)
      have g6 : decide (xu + xm = xa + xb) = true := decide_eq_true s1
      have g7 : decide (xw = xa - xm) = true := decide_eq_true s2
      have EW := Aside0.mk (E6.out.trans (HB.out.mono E6.out.size))
      have hnth : nthS U kk = (if kk < 0 then (0, false, 1) else nth U kk) := by unfold nthS; rw [if_pos HKU.out.1]
      have hNcall := fun (r1 : Int) (r2 : Bool) (r3 : Int) (W' : World) (hb' : Below w6.heap.size w6 W') (h : nthS U kk = (r1, r2, r3)) => days_Nth.calls qn Au cu U kk r1 r2 r3 W' (Kd.C_below CU6.out hb') HCU.out.1 (by rw [HQN.out, h])
      rw [HNu.out] at hNcall
      clear s1 s2 a0 a1 b0 b1 m0 m1 d0 d1
      by_cases hneg : kk < 0
      · have f1 : decide (kk < 0) = true := decide_eq_true hneg
        have hc := Aside0.mk (hNcall 0 false 1 W HB.out (by rw [hnth, if_pos hneg]))
        clear hneg hNcall hnth u0 u1
        go_wp2_with fail
        refine hc.out.mono ?_
        rintro e w8 ⟨rfl, B8⟩
        have E8 := Aside0.mk (CZ.stepB EW.out B8)
        clear B8
        go_wp2_with fail
        exact bodyPost_ret (v := .bool true) (by simp [results, Tryd.results8, go_sem]) rfl ⟨rfl, E8.out⟩
      · have f1 : decide (kk < 0) = false := decide_eq_false hneg
        rw [if_neg hneg] at hnth
        by_cases hlt : kk < xu
        · have f2 : decide (kk < xu) = true := decide_eq_true hlt
          obtain ⟨day, e1, e2, e3, e4, e5⟩ := nth_ok kk HKU.out.2.1 (by omega) (by rw [HKU.out.2.2]; exact hlt)
          have hc := Aside0.mk (hNcall day true 0 W HB.out (by rw [hnth, e1]))
          obtain ⟨qh, hqh⟩ := (lhas_ev U day (by have := (chk_good HKU.out.1).1; omega)).rounds
          rw [e2] at hqh
          obtain ⟨p1, p2, p3, _⟩ := set_before HKU.out.1 e3 e4
          have p4 := before_len HKU.out.1 e3 e4
          have p5 := comb_set (fun u v => u && v) rfl HKU.out.1 p1 p4
          rw [e5] at p2
          obtain ⟨BF, hBF⟩ : ∃ BF, setS (fun u v => u && v) U [⟨0, day⟩] = BF := ⟨_, rfl⟩
          rw [hBF] at p2 p3 p4 p5
          obtain ⟨qf, hqf⟩ := cnt_call (chk_of p3 p4)
          rw [p2] at hqf
          have f3 : wrap64 (kk + 1) = kk + 1 := w64 (by omega) (by omega)
          have f4 : (kk + 1 == kk + 1) = true := beq_self_eq_true _
          have hH := fun (W' : World) (hb' : Below w6.heap.size w6 W') => fastilaw12_has.calls qh Au cu U day true W' (Kd.C_below CU6.out hb') HCU.out.1 hqh
          have hM := fun (W' : World) (hb' : Below w6.heap.size w6 W') (g : Nat) (hg : W'.heap[g]? = some (.cells #[.int .i64 0, .int .i64 day] 45 (0, 0))) => days_Meet.calls Au cu U (some ⟨g, 0, none⟩) 1 [⟨0, day⟩] BF 0 W' (Kd.C_below CU6.out hb') HCU.out.1 (CZ.lit45 [⟨0, day⟩] (by simp) hg) (Nat.le_refl _) (by unfold days_Meet.f; rw [p5])
          rw [HNu.out] at hH hM
          have HH := Aside0.mk hH
          have HMM := Aside0.mk hM
          have HQF := Aside0.mk hqf
          clear hneg hlt hNcall hnth u0 u1 e1 e2 e5 hqh p1 p2 p3 p4 p5 hBF hqf hH hM
          go_wp2_with fail
          refine hc.out.mono ?_
          rintro e w8 ⟨rfl, B8⟩
          have H8 := Aside0.mk (CZ.stepB HB.out B8)
          have z2 := blk_cell (blk_below HGN.out B8) 2
          simp only [List.getElem?_toArray, List.getElem?_cons_zero, List.getElem?_cons_succ] at z2
          clear B8 hc y0 y1 y2 y3 y4
          go_wp2_with fail
          refine (HH.out w8 H8.out).mono ?_
          rintro e w9 ⟨rfl, B9⟩
          have H9 := Aside0.mk (CZ.stepB H8.out B9)
          clear B9 H8 HH
          go_wp2_with fail
          have X9 := Aside0.mk (blk_new w9 (.cells #[.int .i64 0, .int .i64 day] 45))
          refine (HMM.out _ (below_alloc H9.out _) w9.heap.size X9.out).mono ?_
          rintro e w10 ⟨vb, rfl, Rb, B10⟩
          obtain ⟨Ab, cb', rfl, hcb', hCb⟩ := Kd.R_reads Rb
          have H10 := Aside0.mk (CZ.stepB (below_alloc H9.out (.cells #[.int .i64 0, .int .i64 day] 45)) B10)
          have hF := Aside0.mk (days_Count.calls qf Ab cb' BF (kk + 1) 0 w10 hCb hcb' HQF.out)
          obtain ⟨nb, hnb⟩ : ∃ n : Nat, BF.length = n := ⟨_, rfl⟩
          have hF2 := hF.out
          rw [hnb] at hF2 ⊢
          replace hF2 := Aside0.mk hF2
          clear B10 Rb hCb hcb' X9 H9 HMM hF hnb
          go_wp2_with fail
          refine hF2.out.mono ?_
          rintro e w11 ⟨rfl, B11⟩
          have E11 := Aside0.mk ((E6.out.trans (H10.out.mono E6.out.size)).trans (B11.mono (Nat.le_trans E6.out.size H10.out.size)))
          clear B11 hF2
          go_wp2_with fail
          exact bodyPost_ret (v := .bool true) (by simp [results, Tryd.results8, go_sem]) rfl ⟨rfl, E11.out⟩
        · have f2 : decide (kk < xu) = false := decide_eq_false hlt
          have hc := Aside0.mk (hNcall 0 false 0 W HB.out (by rw [hnth, nth_none kk HKU.out.2.1 (by rw [HKU.out.2.2]; omega)]))
          clear hneg hlt hNcall hnth u0 u1
          go_wp2_with fail
          refine hc.out.mono ?_
          rintro e w8 ⟨rfl, B8⟩
          have E8 := Aside0.mk (CZ.stepB EW.out B8)
          have z2 := blk_cell (blk_below HGN.out B8) 2
          simp only [List.getElem?_toArray, List.getElem?_cons_zero, List.getElem?_cons_succ] at z2
          clear B8
          go_wp2_with fail
          exact bodyPost_ret (v := .bool true) (by simp [results, Tryd.results8, go_sem]) rfl ⟨rfl, E8.out⟩
end CW
def fastilaw12_DaysCounted.f (k : Nat) (l0 : List (S45)) (l1 : List (S45)) (a2 : Int) : Option (Bool) := if a2 ≤ 9223372036854775807 then some true else none
theorem fastilaw12_DaysCounted.calls (k : Nat) (A0 : Option Addr) (c0 : Nat) (l0 : List (S45)) (A1 : Option Addr) (c1 : Nat) (l1 : List (S45)) (a2 : Int) (r : Bool) (w : World) (hgl : GL.Glob w) (hr0 : Kd.C k45 w A0 l0.length l0) (hc0 : l0.length ≤ c0) (hr1 : Kd.C k45 w A1 l1.length l1) (hc1 : l1.length ≤ c1) (h : fastilaw12_DaysCounted.f k l0 l1 a2 = some r) :
    Calls Tryd.prog 8 #[.slice A0 l0.length c0, .slice A1 l1.length c1, .int .i64 a2] w fun e w' => e = .returned (.bool r) ∧ Below w.heap.size w w' := by
  unfold fastilaw12_DaysCounted.f at h
  by_cases ha : a2 ≤ 9223372036854775807
  · rw [if_pos ha] at h
    obtain rfl := Option.some.inj h
    by_cases h0 : 128 < l0.length
    · exact CW.skip0 A0 c0 l0 A1 c1 l1 a2 w hgl h0
    · by_cases h1 : 128 < l1.length
      · exact CW.skip1 A0 c0 l0 A1 c1 l1 a2 w hgl h0 h1
      · by_cases k0 : SS.chk l0 = 0
        · by_cases k1 : SS.chk l1 = 0
          · exact CW.main A0 c0 l0 A1 c1 l1 a2 w hgl hr0 hc0 hr1 hc1 h0 h1 k0 k1 ha
          · exact CW.skip3 A0 c0 l0 A1 c1 l1 a2 w hgl hr0 hc0 hr1 hc1 h0 h1 k0 k1
        · exact CW.skip2 A0 c0 l0 A1 c1 l1 a2 w hgl hr0 hc0 h0 h1 k0
  · rw [if_neg ha] at h
    cases h
end Go.Proofs.YtpodgkmgameocaaDoor.X
