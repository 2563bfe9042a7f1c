/- Proved here: parts of the walk and of the plain law of SearchProofSpec, put into one text (names and lines made short by a program). -/
import Derived.Test.YtcbpkdemcdikaaaSearchProofSpecD
import Derived.Test.YtcbpkdemcdikaaaSearchProofSpecJ
import Derived.Test.YtcbpkdemcdikaaaSearchProofSpecC
import Derived.Test.YtcbpkdemcdikaaaSearchProofSpecF
import Derived.Test.YtcbpkdemcdikaaaSearchProofSpecK
namespace Go.Proofs.Ytcbpkdemcdikaaa.X
open Go.RowKit Go.Proofs.YtcbpkdemcdikaaaW.PrintWords Go.Proofs.YtcbpkdemcdikaaaW.PrintLast Go.Proofs.YtcbpkdemcdikaaaW.PrintMore
attribute [local go_sem] be bc bn bo aM aK bf bd   
set_option linter.unusedVariables false
set_option linter.unusedSimpArgs false
mutual
def fastiref15_right.j0:Nat→List Int→Bool→List (List Int)→List (S49)→Int→List (S39)→Option (Bool)
 | 0,_,_,_,_,_,_=>none
 | k+1,x2,x42,ip,x306001,x307000,iq=>if x42=true then (some false) else (if 0≤(x2.length:Int) then (if (x2.length:Int) < (ip.length:Int) then (if (iq.length:Int)=((ao ip (x2.length:Int)).length:Int) then (fastiref15_right.l0 k x2 (ao ip (x2.length:Int)) 0 ip x306001 x307000 iq) else (some false)) else (none)) else (none))
def fastiref15_right.l0:Nat→List Int→List Int→Int→List (List Int)→List (S49)→Int→List (S39)→Option (Bool)
 | 0,_,_,_,_,_,_,_=>none
 | k+1,x2,x7,x8,ip,x306001,x307000,iq=>if x8 < (x7.length:Int) then (if 0≤x8 then (if x8 < (iq.length:Int) then ((some (([]:List Int):List Int)).bind fun y311=>(if y311.length+x2.length < 17592186044416 then ((some (y311 ++ x2:List Int)).bind fun y314=>((some (([rd x7 x8]:List Int):List Int)).bind fun y318=>(if y314.length+y318.length < 17592186044416 then ((fastiref15_right.f k ip x306001 ((aY iq x8).f0) ((aY iq x8).f1) (y314 ++ y318)).bind fun t324=>(if t324=true then (fastiref15_right.l0 k x2 x7 (wrap64 (x8+1)) ip x306001 x307000 iq) else (some false))) else (none)))) else (none))) else (none)) else (none)) else (some true)
def fastiref15_right.f:Nat→List (List Int)→List (S49)→Int→List (S39)→List Int→Option (Bool)
 | 0,_,_,_,_,_=>none
 | k+1,ai,ah,bg,aT,l2=>if bg ≥ 0 then (if bg ≥ (ah.length:Int) then (some false) else (if (aT.length:Int) > 0 then (some false) else (if 0≤bg then (if bg < (ah.length:Int) then ((fastiref15_Breaks.f k ((aj ah bg).f0) ((aj ah bg).f1) ((aj ah bg).f2) ((aj ah bg).f3) l2).bind fun t308=>(some t308)) else (none)) else (none)))) else (if bg=(-1) then (fastiref15_right.j0 k l2 ((l2.length:Int) == (ai.length:Int)) ai ah bg aT) else (fastiref15_right.j0 k l2 true ai ah bg aT))
end
def fastiref15_right.T13:Bool × List (List Nat × List Nat):=(true,[([],[]),([],[]),([1],[1]),([],[]),([2,3],[2,3]),([4],[4]),([],[]),([],[]),([6,7],[6,7]),([],[]),([],[]),([9,10],[9,10]),([11],[11]),([12],[12]),([8,13,8],[8,13]),([0,5,14,14],[0,5,14]),([15],[15])])
def fastiref15_right.B13:List Nat:=[0,0,2,0,14,30,0,0,192,0,0,1536,3584,7680,16320,32767,65535]
theorem fastiref15_right.tab13:fU .any (gP Try.f44 13)=fastiref15_right.T13:=by kernel_rfl
theorem fastiref15_right.bits13:fC fastiref15_right.T13.2 fastiref15_right.B13=true:=by kernel_rfl
set_option maxHeartbeats 8000000 in
set_option maxRecDepth 100000 in
theorem fastiref15_right.calls (k:Nat):∀ (ax:Option Addr) (ap:Nat) (ai:List (List Int)) (au:Option Addr) (am:Nat) (ah:List (S49)) (bg:Int) (cS:Option Addr) (ci:Nat) (aT:List (S39)) (A2:Option Addr) (c2:Nat) (l2:List Int) (r:Bool) (w:World) (bV:Kd.C (Kd.slice 3 (Kd.int .i64)) w ax ai.length ai) (bX:ai.length≤ap) (bP:Kd.C k49 w au ah.length ah) (bU:ah.length≤am) (fy:Kd.C k39 w cS aT.length aT) (fz:aT.length≤ci) (hr2:Kd.C (Kd.int .i64) w A2 l2.length l2) (hc2:l2.length≤c2) (h:fastiref15_right.f k ai ah bg aT l2=some r),
  Calls Try.prog 44 #[.agg #[.slice ax ai.length ap,.slice au ah.length am],.agg #[.int .i64 bg,.slice cS aT.length ci],.slice A2 l2.length c2] w fun e w'=>e=.returned (.bool r)∧Below w.heap.size w w':=by
 induction k using Nat.strongRecOn with
 | _ k ih =>
 intro ax ap ai au am ah bg cS ci aT A2 c2 l2 r w bV bX bP bU fy fz hr2 hc2 h
 cases k with
 | zero=>exact absurd h (by simp [fastiref15_right.f])
 | succ k =>
 simp only [fastiref15_right.f] at h
 have hu25:=Try.underlying25
 have hu39:=Try.underlying39
 have hu49:=Try.underlying49
 have bz:=zzA bV
 have bH:=zzA bX
 clear bV bX
 have bq:=zzA bP
 have bF:=zzA bU
 clear bP bU
 have jN:=zzA fy
 have HC1_1:=zzA fz
 clear fy fz
 have HR2:=zzA hr2
 have HC2:=zzA hc2
 clear hr2 hc2
 have HB:=zzA (Below.refl w.heap.size w)
 have H:(if bg ≥ 0 then (if bg ≥ (ah.length:Int) then (some false) else (if (aT.length:Int) > 0 then (some false) else (if 0≤bg then (if bg < (ah.length:Int) then ((fastiref15_Breaks.f k ((aj ah bg).f0) ((aj ah bg).f1) ((aj ah bg).f2) ((aj ah bg).f3) l2).bind fun t308=>(some t308)) else (none)) else (none)))) else (if bg=(-1) then (fastiref15_right.j0 k l2 ((l2.length:Int) == (ai.length:Int)) ai ah bg aT) else (fastiref15_right.j0 k l2 true ai ah bg aT)))=some r:=h
 clear h
 by_cases c4:bg ≥ 0
 ·rw [if_pos c4] at H
  have f8:decide (0≤bg)=true:=zzG c4
  clear c4
  by_cases c5:bg ≥ (ah.length:Int)
  ·rw [if_pos c5] at H
   have jU:decide ((ah.length:Int)≤bg)=true:=zzG c5
   clear c5
   obtain rfl:=Option.some.inj H
   go_enter Try.func44,Try.ntmps44
   go_wp2_with (first|((with_reducible refine ay (N:=3) rfl ?_);(try (refine aI (by rfl) ?_;dsimp only));refine aq ?hg (N:=3) ?hd (cs:=#[.slice ax ai.length ap,.slice au ah.length am]) (t:=25) ?hr ?_;(case hd=>rfl);(case hg=>rfl);(case hr=>first|(go_simp;done)|(go_simp;rfl));intro bA hg w6 hbox hb;have n0_:=zzA (ag (by repeat (first|(with_reducible first|exact HB.out|apply a6|apply a4|apply a5)|exact HB.out)) hb);have n1_:=zzA (hbox);have n2_:=zzA ((by rw [hg];exact (ae (by repeat (first|(with_reducible first|exact HB.out|apply a6|apply a4|apply a5)|exact HB.out))):w.heap.size≤bA));have n3_:=zzA ((by rw [hg];exact (ae (by repeat (first|(with_reducible first|exact HB.out|apply a6|apply a4|apply a5)|exact HB.out))):w.heap.size≤bA));clear HB;have HB:=n0_;have az:=n1_;have GW305:=n2_;have bM:=n3_;clear n0_ n1_ n2_ n3_;clear hb hbox hg)|((with_reducible refine ay (N:=4) rfl ?_);(try (refine aI (by rfl) ?_;dsimp only));refine aq ?hg (N:=4) ?hd (cs:=#[.int .i64 bg,.slice cS aT.length ci]) (t:=39) ?hr ?_;(case hd=>rfl);(case hg=>rfl);(case hr=>first|(go_simp;done)|(go_simp;rfl));intro bJ hg w7 hbox hb;have n0_:=zzA (af (g:=bA) (o:=.cells #[.slice ax ai.length ap,.slice au ah.length am] 25 (0,0)) (by (with_reducible repeat (first|refine aa ?_ _|refine ac ?_|refine a9 ?_ _));exact az.out) hb);have n1_:=zzA (ag (by repeat (first|(with_reducible first|exact HB.out|apply a6|apply a4|apply a5|refine a7 ?_ bM.out)|exact HB.out)) hb);have n2_:=zzA (hbox);have n3_:=zzA ((by rw [hg];exact (ae (by repeat (first|(with_reducible first|exact HB.out|apply a6|apply a4|apply a5|refine a7 ?_ bM.out)|exact HB.out))):w.heap.size≤bJ));have n4_:=zzA ((by rw [hg];exact (ae (by repeat (first|(with_reducible first|exact HB.out|apply a6|apply a4|apply a5|refine a7 ?_ bM.out)|exact HB.out))):w.heap.size≤bJ));have n5_:=zzA ((by rw [hg];exact Nat.ne_of_lt (aJ (g:=bA) (o:=.cells #[.slice ax ai.length ap,.slice au ah.length am] 25 (0,0)) (by (with_reducible repeat (first|refine aa ?_ _|refine ac ?_|refine a9 ?_ _));exact az.out)):bA ≠ bJ));have n6_:=zzA ((by rw [hg];exact Nat.ne_of_gt (aJ (g:=bA) (o:=.cells #[.slice ax ai.length ap,.slice au ah.length am] 25 (0,0)) (by (with_reducible repeat (first|refine aa ?_ _|refine ac ?_|refine a9 ?_ _));exact az.out)):bJ ≠ bA));clear az;clear HB;have az:=n0_;have HB:=n1_;have aC:=n2_;have GW306:=n3_;have cd:=n4_;have NB305_306:=n5_;have NB306_305:=n6_;clear n0_ n1_ n2_ n3_ n4_ n5_ n6_;clear hb hbox hg;have hnb8:=NB306_305.out;have hnc8:=NB305_306.out;have dS:w7.cell? ⟨bJ,0,none⟩=some (.int .i64 bg):=(a8 aC.out 0).trans rfl;have dT:w7.cell? ⟨bJ,1,none⟩=some (.slice cS aT.length ci):=(a8 aC.out 1).trans rfl;have dU:=ab aC.out 0;have dV:=ab aC.out 1;have ef:w7.cell? ⟨bA,0,none⟩=some (.slice ax ai.length ap):=(a8 az.out 0).trans rfl;have eh:w7.cell? ⟨bA,1,none⟩=some (.slice au ah.length am):=(a8 az.out 1).trans rfl;have ei:=ab az.out 0;have ej:=ab az.out 1))
   go_ret
   exact ⟨by first|rfl|(simp [ak,al] <;> rfl)|(simp [*,ak,al] <;> rfl),by repeat (first|(with_reducible first|exact HB.out|apply a6|apply a4|apply a5|refine a7 ?_ bM.out|refine a7 ?_ cd.out)|exact HB.out)⟩
  ·rw [if_neg c5] at H
   have jU:decide ((ah.length:Int)≤bg)=false:=zzH c5
   clear c5
   by_cases c11:(aT.length:Int) > 0
   ·rw [if_pos c11] at H
    have c11b0:decide (0 < (aT.length:Int))=true:=zzG c11
    have c11b1:decide (0 < aT.length)=true:=zzG (by omega)
    clear c11
    obtain rfl:=Option.some.inj H
    go_enter Try.func44,Try.ntmps44
    go_wp2_with (first|((with_reducible refine ay (N:=3) rfl ?_);(try (refine aI (by rfl) ?_;dsimp only));refine aq ?hg (N:=3) ?hd (cs:=#[.slice ax ai.length ap,.slice au ah.length am]) (t:=25) ?hr ?_;(case hd=>rfl);(case hg=>rfl);(case hr=>first|(go_simp;done)|(go_simp;rfl));intro bA hg w12 hbox hb;have n0_:=zzA (ag (by repeat (first|(with_reducible first|exact HB.out|apply a6|apply a4|apply a5)|exact HB.out)) hb);have n1_:=zzA (hbox);have n2_:=zzA ((by rw [hg];exact (ae (by repeat (first|(with_reducible first|exact HB.out|apply a6|apply a4|apply a5)|exact HB.out))):w.heap.size≤bA));have n3_:=zzA ((by rw [hg];exact (ae (by repeat (first|(with_reducible first|exact HB.out|apply a6|apply a4|apply a5)|exact HB.out))):w.heap.size≤bA));clear HB;have HB:=n0_;have az:=n1_;have GW305:=n2_;have bM:=n3_;clear n0_ n1_ n2_ n3_;clear hb hbox hg)|((with_reducible refine ay (N:=4) rfl ?_);(try (refine aI (by rfl) ?_;dsimp only));refine aq ?hg (N:=4) ?hd (cs:=#[.int .i64 bg,.slice cS aT.length ci]) (t:=39) ?hr ?_;(case hd=>rfl);(case hg=>rfl);(case hr=>first|(go_simp;done)|(go_simp;rfl));intro bJ hg w13 hbox hb;have n0_:=zzA (af (g:=bA) (o:=.cells #[.slice ax ai.length ap,.slice au ah.length am] 25 (0,0)) (by (with_reducible repeat (first|refine aa ?_ _|refine ac ?_|refine a9 ?_ _));exact az.out) hb);have n1_:=zzA (ag (by repeat (first|(with_reducible first|exact HB.out|apply a6|apply a4|apply a5|refine a7 ?_ bM.out)|exact HB.out)) hb);have n2_:=zzA (hbox);have n3_:=zzA ((by rw [hg];exact (ae (by repeat (first|(with_reducible first|exact HB.out|apply a6|apply a4|apply a5|refine a7 ?_ bM.out)|exact HB.out))):w.heap.size≤bJ));have n4_:=zzA ((by rw [hg];exact (ae (by repeat (first|(with_reducible first|exact HB.out|apply a6|apply a4|apply a5|refine a7 ?_ bM.out)|exact HB.out))):w.heap.size≤bJ));have n5_:=zzA ((by rw [hg];exact Nat.ne_of_lt (aJ (g:=bA) (o:=.cells #[.slice ax ai.length ap,.slice au ah.length am] 25 (0,0)) (by (with_reducible repeat (first|refine aa ?_ _|refine ac ?_|refine a9 ?_ _));exact az.out)):bA ≠ bJ));have n6_:=zzA ((by rw [hg];exact Nat.ne_of_gt (aJ (g:=bA) (o:=.cells #[.slice ax ai.length ap,.slice au ah.length am] 25 (0,0)) (by (with_reducible repeat (first|refine aa ?_ _|refine ac ?_|refine a9 ?_ _));exact az.out)):bJ ≠ bA));clear az;clear HB;have az:=n0_;have HB:=n1_;have aC:=n2_;have GW306:=n3_;have cd:=n4_;have NB305_306:=n5_;have NB306_305:=n6_;clear n0_ n1_ n2_ n3_ n4_ n5_ n6_;clear hb hbox hg;have hnb14:=NB306_305.out;have hnc14:=NB305_306.out;have eP:w13.cell? ⟨bJ,0,none⟩=some (.int .i64 bg):=(a8 aC.out 0).trans rfl;have eQ:w13.cell? ⟨bJ,1,none⟩=some (.slice cS aT.length ci):=(a8 aC.out 1).trans rfl;have eR:=ab aC.out 0;have eS:=ab aC.out 1;have eH:w13.cell? ⟨bA,0,none⟩=some (.slice ax ai.length ap):=(a8 az.out 0).trans rfl;have eI:w13.cell? ⟨bA,1,none⟩=some (.slice au ah.length am):=(a8 az.out 1).trans rfl;have eJ:=ab az.out 0;have eK:=ab az.out 1))
    go_ret
    exact ⟨by first|rfl|(simp [ak,al] <;> rfl)|(simp [*,ak,al] <;> rfl),by repeat (first|(with_reducible first|exact HB.out|apply a6|apply a4|apply a5|refine a7 ?_ bM.out|refine a7 ?_ cd.out)|exact HB.out)⟩
   ·rw [if_neg c11] at H
    have c11b0:decide (0 < (aT.length:Int))=false:=zzH c11
    have c11b1:decide (0 < aT.length)=false:=zzH (by omega)
    clear c11
    by_cases c17:0≤bg
    ·rw [if_pos c17] at H
     have gW:decide (0≤bg)=true:=zzG c17
     clear c17
     by_cases c18:bg < (ah.length:Int)
     ·rw [if_pos c18] at H
      have c18b0:decide (bg < (ah.length:Int))=true:=zzG c18
      clear c18
      replace H:=Option.bind_eq_some_iff.mp H
      obtain ⟨t308,A190,H⟩:=H
      replace H:(some t308)=some r:=H
      have A19:=zzA A190
      clear A190
      obtain rfl:=Option.some.inj H
      go_enter Try.func44,Try.ntmps44
      go_wp2_with (first|((with_reducible refine ay (N:=3) rfl ?_);(try (refine aI (by rfl) ?_;dsimp only));refine aq ?hg (N:=3) ?hd (cs:=#[.slice ax ai.length ap,.slice au ah.length am]) (t:=25) ?hr ?_;(case hd=>rfl);(case hg=>rfl);(case hr=>first|(go_simp;done)|(go_simp;rfl));intro bA hg w20 hbox hb;have n0_:=zzA (ag (by repeat (first|(with_reducible first|exact HB.out|apply a6|apply a4|apply a5)|exact HB.out)) hb);have n1_:=zzA (hbox);have n2_:=zzA ((by rw [hg];exact (ae (by repeat (first|(with_reducible first|exact HB.out|apply a6|apply a4|apply a5)|exact HB.out))):w.heap.size≤bA));have n3_:=zzA ((by rw [hg];exact (ae (by repeat (first|(with_reducible first|exact HB.out|apply a6|apply a4|apply a5)|exact HB.out))):w.heap.size≤bA));clear HB;have HB:=n0_;have az:=n1_;have GW305:=n2_;have bM:=n3_;clear n0_ n1_ n2_ n3_;clear hb hbox hg)|((with_reducible refine ay (N:=4) rfl ?_);(try (refine aI (by rfl) ?_;dsimp only));refine aq ?hg (N:=4) ?hd (cs:=#[.int .i64 bg,.slice cS aT.length ci]) (t:=39) ?hr ?_;(case hd=>rfl);(case hg=>rfl);(case hr=>first|(go_simp;done)|(go_simp;rfl));intro bJ hg w21 hbox hb;have n0_:=zzA (af (g:=bA) (o:=.cells #[.slice ax ai.length ap,.slice au ah.length am] 25 (0,0)) (by (with_reducible repeat (first|refine aa ?_ _|refine ac ?_|refine a9 ?_ _));exact az.out) hb);have n1_:=zzA (ag (by repeat (first|(with_reducible first|exact HB.out|apply a6|apply a4|apply a5|refine a7 ?_ bM.out)|exact HB.out)) hb);have n2_:=zzA (hbox);have n3_:=zzA ((by rw [hg];exact (ae (by repeat (first|(with_reducible first|exact HB.out|apply a6|apply a4|apply a5|refine a7 ?_ bM.out)|exact HB.out))):w.heap.size≤bJ));have n4_:=zzA ((by rw [hg];exact (ae (by repeat (first|(with_reducible first|exact HB.out|apply a6|apply a4|apply a5|refine a7 ?_ bM.out)|exact HB.out))):w.heap.size≤bJ));have n5_:=zzA ((by rw [hg];exact Nat.ne_of_lt (aJ (g:=bA) (o:=.cells #[.slice ax ai.length ap,.slice au ah.length am] 25 (0,0)) (by (with_reducible repeat (first|refine aa ?_ _|refine ac ?_|refine a9 ?_ _));exact az.out)):bA ≠ bJ));have n6_:=zzA ((by rw [hg];exact Nat.ne_of_gt (aJ (g:=bA) (o:=.cells #[.slice ax ai.length ap,.slice au ah.length am] 25 (0,0)) (by (with_reducible repeat (first|refine aa ?_ _|refine ac ?_|refine a9 ?_ _));exact az.out)):bJ ≠ bA));clear az;clear HB;have az:=n0_;have HB:=n1_;have aC:=n2_;have GW306:=n3_;have cd:=n4_;have NB305_306:=n5_;have NB306_305:=n6_;clear n0_ n1_ n2_ n3_ n4_ n5_ n6_;clear hb hbox hg;have hnb22:=NB306_305.out;have hnc22:=NB305_306.out;have jc:w21.cell? ⟨bJ,0,none⟩=some (.int .i64 bg):=(a8 aC.out 0).trans rfl;have jd:w21.cell? ⟨bJ,1,none⟩=some (.slice cS aT.length ci):=(a8 aC.out 1).trans rfl;have je:=ab aC.out 0;have jf:=ab aC.out 1;have ji:w21.cell? ⟨bA,0,none⟩=some (.slice ax ai.length ap):=(a8 az.out 0).trans rfl;have jk:w21.cell? ⟨bA,1,none⟩=some (.slice au ah.length am):=(a8 az.out 1).trans rfl;have jl:=ab az.out 0;have jm:=ab az.out 1;have p307:0≤(bg:Int):=zzF (by first|(with_reducible assumption)|assumption);have q307:bg < (ah.length:Int):=zzF (by first|(with_reducible assumption)|assumption);obtain ⟨ad307,A307_2,c307_2,A307_3,c307_3,e307,lU,lV,lW,lX,hl307_2,hi307_2,hl307_3,hi307_3⟩:=ex bq.out bg p307 q307;cases e307;replace lU:=(HB.out.cell (zzE w _ lU)).trans lU;replace lV:=(HB.out.cell (zzE w _ lV)).trans lV;replace lW:=(HB.out.cell (zzE w _ lW)).trans lW;replace lX:=(HB.out.cell (zzE w _ lX)).trans lX;have HR307_2:=zzA hi307_2;have HC307_2:=zzA hl307_2;clear hi307_2 hl307_2;have HR307_3:=zzA hi307_3;have HC307_3:=zzA hl307_3;clear hi307_3 hl307_3;replace p307:=eq_true p307;replace q307:=eq_true q307)|((with_reducible refine ar (f:=34) rfl ?_);refine bi (some 31) rfl rfl Try.func34 (by kernel_rfl) rfl #[.agg #[.int .i64 ((aj ah bg).f0),.int .i64 ((aj ah bg).f1),.slice A307_2 ((aj ah bg).f2).length c307_2,.slice A307_3 ((aj ah bg).f3).length c307_3],.slice A2 l2.length c2] rfl (by (try simp only [List.map_toArray,List.map_cons,List.map_nil]);first|done|rfl|(simp only [List.length_drop,List.length_take];rfl)) ?_;(with_reducible refine (fastiref15_Breaks.calls k ((aj ah bg).f0) ((aj ah bg).f1) _ _ ((aj ah bg).f2) _ _ ((aj ah bg).f3) _ _ l2 t308 _ ?side1 ?side2 ?side3 ?side4 ?side5 ?side6 A19.out).mono ?_);(case side1=>repeat (first|exact (zzI HR307_2.out HB.out)|(with_reducible refine Kd.C_alloc ?_ _)|(with_reducible refine Kd.C_drewN ?_ _)|(with_reducible refine Kd.C_drew ?_)));(case side2=>exact HC307_2.out);(case side3=>repeat (first|exact (zzI HR307_3.out HB.out)|(with_reducible refine Kd.C_alloc ?_ _)|(with_reducible refine Kd.C_drewN ?_ _)|(with_reducible refine Kd.C_drew ?_)));(case side4=>exact HC307_3.out);(case side5=>repeat (first|exact (zzI HR2.out HB.out)|(with_reducible refine Kd.C_alloc ?_ _)|(with_reducible refine Kd.C_drewN ?_ _)|(with_reducible refine Kd.C_drew ?_)));(case side6=>exact HC2.out);rintro e w25 ⟨rfl,hb⟩;refine ⟨_,rfl,?_⟩;have n0_:=zzA (af (g:=bA) (o:=.cells #[.slice ax ai.length ap,.slice (some ad307) ah.length am] 25 (0,0)) (by (with_reducible repeat (first|refine aa ?_ _|refine ac ?_|refine a9 ?_ _));exact az.out) hb);have n1_:=zzA (af (g:=bJ) (o:=.cells #[.int .i64 bg,.slice cS aT.length ci] 39 (0,0)) (by (with_reducible repeat (first|refine aa ?_ _|refine ac ?_|refine a9 ?_ _));exact aC.out) hb);have n2_:=zzA (ag (by repeat (first|(with_reducible first|exact HB.out|apply a6|apply a4|apply a5|refine a7 ?_ bM.out|refine a7 ?_ cd.out)|exact HB.out)) hb);clear az;clear aC;clear HB;have az:=n0_;have aC:=n1_;have HB:=n2_;clear n0_ n1_ n2_;(try clear hb);(try clear hb2);(try clear hk);(try clear hi)))
      go_ret
      exact ⟨by first|rfl|(simp [ak,al] <;> rfl)|(simp [*,ak,al] <;> rfl),by repeat (first|(with_reducible first|exact HB.out|apply a6|apply a4|apply a5|refine a7 ?_ bM.out|refine a7 ?_ cd.out)|exact HB.out)⟩
     ·rw [if_neg c18] at H
      exact absurd H (by simp)
    ·rw [if_neg c17] at H
     exact absurd H (by simp)
 ·rw [if_neg c4] at H
  have f8:decide (0≤bg)=false:=zzH c4
  clear c4
  have HC26:=zzA H
  clear H
  go_enter Try.func44,Try.ntmps44
  go_upto_region 5 with (first|((with_reducible refine ay (N:=3) rfl ?_);(try (refine aI (by rfl) ?_;dsimp only));refine aq ?hg (N:=3) ?hd (cs:=#[.slice ax ai.length ap,.slice au ah.length am]) (t:=25) ?hr ?_;(case hd=>rfl);(case hg=>rfl);(case hr=>first|(go_simp;done)|(go_simp;rfl));intro bA hg w27 hbox hb;have n0_:=zzA (ag (by repeat (first|(with_reducible first|exact HB.out|apply a6|apply a4|apply a5)|exact HB.out)) hb);have n1_:=zzA (hbox);have n2_:=zzA ((by rw [hg];exact (ae (by repeat (first|(with_reducible first|exact HB.out|apply a6|apply a4|apply a5)|exact HB.out))):w.heap.size≤bA));have n3_:=zzA ((by rw [hg];exact (ae (by repeat (first|(with_reducible first|exact HB.out|apply a6|apply a4|apply a5)|exact HB.out))):w.heap.size≤bA));clear HB;have HB:=n0_;have az:=n1_;have GW305:=n2_;have bM:=n3_;clear n0_ n1_ n2_ n3_;clear hb hbox hg)|((with_reducible refine ay (N:=4) rfl ?_);(try (refine aI (by rfl) ?_;dsimp only));refine aq ?hg (N:=4) ?hd (cs:=#[.int .i64 bg,.slice cS aT.length ci]) (t:=39) ?hr ?_;(case hd=>rfl);(case hg=>rfl);(case hr=>first|(go_simp;done)|(go_simp;rfl));intro bJ hg w28 hbox hb;have n0_:=zzA (af (g:=bA) (o:=.cells #[.slice ax ai.length ap,.slice au ah.length am] 25 (0,0)) (by (with_reducible repeat (first|refine aa ?_ _|refine ac ?_|refine a9 ?_ _));exact az.out) hb);have n1_:=zzA (ag (by repeat (first|(with_reducible first|exact HB.out|apply a6|apply a4|apply a5|refine a7 ?_ bM.out)|exact HB.out)) hb);have n2_:=zzA (hbox);have n3_:=zzA ((by rw [hg];exact (ae (by repeat (first|(with_reducible first|exact HB.out|apply a6|apply a4|apply a5|refine a7 ?_ bM.out)|exact HB.out))):w.heap.size≤bJ));have n4_:=zzA ((by rw [hg];exact (ae (by repeat (first|(with_reducible first|exact HB.out|apply a6|apply a4|apply a5|refine a7 ?_ bM.out)|exact HB.out))):w.heap.size≤bJ));have n5_:=zzA ((by rw [hg];exact Nat.ne_of_lt (aJ (g:=bA) (o:=.cells #[.slice ax ai.length ap,.slice au ah.length am] 25 (0,0)) (by (with_reducible repeat (first|refine aa ?_ _|refine ac ?_|refine a9 ?_ _));exact az.out)):bA ≠ bJ));have n6_:=zzA ((by rw [hg];exact Nat.ne_of_gt (aJ (g:=bA) (o:=.cells #[.slice ax ai.length ap,.slice au ah.length am] 25 (0,0)) (by (with_reducible repeat (first|refine aa ?_ _|refine ac ?_|refine a9 ?_ _));exact az.out)):bJ ≠ bA));clear az;clear HB;have az:=n0_;have HB:=n1_;have aC:=n2_;have GW306:=n3_;have cd:=n4_;have NB305_306:=n5_;have NB306_305:=n6_;clear n0_ n1_ n2_ n3_ n4_ n5_ n6_;clear hb hbox hg;have hnb29:=NB306_305.out;have hnc29:=NB305_306.out;have hcz30_0:w28.cell? ⟨bJ,0,none⟩=some (.int .i64 bg):=(a8 aC.out 0).trans rfl;have hcz30_1:w28.cell? ⟨bJ,1,none⟩=some (.slice cS aT.length ci):=(a8 aC.out 1).trans rfl;have hfz30_0:=ab aC.out 0;have hfz30_1:=ab aC.out 1))
  (try simp only [Act.put,zzB,zzC,zzD])
  go_cut [42] (fun v42 wc=>∃ (kq:Nat) (x42_25:Bool),v42=.bool x42_25∧Aside0 (fastiref15_right.j0 kq l2 x42_25 ai ah bg aT=some r)∧Aside0 (kq≤k)∧Aside0 (wc.heap[bA]?=some (.cells #[(.slice ax ai.length ap),(.slice au ah.length am)] 25 (0,0)))∧Aside0 (wc.heap[bJ]?=some (.cells #[.int .i64 bg,(.slice cS aT.length ci)] 39 (0,0)))∧Aside0 (Below w.heap.size w wc))
  case first =>
   have H:=HC26.out
   clear HC26
   by_cases c31:bg=(-1)
   ·rw [if_pos c31] at H
    have lg:(bg == (-1))=true:=beq_iff_eq.mpr c31
    have c31b1:(bg != (-1))=false:=bne_eq_false_iff_eq.mpr c31
    clear c31
    (first|rw [lg]|(simp only [av,aw];rw [lg])|skip)
    have H':=zzA H
    clear H
    have hnb32:=NB306_305.out
    have hnc32:=NB305_306.out
    have kQ:w28.cell? ⟨bJ,0,none⟩=some (.int .i64 bg):=(a8 aC.out 0).trans rfl
    have kR:w28.cell? ⟨bJ,1,none⟩=some (.slice cS aT.length ci):=(a8 aC.out 1).trans rfl
    have kS:=ab aC.out 0
    have kT:=ab aC.out 1
    have lh:w28.cell? ⟨bA,0,none⟩=some (.slice ax ai.length ap):=(a8 az.out 0).trans rfl
    have ll:w28.cell? ⟨bA,1,none⟩=some (.slice au ah.length am):=(a8 az.out 1).trans rfl
    have lm:=ab az.out 0
    have ln:=ab az.out 1
    go_wp2
    go_meet
    case rel=>exact ⟨_,(((l2.length:Int) == (ai.length:Int))),(by first|rfl|(simp;done)|(simp [*];done)),H',⟨by first|omega|exact Nat.le_refl _⟩,⟨by (with_reducible repeat (first|refine aa ?_ _|refine ac ?_|refine a9 ?_ _));exact az.out⟩,⟨by (with_reducible repeat (first|refine aa ?_ _|refine ac ?_|refine a9 ?_ _));exact aC.out⟩,⟨by repeat (first|(with_reducible first|exact HB.out|apply a6|apply a4|apply a5|refine a7 ?_ bM.out|refine a7 ?_ cd.out)|exact HB.out)⟩⟩
   ·rw [if_neg c31] at H
    have lg:(bg == (-1))=false:=beq_eq_false_iff_ne.mpr c31
    have c31b1:(bg != (-1))=true:=bne_iff_ne.mpr c31
    (first|rw [lg]|(simp only [av,aw];rw [lg])|skip)
    have H':=zzA H
    clear H
    have hnb35:=NB306_305.out
    have hnc35:=NB305_306.out
    have hcz36_0:w28.cell? ⟨bJ,0,none⟩=some (.int .i64 bg):=(a8 aC.out 0).trans rfl
    have hcz36_1:w28.cell? ⟨bJ,1,none⟩=some (.slice cS aT.length ci):=(a8 aC.out 1).trans rfl
    have hfz36_0:=ab aC.out 0
    have hfz36_1:=ab aC.out 1
    go_wp2
    go_meet
    case rel=>exact ⟨_,(true),(by first|rfl|(simp;done)|(simp [*];done)),H',⟨by first|omega|exact Nat.le_refl _⟩,⟨by (with_reducible repeat (first|refine aa ?_ _|refine ac ?_|refine a9 ?_ _));exact az.out⟩,⟨by (with_reducible repeat (first|refine aa ?_ _|refine ac ?_|refine a9 ?_ _));exact aC.out⟩,⟨by repeat (first|(with_reducible first|exact HB.out|apply a6|apply a4|apply a5|refine a7 ?_ bM.out|refine a7 ?_ cd.out)|exact HB.out)⟩⟩
  case rest =>
   clear HC26
   try clear c1;try clear c2;try clear p2;try clear c3;try clear p3;try clear q3;try clear hx3;try clear c4;try clear f8;try clear c5;try clear jU;try clear c8;try clear c11;try clear c11b0;try clear c11b1;try clear c14;try clear c17;try clear gW;try clear c18;try clear c18b0;try clear c22;try clear c29;try clear c30;try clear p30;try clear q30;try clear hx30;try clear c31;try clear lg;try clear c31b1;try clear c32;try clear c34;try clear c35;try clear ef;try clear eh;try clear eP;try clear eQ;try clear eH;try clear eI;try clear jc;try clear jd;try clear ji;try clear jk;try clear hcz30_0;try clear hcz30_1;try clear kQ;try clear kR;try clear lh;try clear ll;try clear hcz36_0;try clear hcz36_1;try clear dS;try clear dT;try clear ei;try clear ej;try clear eR;try clear eS;try clear eJ;try clear eK;try clear je;try clear jf;try clear jl;try clear jm;try clear hfz30_0;try clear hfz30_1;try clear kS;try clear kT;try clear lm;try clear ln;try clear hfz36_0;try clear hfz36_1;try clear dU;try clear dV;try clear lU;try clear lV;try clear lW;try clear lX;try clear p307;try clear q307
   obtain ⟨kq,x42_25,rfl,HA,HJ25,az,aC,HB⟩:=hcut
   cases kq with
   | zero=>exact absurd HA.out (by simp [fastiref15_right.j0])
   | succ kj25 =>
    have H:=HA.out
    clear HA
    simp only [fastiref15_right.j0] at H
    by_cases c37:x42_25=true
    ·subst c37
     have H1:(some false)=some r:=by rw [if_pos rfl] at H;exact H
     clear H
     have H:=H1
     clear H1
     obtain rfl:=Option.some.inj H
     go_wp2
     go_ret
     exact ⟨by first|rfl|(simp [ak,al] <;> rfl)|(simp [*,ak,al] <;> rfl),by repeat (first|(with_reducible first|exact HB.out|apply a6|apply a4|apply a5|refine a7 ?_ bM.out|refine a7 ?_ cd.out)|exact HB.out)⟩
    ·replace c37:=Bool.eq_false_iff.mpr c37
     subst c37
     have H1:(if 0≤(l2.length:Int) then (if (l2.length:Int) < (ai.length:Int) then (if (aT.length:Int)=((ao ai (l2.length:Int)).length:Int) then (fastiref15_right.l0 kj25 l2 (ao ai (l2.length:Int)) 0 ai ah bg aT) else (some false)) else (none)) else (none))=some r:=by rw [if_neg (show ¬ (false=true) by decide)] at H;exact H
     clear H
     have H:=H1
     clear H1
     by_cases c38:0≤(l2.length:Int)
     ·rw [if_pos c38] at H
      have c38b0:decide (0≤(l2.length:Int))=true:=zzG c38
      have c38b1:decide (0≤l2.length)=true:=zzG (by omega)
      clear c38
      by_cases c39:(l2.length:Int) < (ai.length:Int)
      ·rw [if_pos c39] at H
       have c39b0:decide ((l2.length:Int) < (ai.length:Int))=true:=zzG c39
       have c39b1:decide (l2.length < ai.length)=true:=zzG (Int.ofNat_lt.mp c39)
       clear c39
       by_cases c40:(aT.length:Int)=((ao ai (l2.length:Int)).length:Int)
       ·rw [if_pos c40] at H
        have c40b0:((aT.length:Int) == ((ao ai (l2.length:Int)).length:Int))=true:=beq_iff_eq.mpr c40
        have c40b1:((aT.length:Int) != ((ao ai (l2.length:Int)).length:Int))=false:=bne_eq_false_iff_eq.mpr c40
        have c40b2:(aT.length == (ao ai (l2.length:Int)).length)=true:=by first|simpa using c40|(simp at c40 ⊢;omega)
        clear c40
        have H':=zzA H
        clear H
        have hnb41:=NB305_306.out
        have hnc41:=NB306_305.out
        have hcz42_0:wc.cell? ⟨bA,0,none⟩=some (.slice ax ai.length ap):=(a8 az.out 0).trans rfl
        have hcz42_1:wc.cell? ⟨bA,1,none⟩=some (.slice au ah.length am):=(a8 az.out 1).trans rfl
        have hfz42_0:=ab az.out 0
        have hfz42_1:=ab az.out 1
        have p309:0≤((l2.length:Int):Int):=zzF (by first|(with_reducible assumption)|assumption)
        have q309:(l2.length:Int) < (ai.length:Int):=zzF (by first|(with_reducible assumption)|assumption)
        obtain ⟨ad309,A309_0,c309_0,e309,fp,lY,lZ⟩:=et bz.out (l2.length:Int) p309 q309
        cases e309
        replace fp:=(HB.out.cell (zzE w _ fp)).trans fp
        have HR309_0:=zzA lZ
        have HC309_0:=zzA lY
        clear lZ lY
        (try simp only [Go.IntWalk.toNatUp] at fp)
        replace p309:=eq_true p309
        replace q309:=eq_true q309
        have lv:wc.cell? ⟨bJ,0,none⟩=some (.int .i64 bg):=(a8 aC.out 0).trans rfl
        have lw:wc.cell? ⟨bJ,1,none⟩=some (.slice cS aT.length ci):=(a8 aC.out 1).trans rfl
        have lx:=ab aC.out 0
        have ly:=ab aC.out 1
        go_wp2
        go_loopg [8] kj25 (fun kq v8 w'=>∃ (x8_2:Int),v8=.int .i64 x8_2∧Aside0 (fastiref15_right.l0 kq l2 (ao ai (l2.length:Int)) x8_2 ai ah bg aT=some r)∧Aside0 (kq≤kj25)∧Aside0 (w'.heap[bA]?=some (.cells #[(.slice (some ad309) ai.length ap),(.slice au ah.length am)] 25 (0,0)))∧Aside0 (w'.heap[bJ]?=some (.cells #[.int .i64 bg,(.slice cS aT.length ci)] 39 (0,0)))∧Aside0 (Below w.heap.size w w'))
        case atStart=>exact ⟨(0),(by first|rfl|(simp;done)|(simp [*];done)),H',⟨Nat.le_refl _⟩,⟨by (with_reducible repeat (first|refine aa ?_ _|refine ac ?_|refine a9 ?_ _));exact az.out⟩,⟨by (with_reducible repeat (first|refine aa ?_ _|refine ac ?_|refine a9 ?_ _));exact aC.out⟩,⟨by repeat (first|(with_reducible first|exact HB.out|apply a6|apply a4|apply a5|refine a7 ?_ bM.out|refine a7 ?_ cd.out)|exact HB.out)⟩⟩
        case round =>
         clear H'
         try clear c1;try clear c2;try clear p2;try clear c3;try clear p3;try clear q3;try clear hx3;try clear c4;try clear f8;try clear c5;try clear jU;try clear c8;try clear c11;try clear c11b0;try clear c11b1;try clear c14;try clear c17;try clear gW;try clear c18;try clear c18b0;try clear c22;try clear c29;try clear c30;try clear p30;try clear q30;try clear hx30;try clear c31;try clear lg;try clear c31b1;try clear c32;try clear c34;try clear c35;try clear c37;try clear c38;try clear c38b0;try clear c38b1;try clear c39;try clear c39b0;try clear c39b1;try clear c40;try clear c40b0;try clear c40b1;try clear c40b2;try clear c41;try clear ef;try clear eh;try clear eP;try clear eQ;try clear eH;try clear eI;try clear jc;try clear jd;try clear ji;try clear jk;try clear hcz30_0;try clear hcz30_1;try clear kQ;try clear kR;try clear lh;try clear ll;try clear hcz36_0;try clear hcz36_1;try clear hcz42_0;try clear hcz42_1;try clear lv;try clear lw;try clear dS;try clear dT;try clear ei;try clear ej;try clear eR;try clear eS;try clear eJ;try clear eK;try clear je;try clear jf;try clear jl;try clear jm;try clear hfz30_0;try clear hfz30_1;try clear kS;try clear kT;try clear lm;try clear ln;try clear hfz36_0;try clear hfz36_1;try clear hfz42_0;try clear hfz42_1;try clear lx;try clear ly;try clear dU;try clear dV;try clear lU;try clear lV;try clear lW;try clear lX;try clear fp;try clear p307;try clear p309;try clear q307;try clear q309
         obtain ⟨x8_2,rfl,HA,HK2,az,aC,HB⟩:=hrel
         cases gk with
         | zero=>exact absurd HA.out (by simp [fastiref15_right.l0])
         | succ k2 =>
          have H:=HA.out
          clear HA
          simp only [fastiref15_right.l0] at H
          by_cases c44:x8_2 < ((ao ai (l2.length:Int)).length:Int)
          ·rw [if_pos c44] at H
           have c44b0:decide (x8_2 < ((ao ai (l2.length:Int)).length:Int))=true:=zzG c44
           clear c44
           by_cases c45:0≤x8_2
           ·rw [if_pos c45] at H
            have c45b0:decide (0≤x8_2)=true:=zzG c45
            clear c45
            by_cases c46:x8_2 < (aT.length:Int)
            ·rw [if_pos c46] at H
             have c46b0:decide (x8_2 < (aT.length:Int))=true:=zzG c46
             clear c46
             obtain ⟨y311,hy311⟩ : ∃ y_:List Int,y_=(([]:List Int)):=⟨_,rfl⟩
             replace H:(if y311.length+l2.length < 17592186044416 then ((some (y311 ++ l2:List Int)).bind fun y314=>((some (([rd (ao ai (l2.length:Int)) x8_2]:List Int):List Int)).bind fun y318=>(if y314.length+y318.length < 17592186044416 then ((fastiref15_right.f k2 ai ah ((aY aT x8_2).f0) ((aY aT x8_2).f1) (y314 ++ y318)).bind fun t324=>(if t324=true then (fastiref15_right.l0 k2 l2 (ao ai (l2.length:Int)) (wrap64 (x8_2+1)) ai ah bg aT) else (some false))) else (none)))) else (none))=some r:=by first|(rw [hy311];with_reducible exact H)|(have H2_:=(Option.bind_some _ _).symm.trans H;rw [hy311];with_reducible exact H2_)|(have H2_:=(Option.bind_some _ _).symm.trans H;with_reducible exact H2_)|with_reducible exact H|(rw [hy311];exact H)|exact H
             have Ny311:=zzA hy311
             clear hy311
             by_cases c47:y311.length+l2.length < 17592186044416
             ·rw [if_pos c47] at H
              have LMc47:=zzA c47
              clear c47
              obtain ⟨y314,hy314⟩ : ∃ y_:List Int,y_=(y311 ++ l2):=⟨_,rfl⟩
              replace H:((some (([rd (ao ai (l2.length:Int)) x8_2]:List Int):List Int)).bind fun y318=>(if y314.length+y318.length < 17592186044416 then ((fastiref15_right.f k2 ai ah ((aY aT x8_2).f0) ((aY aT x8_2).f1) (y314 ++ y318)).bind fun t324=>(if t324=true then (fastiref15_right.l0 k2 l2 (ao ai (l2.length:Int)) (wrap64 (x8_2+1)) ai ah bg aT) else (some false))) else (none)))=some r:=by first|(rw [hy314];with_reducible exact H)|(have H2_:=(Option.bind_some _ _).symm.trans H;rw [hy314];with_reducible exact H2_)|(have H2_:=(Option.bind_some _ _).symm.trans H;with_reducible exact H2_)|with_reducible exact H|(rw [hy314];exact H)|exact H
              have Ny314:=zzA hy314
              clear hy314
              obtain ⟨y318,hy318⟩ : ∃ y_:List Int,y_=(([rd (ao ai (l2.length:Int)) x8_2]:List Int)):=⟨_,rfl⟩
              replace H:(if y314.length+y318.length < 17592186044416 then ((fastiref15_right.f k2 ai ah ((aY aT x8_2).f0) ((aY aT x8_2).f1) (y314 ++ y318)).bind fun t324=>(if t324=true then (fastiref15_right.l0 k2 l2 (ao ai (l2.length:Int)) (wrap64 (x8_2+1)) ai ah bg aT) else (some false))) else (none))=some r:=by first|(rw [hy318];with_reducible exact H)|(have H2_:=(Option.bind_some _ _).symm.trans H;rw [hy318];with_reducible exact H2_)|(have H2_:=(Option.bind_some _ _).symm.trans H;with_reducible exact H2_)|with_reducible exact H|(rw [hy318];exact H)|exact H
              have Ny318:=zzA hy318
              clear hy318
              by_cases c48:y314.length+y318.length < 17592186044416
              ·rw [if_pos c48] at H
               have LMc48:=zzA c48
               clear c48
               obtain ⟨y321,hy321⟩ : ∃ y_:List Int,y_=(y314 ++ y318):=⟨_,rfl⟩
               replace H:((fastiref15_right.f k2 ai ah ((aY aT x8_2).f0) ((aY aT x8_2).f1) y321).bind fun t324=>(if t324=true then (fastiref15_right.l0 k2 l2 (ao ai (l2.length:Int)) (wrap64 (x8_2+1)) ai ah bg aT) else (some false)))=some r:=by first|(rw [hy321];with_reducible exact H)|(have H2_:=(Option.bind_some _ _).symm.trans H;rw [hy321];with_reducible exact H2_)|(have H2_:=(Option.bind_some _ _).symm.trans H;with_reducible exact H2_)|with_reducible exact H|(rw [hy321];exact H)|exact H
               have Ny321:=zzA hy321
               clear hy321
               replace H:=Option.bind_eq_some_iff.mp H
               obtain ⟨t324,A490,H⟩:=H
               replace H:(if t324=true then (fastiref15_right.l0 k2 l2 (ao ai (l2.length:Int)) (wrap64 (x8_2+1)) ai ah bg aT) else (some false))=some r:=H
               have A49:=zzA A490
               clear A490
               by_cases c50:t324=true
               ·subst c50
                have H1:(fastiref15_right.l0 k2 l2 (ao ai (l2.length:Int)) (wrap64 (x8_2+1)) ai ah bg aT)=some r:=by rw [if_pos rfl] at H;exact H
                clear H
                have H:=H1
                clear H1
                have H':=zzA H
                clear H
                try go_wp2
                have n0_:=zzA (ac az.out)
                have n1_:=zzA (ac aC.out)
                have n2_:=zzA (a5 HB.out)
                clear az
                clear aC
                clear HB
                have az:=n0_
                have aC:=n1_
                have HB:=n2_
                clear n0_ n1_ n2_
                have p310:0≤(x8_2:Int):=zzF (by first|(with_reducible assumption)|assumption)
                have q310:x8_2 < (aT.length:Int):=zzF (by first|(with_reducible assumption)|assumption)
                obtain ⟨ad310,iT,iU,e310,eY,eZ,m0,m7⟩:=kg jN.out x8_2 p310 q310
                have bu:=eZ
                have bv:=eY
                cases e310
                replace eY:=(HB.out.cell (zzE w _ eY)).trans eY
                replace eZ:=(HB.out.cell (zzE w _ eZ)).trans eZ
                have m8:=zzA m7
                have HC310_1:=zzA m0
                clear m7 m0
                replace p310:=eq_true p310
                replace q310:=eq_true q310
                have p317:0≤(x8_2:Int):=zzF (by first|(with_reducible assumption)|assumption)
                have q317:x8_2 < ((ao ai (l2.length:Int)).length:Int):=zzF (by first|(with_reducible assumption)|assumption)
                obtain ⟨ad317,e317,f5⟩:=Kd.at_int HR309_0.out x8_2 p317 q317
                have bw:=f5
                cases e317
                replace f5:=(HB.out.cell (zzE w _ f5)).trans f5
                replace p317:=eq_true p317
                replace q317:=eq_true q317
                refine ff (n:=17) (S:=fun w'=>w'.cell? ⟨bA,0,none⟩=some (.slice (some ad309) ai.length ap)∧w'.cell? ⟨bA,1,none⟩=some (.slice au ah.length am)∧w'.cell? ⟨bJ,0,none⟩=some (.int .i64 bg)∧w'.cell? ⟨bJ,1,none⟩=some (.slice (some ad310) aT.length ci)∧w'.cell? (ad310.add ((x8_2).toNat * 2))=some (.int .i64 ((aY aT x8_2).f0))∧w'.cell? ⟨(ad310.add ((x8_2).toNat * 2)).block,(ad310.add ((x8_2).toNat * 2)).off+1,none⟩=some (.slice iT ((aY aT x8_2).f1).length iU)∧w'.cell? (ad317.add (x8_2).toNat)=some (.int .i64 (rd (ao ai (l2.length:Int)) x8_2))) (ds:=[]) #[false,false,false,false,false,false,false,false,false,false,false,false,false,false,false,false,false] (by kernel_rfl) rfl rfl ⟨(a8 az.out 0).trans rfl,(a8 az.out 1).trans rfl,(a8 aC.out 0).trans rfl,(a8 aC.out 1).trans rfl,((HB.out.cell (zzE w _ bv)).trans bv),((HB.out.cell (zzE w _ bu)).trans bu),((HB.out.cell (zzE w _ bw)).trans bw)⟩ (fun hHeld=>?_);refine dy fastiref15_right.tab13 fastiref15_right.bits13 (fun HT_ HW_=>?_)
                generalize wr.drew=w51 at az aC HB m8 eY eZ f5 hHeld ⊢
                refine bh (i:=1) (N:=some 62) (v:=?_) (a':=?_) #[false,true,false,false,false,false,false,false,false,false,false,false,false,false,false,false,false] rfl rfl (aG HT_.out (by kernel_rfl)) (fun _ _ _ h=>h) (Or.inl ⟨by rfl,?_⟩) ?_ ?_
                rotate_left
                ·intro w'
                 go_simp
                 with_reducible rfl
                rotate_left
                ·simp only [Act.put,zzB,zzC,zzD,av,aw]
                 rfl
                refine bh (i:=3) (N:=some 64) (v:=?_) (a':=?_) #[false,true,false,true,false,false,false,false,false,false,false,false,false,false,false,false,false] rfl rfl (aG HT_.out (by kernel_rfl)) (fun _ _ _ h=>h) (Or.inl ⟨by rfl,?_⟩) ?_ ?_
                rotate_left
                ·intro w'
                 go_simp
                 with_reducible rfl
                rotate_left
                ·simp only [Act.put,zzB,zzC,zzD,av,aw]
                 rfl
                refine bh (i:=7) (N:=some 68) (v:=?_) (a':=?_) #[false,true,false,true,false,false,false,true,false,false,false,false,false,false,false,false,false] rfl rfl (aG HT_.out (by kernel_rfl)) (fun _ _ _ h=>h) (Or.inl ⟨by rfl,?_⟩) ?_ ?_
                rotate_left
                ·intro w'
                 go_simp
                 with_reducible rfl
                rotate_left
                ·simp only [Act.put,zzB,zzC,zzD,av,aw]
                 rfl
                refine bh (i:=9) (N:=some 70) (v:=?_) (a':=?_) #[false,true,false,true,false,false,false,true,false,true,false,false,false,false,false,false,false] rfl rfl (aG HT_.out (by kernel_rfl)) (fun _ _ _ h=>h) (Or.inl ⟨by rfl,?_⟩) ?_ ?_
                rotate_left
                ·intro w'
                 go_simp
                 with_reducible rfl
                rotate_left
                ·simp only [Act.put,zzB,zzC,zzD,av,aw]
                 rfl
                refine bh (i:=10) (N:=some 71) (v:=?_) (a':=?_) #[false,true,false,true,false,false,false,true,false,true,true,false,false,false,false,false,false] rfl rfl (aG HT_.out (by kernel_rfl)) (fun _ _ _ h=>h) (Or.inl ⟨by rfl,?_⟩) ?_ ?_
                rotate_left
                ·intro w'
                 go_simp
                 with_reducible rfl
                rotate_left
                ·simp only [Act.put,zzB,zzC,zzD,av,aw]
                 rfl
                refine bh (i:=11) (N:=some 72) (v:=?_) (a':=?_) #[false,true,false,true,false,false,false,true,false,true,true,true,false,false,false,false,false] rfl rfl (aG HT_.out (by kernel_rfl)) (fun _ _ _ h=>h) (Or.inl ⟨by rfl,?_⟩) ?_ ?_
                rotate_left
                ·intro w'
                 go_simp
                 with_reducible rfl
                rotate_left
                ·simp only [Act.put,zzB,zzC,zzD,av,aw]
                 rfl
                refine take_ (i:=0) (N:=some 61) (v:=?_) (a':=?_) #[true,true,false,true,false,false,false,true,false,true,true,true,false,false,false,false,false] rfl rfl (bI HT_.out HW_.out (by kernel_rfl)) (fun _ _ _ h=>h) (Or.inl ⟨by rfl,?_⟩) hHeld ?_ ?_
                rotate_left
                ·rintro w' ⟨s0,s1,s2,s3,s4,s5,s6⟩
                 go_simp
                 with_reducible rfl
                rotate_left
                ·simp only [Act.put,zzB,zzC,zzD,av,aw]
                 rfl
                refine take_ (i:=2) (N:=some 63) (v:=?_) (a':=?_) #[true,true,true,true,false,false,false,true,false,true,true,true,false,false,false,false,false] rfl rfl (bI HT_.out HW_.out (by kernel_rfl)) (fun _ _ _ h=>h) (Or.inl ⟨by rfl,?_⟩) hHeld ?_ ?_
                rotate_left
                ·rintro w' ⟨s0,s1,s2,s3,s4,s5,s6⟩
                 go_simp
                 with_reducible rfl
                rotate_left
                ·simp only [Act.put,zzB,zzC,zzD,av,aw]
                 rfl
                refine bh (i:=4) (N:=some 65) (v:=?_) (a':=?_) #[true,true,true,true,true,false,false,true,false,true,true,true,false,false,false,false,false] rfl rfl (aG HT_.out (by kernel_rfl)) (fun _ _ _ h=>h) (Or.inl ⟨by rfl,?_⟩) ?_ ?_
                rotate_left
                ·intro w'
                 go_simp
                 with_reducible rfl
                rotate_left
                ·simp only [Act.put,zzB,zzC,zzD,av,aw]
                 rfl
                refine take_ (i:=5) (N:=some 66) (v:=?_) (a':=?_) #[true,true,true,true,true,true,false,true,false,true,true,true,false,false,false,false,false] rfl rfl (bI HT_.out HW_.out (by kernel_rfl)) (fun _ _ _ h=>h) (Or.inl ⟨by rfl,?_⟩) hHeld ?_ ?_
                rotate_left
                ·rintro w' ⟨s0,s1,s2,s3,s4,s5,s6⟩
                 go_simp
                 with_reducible rfl
                rotate_left
                ·simp only [Act.put,zzB,zzC,zzD,av,aw]
                 rfl
                refine take_ (i:=12) (N:=some 73) (v:=?_) (a':=?_) #[true,true,true,true,true,true,false,true,false,true,true,true,true,false,false,false,false] rfl rfl (bI HT_.out HW_.out (by kernel_rfl)) (fun _ _ _ h=>h) (Or.inl ⟨by rfl,?_⟩) hHeld ?_ ?_
                rotate_left
                ·rintro w' ⟨s0,s1,s2,s3,s4,s5,s6⟩
                 go_simp
                 with_reducible rfl
                rotate_left
                ·simp only [Act.put,zzB,zzC,zzD,av,aw]
                 rfl
                refine join_ (σ:=Value × Value × Value) 3 #[true,true,true,true,true,true,true,true,true,true,true,true,true,true,false,false,false] (fun s_=>[(67,s_.1),(69,s_.2.1),(74,s_.2.2)]) (fun s_ w'=>(w'.cell? ⟨bA,0,none⟩=some (.slice (some ad309) ai.length ap)∧w'.cell? ⟨bA,1,none⟩=some (.slice au ah.length am)∧w'.cell? ⟨bJ,0,none⟩=some (.int .i64 bg)∧w'.cell? ⟨bJ,1,none⟩=some (.slice (some ad310) aT.length ci)∧w'.cell? (ad310.add ((x8_2).toNat * 2))=some (.int .i64 ((aY aT x8_2).f0))∧w'.cell? ⟨(ad310.add ((x8_2).toNat * 2)).block,(ad310.add ((x8_2).toNat * 2)).off+1,none⟩=some (.slice iT ((aY aT x8_2).f1).length iU)∧w'.cell? (ad317.add (x8_2).toNat)=some (.int .i64 (rd (ao ai (l2.length:Int)) x8_2)))∧(Kd.R (Kd.int .i64) 3 w' w.heap.size (fun k_=>some k_ ≠ (s_.2.2:Value).ownBlock) s_.2.1 y314)∧(Kd.R (Kd.int .i64) 3 w' w.heap.size (fun k_=>some k_ ≠ (s_.2.1:Value).ownBlock) s_.2.2 y318)∧(w'.heap[bA]?=some (.cells #[.slice (some ad309) ai.length ap,.slice au ah.length am] 25 (0,0)))∧(w'.heap[bJ]?=some (.cells #[.int .i64 bg,.slice (some ad310) aT.length ci] 39 (0,0)))∧(Below w.heap.size w w')) ?_ ?_
                rotate_left
                ·intro hCont
                 refine two_ (i:=6) (j:=13) (Ni:=some 67) (Nj:=some 74) #[true,true,true,true,true,true,true,true,false,true,true,true,true,false,false,false,false] #[true,true,true,true,true,true,false,true,false,true,true,true,true,true,false,false,false] rfl rfl rfl rfl (gE HT_.out (by kernel_rfl)) (by decide) (by decide) (fun K hK=>?_) (fun K hK=>?_)
                 ·skip
                  refine Kd.R_lit_step (Kd.int .i64) _ 3 ?hg (N:=67) ?hd (xs:=([]:List Int)) (inner:=[]) (ok:=fun _=>True) (okp:=fun _=>True) ?hr ?hp (fun _ hk=>hk) trivial (Below.refl _ _) (Nat.le_refl _) (by simp) ?_;(case hd=>rfl);(case hg=>rfl);(case hr=>first|(go_simp;done)|(go_simp;rfl));(case hp=>exact (Reps.none _ _))
                  intro v312 w52 ho53 hb hg_ hnew_
                  clear hg_ hnew_
                  (first|rw [← Ny311.out] at ho53|(simp only [Int.reduceToNat] at ho53;rw [← Ny311.out] at ho53))
                  have n0_:=zzA (Kd.R_lower ho53 (ae (by repeat (first|(with_reducible first|exact HB.out|apply a6|apply a4|apply a5|refine a7 ?_ bM.out|refine a7 ?_ cd.out)|exact HB.out))))
                  have n1_:=zzA (af (g:=bA) (o:=.cells #[.slice (some ad309) ai.length ap,.slice au ah.length am] 25 (0,0)) (by (with_reducible repeat (first|refine aa ?_ _|refine ac ?_|refine a9 ?_ _));exact az.out) hb)
                  have n2_:=zzA (af (g:=bJ) (o:=.cells #[.int .i64 bg,.slice (some ad310) aT.length ci] 39 (0,0)) (by (with_reducible repeat (first|refine aa ?_ _|refine ac ?_|refine a9 ?_ _));exact aC.out) hb)
                  have n3_:=zzA (ag (by repeat (first|(with_reducible first|exact HB.out|apply a6|apply a4|apply a5|refine a7 ?_ bM.out|refine a7 ?_ cd.out)|exact HB.out)) hb)
                  clear az
                  clear aC
                  clear HB
                  have d6:=n0_
                  have az:=n1_
                  have aC:=n2_
                  have HB:=n3_
                  clear n0_ n1_ n2_ n3_
                  clear hb ho53
                  refine hK.out _ _ ⟨(a8 az.out 0).trans rfl,(a8 az.out 1).trans rfl,(a8 aC.out 0).trans rfl,(a8 aC.out 1).trans rfl,((HB.out.cell (zzE w _ bv)).trans bv),((HB.out.cell (zzE w _ bu)).trans bu),((HB.out.cell (zzE w _ bw)).trans bw)⟩ (fun hHeld=>?_)
                  clear hK K
                  refine bx (a':=?_) ?_ ?_
                  rotate_left
                  ·show Act.put _ (some 67) _=_
                   simp only [Act.put,zzB,zzC,zzD,av,aw]
                   rfl
                  refine two_ (i:=8) (j:=13) (Ni:=some 69) (Nj:=some 74) #[true,true,true,true,true,true,true,true,true,true,true,true,true,false,false,false,false] #[true,true,true,true,true,true,true,true,false,true,true,true,true,true,false,false,false] rfl rfl rfl rfl (gE HT_.out (by kernel_rfl)) (by decide) (by decide) (fun K hK=>?_) (fun K hK=>?_)
                  ·skip
                   refine Kd.R_append_rows_step (Kd.int .i64) (w0:=w) w.heap.size (by rfl) (.tmp 67) (.tmp 68) 26 3 (.int .i64 0) 8 rfl Try.underlying26 fa rfl (by decide) (by omega) v312 y311 l2 _ _ _ (fun _=>True) (fun _=>False) rfl rfl ?aO ?aR (fun _ _ h=>h) (fun _ h=>h.elim) ?aF ?aB ?aS ?aL ?_
                   (case aR=>repeat (first|exact (zzI HR2.out HB.out)|(with_reducible refine Kd.C_alloc ?_ _)|(with_reducible refine Kd.C_drewN ?_ _)|(with_reducible refine Kd.C_drew ?_)))
                   (case aB=>exact (by repeat (first|(with_reducible first|exact HB.out|apply a6|apply a4|apply a5|refine a7 ?_ bM.out|refine a7 ?_ cd.out)|exact HB.out)))
                   (case aF=>exact (fun _ _=>trivial))
                   (case aO=>exact (by (with_reducible repeat (first|apply Kd.R_alloc|apply Kd.R_drewN|apply Kd.R_drew));exact d6.out))
                   (case aS=>exact (ae (by repeat (first|(with_reducible first|exact HB.out|apply a6|apply a4|apply a5|refine a7 ?_ bM.out|refine a7 ?_ cd.out)|exact HB.out))))
                   (case aL=>have:=LMc47.out;omega)
                   intro v315 w54 ho hb hg hat
                   rw [← Ny314.out] at ho
                   have n0_:=zzA (aU (g:=bA) (o:=.cells #[.slice (some ad309) ai.length ap,.slice au ah.length am] 25 (0,0)) (by (with_reducible repeat (first|refine aa ?_ _|refine ac ?_|refine a9 ?_ _));exact az.out) hg (Kd.R_ne d6.out az.out (by decide)))
                   have n1_:=zzA (aU (g:=bJ) (o:=.cells #[.int .i64 bg,.slice (some ad310) aT.length ci] 39 (0,0)) (by (with_reducible repeat (first|refine aa ?_ _|refine ac ?_|refine a9 ?_ _));exact aC.out) hg (Kd.R_ne d6.out aC.out (by decide)))
                   have n2_:=zzA (hb)
                   have n3_:=zzA (ho)
                   clear az
                   clear aC
                   clear HB
                   clear d6
                   have az:=n0_
                   have aC:=n1_
                   have HB:=n2_
                   have dF:=n3_
                   clear n0_ n1_ n2_ n3_
                   clear ho hb hg hat
                   refine hK.out _ _ ⟨(a8 az.out 0).trans rfl,(a8 az.out 1).trans rfl,(a8 aC.out 0).trans rfl,(a8 aC.out 1).trans rfl,((HB.out.cell (zzE w _ bv)).trans bv),((HB.out.cell (zzE w _ bu)).trans bu),((HB.out.cell (zzE w _ bw)).trans bw)⟩ (fun hHeld=>?_)
                   clear hK K
                   refine bx (a':=?_) ?_ ?_
                   rotate_left
                   ·show Act.put _ (some 69) _=_
                    simp only [Act.put,zzB,zzC,zzD,av,aw]
                    rfl
                   refine ep (i:=13) (N:=some 74) #[true,true,true,true,true,true,true,true,true,true,true,true,true,true,false,false,false] rfl rfl (bE HT_.out (by kernel_rfl)) (by decide) (fun K hK=>?_)
                   refine Kd.R_lit_step (Kd.int .i64) _ 3 ?hg (N:=74) ?hd (xs:=([rd (ao ai (l2.length:Int)) x8_2]:List Int)) (inner:=[.int .i64 (rd (ao ai (l2.length:Int)) x8_2)]) (ok:=fun _=>True) (okp:=fun _=>True) ?hr ?hp (fun _ hk=>hk) trivial (Below.refl _ _) (Nat.le_refl _) (by simp) ?_;(case hd=>rfl);(case hg=>rfl);(case hr=>first|(go_simp;done)|(go_simp;rfl));(case hp=>exact (Reps.one (show Kd.M (Kd.int .i64) _ _ _ (rd (ao ai (l2.length:Int)) x8_2) [.int .i64 (rd (ao ai (l2.length:Int)) x8_2)] from rfl) (Reps.none _ _)))
                   intro v319 w55 ho56 hb hg_ hnew_
                   clear hg_ hnew_
                   (first|rw [← Ny318.out] at ho56|(simp only [Int.reduceToNat] at ho56;rw [← Ny318.out] at ho56))
                   have n0_:=zzA (Kd.R_elder' (by (with_reducible repeat (first|apply Kd.R_alloc|apply Kd.R_drewN|apply Kd.R_drew));exact dF.out) (Kd.R_base ho56) hb)
                   have n1_:=zzA (Kd.R_lower (Kd.R_new' ho56 (Kd.R_lt (by (with_reducible repeat (first|apply Kd.R_alloc|apply Kd.R_drewN|apply Kd.R_drew));exact dF.out))) (ae (by repeat (first|(with_reducible first|exact HB.out|apply a6|apply a4|apply a5|refine a7 ?_ bM.out|refine a7 ?_ cd.out)|exact HB.out))))
                   have n2_:=zzA (af (g:=bA) (o:=.cells #[.slice (some ad309) ai.length ap,.slice au ah.length am] 25 (0,0)) (by (with_reducible repeat (first|refine aa ?_ _|refine ac ?_|refine a9 ?_ _));exact az.out) hb)
                   have n3_:=zzA (af (g:=bJ) (o:=.cells #[.int .i64 bg,.slice (some ad310) aT.length ci] 39 (0,0)) (by (with_reducible repeat (first|refine aa ?_ _|refine ac ?_|refine a9 ?_ _));exact aC.out) hb)
                   have n4_:=zzA (ag (by repeat (first|(with_reducible first|exact HB.out|apply a6|apply a4|apply a5|refine a7 ?_ bM.out|refine a7 ?_ cd.out)|exact HB.out)) hb)
                   clear dF
                   clear az
                   clear aC
                   clear HB
                   have dF:=n0_
                   have co:=n1_
                   have az:=n2_
                   have aC:=n3_
                   have HB:=n4_
                   clear n0_ n1_ n2_ n3_ n4_
                   clear hb ho56
                   refine hK.out _ _ ⟨(a8 az.out 0).trans rfl,(a8 az.out 1).trans rfl,(a8 aC.out 0).trans rfl,(a8 aC.out 1).trans rfl,((HB.out.cell (zzE w _ bv)).trans bv),((HB.out.cell (zzE w _ bu)).trans bu),((HB.out.cell (zzE w _ bw)).trans bw)⟩ (fun hHeld=>?_)
                   clear hK K
                   refine bx (a':=?_) ?_ ?_
                   rotate_left
                   ·show Act.put _ (some 74) _=_
                    simp only [Act.put,zzB,zzC,zzD,av,aw]
                    rfl
                   exact bx (by simp only [cZ,Act.put,zzB,zzC,zzD]) (hCont (v312,v315,v319) _ ⟨hHeld,(by (with_reducible repeat (first|apply Kd.R_alloc|apply Kd.R_drewN|apply Kd.R_drew));exact Kd.R_mono dF.out (fun _ hk=>hk.2)),(by (with_reducible repeat (first|apply Kd.R_alloc|apply Kd.R_drewN|apply Kd.R_drew));exact Kd.R_mono co.out (fun _ hk=>hk.2)),(by (with_reducible repeat (first|refine aa ?_ _|refine ac ?_|refine a9 ?_ _));exact az.out),(by (with_reducible repeat (first|refine aa ?_ _|refine ac ?_|refine a9 ?_ _));exact aC.out),(by repeat (first|(with_reducible first|exact HB.out|apply a6|apply a4|apply a5|refine a7 ?_ bM.out|refine a7 ?_ cd.out)|exact HB.out))⟩)
                  ·skip
                   refine Kd.R_lit_step (Kd.int .i64) _ 3 ?hg (N:=74) ?hd (xs:=([rd (ao ai (l2.length:Int)) x8_2]:List Int)) (inner:=[.int .i64 (rd (ao ai (l2.length:Int)) x8_2)]) (ok:=fun _=>True) (okp:=fun _=>True) ?hr ?hp (fun _ hk=>hk) trivial (Below.refl _ _) (Nat.le_refl _) (by simp) ?_;(case hd=>rfl);(case hg=>rfl);(case hr=>first|(go_simp;done)|(go_simp;rfl));(case hp=>exact (Reps.one (show Kd.M (Kd.int .i64) _ _ _ (rd (ao ai (l2.length:Int)) x8_2) [.int .i64 (rd (ao ai (l2.length:Int)) x8_2)] from rfl) (Reps.none _ _)))
                   intro v319 w54 ho55 hb hg_ hnew_
                   clear hg_ hnew_
                   (first|rw [← Ny318.out] at ho55|(simp only [Int.reduceToNat] at ho55;rw [← Ny318.out] at ho55))
                   have n0_:=zzA (Kd.R_elder' (by (with_reducible repeat (first|apply Kd.R_alloc|apply Kd.R_drewN|apply Kd.R_drew));exact d6.out) (Kd.R_base ho55) hb)
                   have n1_:=zzA (Kd.R_lower (Kd.R_new' ho55 (Kd.R_lt (by (with_reducible repeat (first|apply Kd.R_alloc|apply Kd.R_drewN|apply Kd.R_drew));exact d6.out))) (ae (by repeat (first|(with_reducible first|exact HB.out|apply a6|apply a4|apply a5|refine a7 ?_ bM.out|refine a7 ?_ cd.out)|exact HB.out))))
                   have n2_:=zzA (af (g:=bA) (o:=.cells #[.slice (some ad309) ai.length ap,.slice au ah.length am] 25 (0,0)) (by (with_reducible repeat (first|refine aa ?_ _|refine ac ?_|refine a9 ?_ _));exact az.out) hb)
                   have n3_:=zzA (af (g:=bJ) (o:=.cells #[.int .i64 bg,.slice (some ad310) aT.length ci] 39 (0,0)) (by (with_reducible repeat (first|refine aa ?_ _|refine ac ?_|refine a9 ?_ _));exact aC.out) hb)
                   have n4_:=zzA (ag (by repeat (first|(with_reducible first|exact HB.out|apply a6|apply a4|apply a5|refine a7 ?_ bM.out|refine a7 ?_ cd.out)|exact HB.out)) hb)
                   clear d6
                   clear az
                   clear aC
                   clear HB
                   have d6:=n0_
                   have co:=n1_
                   have az:=n2_
                   have aC:=n3_
                   have HB:=n4_
                   clear n0_ n1_ n2_ n3_ n4_
                   clear hb ho55
                   refine hK.out _ _ ⟨(a8 az.out 0).trans rfl,(a8 az.out 1).trans rfl,(a8 aC.out 0).trans rfl,(a8 aC.out 1).trans rfl,((HB.out.cell (zzE w _ bv)).trans bv),((HB.out.cell (zzE w _ bu)).trans bu),((HB.out.cell (zzE w _ bw)).trans bw)⟩ (fun hHeld=>?_)
                   clear hK K
                   refine bx (a':=?_) ?_ ?_
                   rotate_left
                   ·show Act.put _ (some 74) _=_
                    simp only [Act.put,zzB,zzC,zzD,av,aw]
                    rfl
                   refine ep (i:=8) (N:=some 69) #[true,true,true,true,true,true,true,true,true,true,true,true,true,true,false,false,false] rfl rfl (bE HT_.out (by kernel_rfl)) (by decide) (fun K hK=>?_)
                   refine Kd.R_append_rows_step (Kd.int .i64) (w0:=w) w.heap.size (by rfl) (.tmp 67) (.tmp 68) 26 3 (.int .i64 0) 8 rfl Try.underlying26 fa rfl (by decide) (by omega) v312 y311 l2 _ _ _ (fun k_=>some k_ ≠ (v319:Value).ownBlock) (fun _=>False) rfl rfl ?aO ?aR (fun _ _ h=>h) (fun _ h=>h.elim) ?aF ?aB ?aS ?aL ?_
                   (case aR=>repeat (first|exact (zzI HR2.out HB.out)|(with_reducible refine Kd.C_alloc ?_ _)|(with_reducible refine Kd.C_drewN ?_ _)|(with_reducible refine Kd.C_drew ?_)))
                   (case aB=>exact (by repeat (first|(with_reducible first|exact HB.out|apply a6|apply a4|apply a5|refine a7 ?_ bM.out|refine a7 ?_ cd.out)|exact HB.out)))
                   (case aF=>exact (fun k_ hk=>Kd.fresh' (Kd.R_lt (by (with_reducible repeat (first|apply Kd.R_alloc|apply Kd.R_drewN|apply Kd.R_drew));exact co.out)) k_ hk))
                   (case aO=>exact (by (with_reducible repeat (first|apply Kd.R_alloc|apply Kd.R_drewN|apply Kd.R_drew));exact Kd.R_mono d6.out (fun _ hk=>hk.2)))
                   (case aS=>exact (ae (by repeat (first|(with_reducible first|exact HB.out|apply a6|apply a4|apply a5|refine a7 ?_ bM.out|refine a7 ?_ cd.out)|exact HB.out))))
                   (case aL=>have:=LMc47.out;omega)
                   intro v315 w56 ho hb hg hat
                   rw [← Ny314.out] at ho
                   have n0_:=zzA (aU (g:=bA) (o:=.cells #[.slice (some ad309) ai.length ap,.slice au ah.length am] 25 (0,0)) (by (with_reducible repeat (first|refine aa ?_ _|refine ac ?_|refine a9 ?_ _));exact az.out) hg (Kd.R_ne d6.out az.out (by decide)))
                   have n1_:=zzA (aU (g:=bJ) (o:=.cells #[.int .i64 bg,.slice (some ad310) aT.length ci] 39 (0,0)) (by (with_reducible repeat (first|refine aa ?_ _|refine ac ?_|refine a9 ?_ _));exact aC.out) hg (Kd.R_ne d6.out aC.out (by decide)))
                   have n2_:=zzA (Kd.R_after (ok:=(fun _=>True)) (by (with_reducible repeat (first|apply Kd.R_alloc|apply Kd.R_drewN|apply Kd.R_drew));exact co.out) hg hat)
                   have n3_:=zzA (hb)
                   have n4_:=zzA (ho)
                   clear az
                   clear aC
                   clear co
                   clear HB
                   clear d6
                   have az:=n0_
                   have aC:=n1_
                   have co:=n2_
                   have HB:=n3_
                   have dF:=n4_
                   clear n0_ n1_ n2_ n3_ n4_
                   clear ho hb hg hat
                   refine hK.out _ _ ⟨(a8 az.out 0).trans rfl,(a8 az.out 1).trans rfl,(a8 aC.out 0).trans rfl,(a8 aC.out 1).trans rfl,((HB.out.cell (zzE w _ bv)).trans bv),((HB.out.cell (zzE w _ bu)).trans bu),((HB.out.cell (zzE w _ bw)).trans bw)⟩ (fun hHeld=>?_)
                   clear hK K
                   refine bx (a':=?_) ?_ ?_
                   rotate_left
                   ·show Act.put _ (some 69) _=_
                    simp only [Act.put,zzB,zzC,zzD,av,aw]
                    rfl
                   exact bx (by simp only [cZ,Act.put,zzB,zzC,zzD]) (hCont (v312,v315,v319) _ ⟨hHeld,(by (with_reducible repeat (first|apply Kd.R_alloc|apply Kd.R_drewN|apply Kd.R_drew));exact dF.out),(by (with_reducible repeat (first|apply Kd.R_alloc|apply Kd.R_drewN|apply Kd.R_drew));exact Kd.R_mono co.out (fun _ hk=>hk.2)),(by (with_reducible repeat (first|refine aa ?_ _|refine ac ?_|refine a9 ?_ _));exact az.out),(by (with_reducible repeat (first|refine aa ?_ _|refine ac ?_|refine a9 ?_ _));exact aC.out),(by repeat (first|(with_reducible first|exact HB.out|apply a6|apply a4|apply a5|refine a7 ?_ bM.out|refine a7 ?_ cd.out)|exact HB.out))⟩)
                 ·skip
                  refine Kd.R_lit_step (Kd.int .i64) _ 3 ?hg (N:=74) ?hd (xs:=([rd (ao ai (l2.length:Int)) x8_2]:List Int)) (inner:=[.int .i64 (rd (ao ai (l2.length:Int)) x8_2)]) (ok:=fun _=>True) (okp:=fun _=>True) ?hr ?hp (fun _ hk=>hk) trivial (Below.refl _ _) (Nat.le_refl _) (by simp) ?_;(case hd=>rfl);(case hg=>rfl);(case hr=>first|(go_simp;done)|(go_simp;rfl));(case hp=>exact (Reps.one (show Kd.M (Kd.int .i64) _ _ _ (rd (ao ai (l2.length:Int)) x8_2) [.int .i64 (rd (ao ai (l2.length:Int)) x8_2)] from rfl) (Reps.none _ _)))
                  intro v319 w52 ho53 hb hg_ hnew_
                  clear hg_ hnew_
                  (first|rw [← Ny318.out] at ho53|(simp only [Int.reduceToNat] at ho53;rw [← Ny318.out] at ho53))
                  have n0_:=zzA (Kd.R_lower ho53 (ae (by repeat (first|(with_reducible first|exact HB.out|apply a6|apply a4|apply a5|refine a7 ?_ bM.out|refine a7 ?_ cd.out)|exact HB.out))))
                  have n1_:=zzA (af (g:=bA) (o:=.cells #[.slice (some ad309) ai.length ap,.slice au ah.length am] 25 (0,0)) (by (with_reducible repeat (first|refine aa ?_ _|refine ac ?_|refine a9 ?_ _));exact az.out) hb)
                  have n2_:=zzA (af (g:=bJ) (o:=.cells #[.int .i64 bg,.slice (some ad310) aT.length ci] 39 (0,0)) (by (with_reducible repeat (first|refine aa ?_ _|refine ac ?_|refine a9 ?_ _));exact aC.out) hb)
                  have n3_:=zzA (ag (by repeat (first|(with_reducible first|exact HB.out|apply a6|apply a4|apply a5|refine a7 ?_ bM.out|refine a7 ?_ cd.out)|exact HB.out)) hb)
                  clear az
                  clear aC
                  clear HB
                  have co:=n0_
                  have az:=n1_
                  have aC:=n2_
                  have HB:=n3_
                  clear n0_ n1_ n2_ n3_
                  clear hb ho53
                  refine hK.out _ _ ⟨(a8 az.out 0).trans rfl,(a8 az.out 1).trans rfl,(a8 aC.out 0).trans rfl,(a8 aC.out 1).trans rfl,((HB.out.cell (zzE w _ bv)).trans bv),((HB.out.cell (zzE w _ bu)).trans bu),((HB.out.cell (zzE w _ bw)).trans bw)⟩ (fun hHeld=>?_)
                  clear hK K
                  refine bx (a':=?_) ?_ ?_
                  rotate_left
                  ·show Act.put _ (some 74) _=_
                   simp only [Act.put,zzB,zzC,zzD,av,aw]
                   rfl
                  refine ep (i:=6) (N:=some 67) #[true,true,true,true,true,true,true,true,false,true,true,true,true,true,false,false,false] rfl rfl (bE HT_.out (by kernel_rfl)) (by decide) (fun K hK=>?_)
                  refine Kd.R_lit_step (Kd.int .i64) _ 3 ?hg (N:=67) ?hd (xs:=([]:List Int)) (inner:=[]) (ok:=fun _=>True) (okp:=fun _=>True) ?hr ?hp (fun _ hk=>hk) trivial (Below.refl _ _) (Nat.le_refl _) (by simp) ?_;(case hd=>rfl);(case hg=>rfl);(case hr=>first|(go_simp;done)|(go_simp;rfl));(case hp=>exact (Reps.none _ _))
                  intro v312 w54 ho55 hb hg_ hnew_
                  clear hg_ hnew_
                  (first|rw [← Ny311.out] at ho55|(simp only [Int.reduceToNat] at ho55;rw [← Ny311.out] at ho55))
                  have n0_:=zzA (Kd.R_elder' (by (with_reducible repeat (first|apply Kd.R_alloc|apply Kd.R_drewN|apply Kd.R_drew));exact co.out) (Kd.R_base ho55) hb)
                  have n1_:=zzA (Kd.R_lower (Kd.R_new' ho55 (Kd.R_lt (by (with_reducible repeat (first|apply Kd.R_alloc|apply Kd.R_drewN|apply Kd.R_drew));exact co.out))) (ae (by repeat (first|(with_reducible first|exact HB.out|apply a6|apply a4|apply a5|refine a7 ?_ bM.out|refine a7 ?_ cd.out)|exact HB.out))))
                  have n2_:=zzA (af (g:=bA) (o:=.cells #[.slice (some ad309) ai.length ap,.slice au ah.length am] 25 (0,0)) (by (with_reducible repeat (first|refine aa ?_ _|refine ac ?_|refine a9 ?_ _));exact az.out) hb)
                  have n3_:=zzA (af (g:=bJ) (o:=.cells #[.int .i64 bg,.slice (some ad310) aT.length ci] 39 (0,0)) (by (with_reducible repeat (first|refine aa ?_ _|refine ac ?_|refine a9 ?_ _));exact aC.out) hb)
                  have n4_:=zzA (ag (by repeat (first|(with_reducible first|exact HB.out|apply a6|apply a4|apply a5|refine a7 ?_ bM.out|refine a7 ?_ cd.out)|exact HB.out)) hb)
                  clear co
                  clear az
                  clear aC
                  clear HB
                  have co:=n0_
                  have d6:=n1_
                  have az:=n2_
                  have aC:=n3_
                  have HB:=n4_
                  clear n0_ n1_ n2_ n3_ n4_
                  clear hb ho55
                  refine hK.out _ _ ⟨(a8 az.out 0).trans rfl,(a8 az.out 1).trans rfl,(a8 aC.out 0).trans rfl,(a8 aC.out 1).trans rfl,((HB.out.cell (zzE w _ bv)).trans bv),((HB.out.cell (zzE w _ bu)).trans bu),((HB.out.cell (zzE w _ bw)).trans bw)⟩ (fun hHeld=>?_)
                  clear hK K
                  refine bx (a':=?_) ?_ ?_
                  rotate_left
                  ·show Act.put _ (some 67) _=_
                   simp only [Act.put,zzB,zzC,zzD,av,aw]
                   rfl
                  refine ep (i:=8) (N:=some 69) #[true,true,true,true,true,true,true,true,true,true,true,true,true,true,false,false,false] rfl rfl (bE HT_.out (by kernel_rfl)) (by decide) (fun K hK=>?_)
                  refine Kd.R_append_rows_step (Kd.int .i64) (w0:=w) w.heap.size (by rfl) (.tmp 67) (.tmp 68) 26 3 (.int .i64 0) 8 rfl Try.underlying26 fa rfl (by decide) (by omega) v312 y311 l2 _ _ _ (fun k_=>some k_ ≠ (v319:Value).ownBlock) (fun _=>False) rfl rfl ?aO ?aR (fun _ _ h=>h) (fun _ h=>h.elim) ?aF ?aB ?aS ?aL ?_
                  (case aR=>repeat (first|exact (zzI HR2.out HB.out)|(with_reducible refine Kd.C_alloc ?_ _)|(with_reducible refine Kd.C_drewN ?_ _)|(with_reducible refine Kd.C_drew ?_)))
                  (case aB=>exact (by repeat (first|(with_reducible first|exact HB.out|apply a6|apply a4|apply a5|refine a7 ?_ bM.out|refine a7 ?_ cd.out)|exact HB.out)))
                  (case aF=>exact (fun k_ hk=>Kd.fresh' (Kd.R_lt (by (with_reducible repeat (first|apply Kd.R_alloc|apply Kd.R_drewN|apply Kd.R_drew));exact co.out)) k_ hk))
                  (case aO=>exact (by (with_reducible repeat (first|apply Kd.R_alloc|apply Kd.R_drewN|apply Kd.R_drew));exact Kd.R_mono d6.out (fun _ hk=>hk.2)))
                  (case aS=>exact (ae (by repeat (first|(with_reducible first|exact HB.out|apply a6|apply a4|apply a5|refine a7 ?_ bM.out|refine a7 ?_ cd.out)|exact HB.out))))
                  (case aL=>have:=LMc47.out;omega)
                  intro v315 w56 ho hb hg hat
                  rw [← Ny314.out] at ho
                  have n0_:=zzA (aU (g:=bA) (o:=.cells #[.slice (some ad309) ai.length ap,.slice au ah.length am] 25 (0,0)) (by (with_reducible repeat (first|refine aa ?_ _|refine ac ?_|refine a9 ?_ _));exact az.out) hg (Kd.R_ne d6.out az.out (by decide)))
                  have n1_:=zzA (aU (g:=bJ) (o:=.cells #[.int .i64 bg,.slice (some ad310) aT.length ci] 39 (0,0)) (by (with_reducible repeat (first|refine aa ?_ _|refine ac ?_|refine a9 ?_ _));exact aC.out) hg (Kd.R_ne d6.out aC.out (by decide)))
                  have n2_:=zzA (Kd.R_after (ok:=(fun _=>True)) (by (with_reducible repeat (first|apply Kd.R_alloc|apply Kd.R_drewN|apply Kd.R_drew));exact co.out) hg hat)
                  have n3_:=zzA (hb)
                  have n4_:=zzA (ho)
                  clear az
                  clear aC
                  clear co
                  clear HB
                  clear d6
                  have az:=n0_
                  have aC:=n1_
                  have co:=n2_
                  have HB:=n3_
                  have dF:=n4_
                  clear n0_ n1_ n2_ n3_ n4_
                  clear ho hb hg hat
                  refine hK.out _ _ ⟨(a8 az.out 0).trans rfl,(a8 az.out 1).trans rfl,(a8 aC.out 0).trans rfl,(a8 aC.out 1).trans rfl,((HB.out.cell (zzE w _ bv)).trans bv),((HB.out.cell (zzE w _ bu)).trans bu),((HB.out.cell (zzE w _ bw)).trans bw)⟩ (fun hHeld=>?_)
                  clear hK K
                  refine bx (a':=?_) ?_ ?_
                  rotate_left
                  ·show Act.put _ (some 69) _=_
                   simp only [Act.put,zzB,zzC,zzD,av,aw]
                   rfl
                  exact bx (by simp only [cZ,Act.put,zzB,zzC,zzD]) (hCont (v312,v315,v319) _ ⟨hHeld,(by (with_reducible repeat (first|apply Kd.R_alloc|apply Kd.R_drewN|apply Kd.R_drew));exact dF.out),(by (with_reducible repeat (first|apply Kd.R_alloc|apply Kd.R_drewN|apply Kd.R_drew));exact Kd.R_mono co.out (fun _ hk=>hk.2)),(by (with_reducible repeat (first|refine aa ?_ _|refine ac ?_|refine a9 ?_ _));exact az.out),(by (with_reducible repeat (first|refine aa ?_ _|refine ac ?_|refine a9 ?_ _));exact aC.out),(by repeat (first|(with_reducible first|exact HB.out|apply a6|apply a4|apply a5|refine a7 ?_ bM.out|refine a7 ?_ cd.out)|exact HB.out))⟩)
                rintro ⟨v312,v315,v319⟩ w57 ⟨hS_,h0_,h1_,h2_,h3_,h4_⟩
                have n0_:Aside0 (Kd.R (Kd.int .i64) 3 w57 w.heap.size (fun k_=>some k_ ≠ (v319:Value).ownBlock) v315 y314):=⟨h0_⟩
                have n1_:Aside0 (Kd.R (Kd.int .i64) 3 w57 w.heap.size (fun k_=>some k_ ≠ (v315:Value).ownBlock) v319 y318):=⟨h1_⟩
                have n2_:Aside0 (w57.heap[bA]?=some (.cells #[.slice (some ad309) ai.length ap,.slice au ah.length am] 25 (0,0))):=⟨h2_⟩
                have n3_:Aside0 (w57.heap[bJ]?=some (.cells #[.int .i64 bg,.slice (some ad310) aT.length ci] 39 (0,0))):=⟨h3_⟩
                have n4_:Aside0 (Below w.heap.size w w57):=⟨h4_⟩
                clear az
                clear aC
                clear HB
                clear h0_ h1_ h2_ h3_ h4_
                have dF:=n0_
                have co:=n1_
                have az:=n2_
                have aC:=n3_
                have HB:=n4_
                clear n0_ n1_ n2_ n3_ n4_
                have hHeld:w57.cell? ⟨bA,0,none⟩=some (.slice (some ad309) ai.length ap)∧w57.cell? ⟨bA,1,none⟩=some (.slice au ah.length am)∧w57.cell? ⟨bJ,0,none⟩=some (.int .i64 bg)∧w57.cell? ⟨bJ,1,none⟩=some (.slice (some ad310) aT.length ci)∧w57.cell? (ad310.add ((x8_2).toNat * 2))=some (.int .i64 ((aY aT x8_2).f0))∧w57.cell? ⟨(ad310.add ((x8_2).toNat * 2)).block,(ad310.add ((x8_2).toNat * 2)).off+1,none⟩=some (.slice iT ((aY aT x8_2).f1).length iU)∧w57.cell? (ad317.add (x8_2).toNat)=some (.int .i64 (rd (ao ai (l2.length:Int)) x8_2)):=hS_
                obtain ⟨Ao59,co59,eo59⟩:=Kd.R_slice co.out
                (first|subst eo59|(injection eo59 with f1_ f2_ f3_;have f4_:=f1_.symm;have f5_:=f3_.symm;clear f1_ f2_ f3_;subst f4_;subst f5_))
                refine bx (a':=?_) ?_ ?_
                rotate_left
                ·simp only [cZ,Act.put,zzB,zzC,zzD]
                 rfl
                refine ep (i:=14) (N:=some 75) #[true,true,true,true,true,true,true,true,true,true,true,true,true,true,true,false,false] rfl rfl (bE HT_.out (by kernel_rfl)) (by decide) (fun K hK=>?_)
                refine Kd.R_append_rows_step (Kd.int .i64) (w0:=w) w.heap.size (by rfl) (.tmp 69) (.tmp 74) 26 3 (.int .i64 0) 8 rfl Try.underlying26 fa rfl (by decide) (by omega) v315 y314 y318 _ _ _ (fun k_=>some k_ ≠ (.slice Ao59 y318.length co59:Value).ownBlock) (fun _=>False) rfl rfl ?aO ?aR (fun _ _ h=>h) (fun _ h=>h.elim) ?aF ?aB ?aS ?aL ?_
                (case aR=>repeat (first|exact (Kd.R_reads' co.out).2.2|(with_reducible refine Kd.C_alloc ?_ _)|(with_reducible refine Kd.C_drewN ?_ _)|(with_reducible refine Kd.C_drew ?_)))
                (case aB=>exact (by repeat (first|(with_reducible first|exact HB.out|apply a6|apply a4|apply a5|refine a7 ?_ bM.out|refine a7 ?_ cd.out)|exact HB.out)))
                (case aF=>exact (fun k_ hk=>Kd.fresh' (Kd.R_lt (by (with_reducible repeat (first|apply Kd.R_alloc|apply Kd.R_drewN|apply Kd.R_drew));exact co.out)) k_ hk))
                (case aO=>exact (by (with_reducible repeat (first|apply Kd.R_alloc|apply Kd.R_drewN|apply Kd.R_drew));exact dF.out))
                (case aS=>exact (ae (by repeat (first|(with_reducible first|exact HB.out|apply a6|apply a4|apply a5|refine a7 ?_ bM.out|refine a7 ?_ cd.out)|exact HB.out))))
                (case aL=>have:=LMc48.out;omega)
                intro v322 w58 ho hb hg hat
                rw [← Ny321.out] at ho
                have n0_:=zzA (aU (g:=bA) (o:=.cells #[.slice (some ad309) ai.length ap,.slice au ah.length am] 25 (0,0)) (by (with_reducible repeat (first|refine aa ?_ _|refine ac ?_|refine a9 ?_ _));exact az.out) hg (Kd.R_ne dF.out az.out (by decide)))
                have n1_:=zzA (aU (g:=bJ) (o:=.cells #[.int .i64 bg,.slice (some ad310) aT.length ci] 39 (0,0)) (by (with_reducible repeat (first|refine aa ?_ _|refine ac ?_|refine a9 ?_ _));exact aC.out) hg (Kd.R_ne dF.out aC.out (by decide)))
                have n2_:=zzA (Kd.R_after (ok:=(fun _=>True)) (by (with_reducible repeat (first|apply Kd.R_alloc|apply Kd.R_drewN|apply Kd.R_drew));exact Kd.R_mono co.out (fun _ hk=>⟨trivial,hk⟩)) hg hat)
                have n3_:=zzA (hb)
                have n4_:=zzA (ho)
                clear az
                clear aC
                clear co
                clear HB
                clear dF
                have az:=n0_
                have aC:=n1_
                have co:=n2_
                have HB:=n3_
                have jv:=n4_
                clear n0_ n1_ n2_ n3_ n4_
                clear ho hb hg hat
                obtain ⟨Ao60,co60,eo60⟩:=Kd.R_slice jv.out
                (first|subst eo60|(injection eo60 with f1_ f2_ f3_;have f4_:=f1_.symm;have f5_:=f3_.symm;clear f1_ f2_ f3_;subst f4_;subst f5_))
                refine hK.out _ _ ⟨(a8 az.out 0).trans rfl,(a8 az.out 1).trans rfl,(a8 aC.out 0).trans rfl,(a8 aC.out 1).trans rfl,((HB.out.cell (zzE w _ bv)).trans bv),((HB.out.cell (zzE w _ bu)).trans bu),((HB.out.cell (zzE w _ bw)).trans bw)⟩ (fun hHeld=>?_)
                clear hK K
                refine bx (a':=?_) ?_ ?_
                rotate_left
                ·show Act.put _ (some 75) _=_
                 simp only [Act.put,zzB,zzC,zzD,av,aw]
                 rfl
                refine ep (i:=15) (N:=some 76) #[true,true,true,true,true,true,true,true,true,true,true,true,true,true,true,true,false] rfl rfl (bE HT_.out (by kernel_rfl)) (by decide) (fun K hK=>?_)
                refine jH Try.func44 (by kernel_rfl) rfl #[.agg #[.slice (some ad309) ai.length ap,.slice au ah.length am],.agg #[.int .i64 ((aY aT x8_2).f0),.slice iT ((aY aT x8_2).f1).length iU],.slice Ao60 y321.length co60] (by rfl) rfl rfl (by (try simp only [List.map_toArray,List.map_cons,List.map_nil]);first|done|rfl|(simp only [List.length_drop,List.length_take];rfl)) ?_
                with_reducible refine (ih k2 (by have:=HJ25.out;have:=HK2.out;omega) _ _ ai _ _ ah ((aY aT x8_2).f0) _ _ ((aY aT x8_2).f1) _ _ y321 true _ ?side1 ?side2 ?side3 ?side4 ?side5 ?side6 ?side7 ?side8 A49.out).mono ?_
                (case side1=>repeat (first|exact (zzI bz.out HB.out)|(with_reducible refine Kd.C_alloc ?_ _)|(with_reducible refine Kd.C_drewN ?_ _)|(with_reducible refine Kd.C_drew ?_)))
                (case side2=>exact bH.out)
                (case side3=>repeat (first|exact (zzI bq.out HB.out)|(with_reducible refine Kd.C_alloc ?_ _)|(with_reducible refine Kd.C_drewN ?_ _)|(with_reducible refine Kd.C_drew ?_)))
                (case side4=>exact bF.out)
                (case side5=>repeat (first|exact (zzI m8.out HB.out)|(with_reducible refine Kd.C_alloc ?_ _)|(with_reducible refine Kd.C_drewN ?_ _)|(with_reducible refine Kd.C_drew ?_)))
                (case side6=>exact HC310_1.out)
                (case side7=>repeat (first|exact (Kd.R_reads' jv.out).2.2|(with_reducible refine Kd.C_alloc ?_ _)|(with_reducible refine Kd.C_drewN ?_ _)|(with_reducible refine Kd.C_drew ?_)))
                (case side8=>exact (Kd.R_reads' jv.out).2.1)
                rintro e w61 ⟨rfl,hb⟩
                refine ⟨_,rfl,?_⟩
                have n0_:=zzA (Kd.R_below (by (with_reducible repeat (first|apply Kd.R_alloc|apply Kd.R_drewN|apply Kd.R_drew));exact co.out) hb)
                have n1_:=zzA (Kd.R_below (by (with_reducible repeat (first|apply Kd.R_alloc|apply Kd.R_drewN|apply Kd.R_drew));exact jv.out) hb)
                have n2_:=zzA (af (g:=bA) (o:=.cells #[.slice (some ad309) ai.length ap,.slice au ah.length am] 25 (0,0)) (by (with_reducible repeat (first|refine aa ?_ _|refine ac ?_|refine a9 ?_ _));exact az.out) hb)
                have n3_:=zzA (af (g:=bJ) (o:=.cells #[.int .i64 bg,.slice (some ad310) aT.length ci] 39 (0,0)) (by (with_reducible repeat (first|refine aa ?_ _|refine ac ?_|refine a9 ?_ _));exact aC.out) hb)
                have n4_:=zzA (ag (by repeat (first|(with_reducible first|exact HB.out|apply a6|apply a4|apply a5|refine a7 ?_ bM.out|refine a7 ?_ cd.out)|exact HB.out)) hb)
                clear co
                clear jv
                clear az
                clear aC
                clear HB
                have co:=n0_
                have jv:=n1_
                have az:=n2_
                have aC:=n3_
                have HB:=n4_
                clear n0_ n1_ n2_ n3_ n4_
                (try clear hb)
                (try clear hb2)
                (try clear hk)
                (try clear hi)
                refine hK.out _ _ ⟨(a8 az.out 0).trans rfl,(a8 az.out 1).trans rfl,(a8 aC.out 0).trans rfl,(a8 aC.out 1).trans rfl,((HB.out.cell (zzE w _ bv)).trans bv),((HB.out.cell (zzE w _ bu)).trans bu),((HB.out.cell (zzE w _ bw)).trans bw)⟩ (fun hHeld=>?_)
                clear hK K
                refine bx (a':=?_) ?_ ?_
                rotate_left
                ·show Act.put _ (some 76) _=_
                 simp only [Act.put,zzB,zzC,zzD,av,aw]
                 rfl
                refine bh (i:=16) (N:=some 77) (v:=?_) (a':=?_) #[true,true,true,true,true,true,true,true,true,true,true,true,true,true,true,true,true] rfl rfl (aG HT_.out (by kernel_rfl)) (fun _ _ _ h=>h) (Or.inl ⟨by rfl,?_⟩) ?_ ?_
                rotate_left
                ·intro w'
                 go_simp
                 with_reducible rfl
                rotate_left
                ·simp only [Act.put,zzB,zzC,zzD,av,aw]
                 rfl
                refine gO (dm HT_.out (by kernel_rfl)) ?_
                try go_wp2
                go_roundg k2
                case measure=>have:=HJ25.out;have:=HK2.out;omega
                case rel=>exact ⟨(wrap64 (x8_2+1)),(by first|rfl|(simp;done)|(simp [*];done)),H',⟨by have:=HJ25.out;have:=HK2.out;omega⟩,⟨by (with_reducible repeat (first|refine aa ?_ _|refine ac ?_|refine a9 ?_ _));exact az.out⟩,⟨by (with_reducible repeat (first|refine aa ?_ _|refine ac ?_|refine a9 ?_ _));exact aC.out⟩,⟨by repeat (first|(with_reducible first|exact HB.out|apply a6|apply a4|apply a5|refine a7 ?_ bM.out|refine a7 ?_ cd.out)|exact HB.out)⟩⟩
               ·replace c50:=Bool.eq_false_iff.mpr c50
                subst c50
                have H1:(some false)=some r:=by rw [if_neg (show ¬ (false=true) by decide)] at H;exact H
                clear H
                have H:=H1
                clear H1
                obtain rfl:=Option.some.inj H
                try go_wp2
                have n0_:=zzA (ac az.out)
                have n1_:=zzA (ac aC.out)
                have n2_:=zzA (a5 HB.out)
                clear az
                clear aC
                clear HB
                have az:=n0_
                have aC:=n1_
                have HB:=n2_
                clear n0_ n1_ n2_
                have p310:0≤(x8_2:Int):=zzF (by first|(with_reducible assumption)|assumption)
                have q310:x8_2 < (aT.length:Int):=zzF (by first|(with_reducible assumption)|assumption)
                obtain ⟨ad310,iT,iU,e310,eY,eZ,m0,m7⟩:=kg jN.out x8_2 p310 q310
                have bu:=eZ
                have bv:=eY
                cases e310
                replace eY:=(HB.out.cell (zzE w _ eY)).trans eY
                replace eZ:=(HB.out.cell (zzE w _ eZ)).trans eZ
                have m8:=zzA m7
                have HC310_1:=zzA m0
                clear m7 m0
                replace p310:=eq_true p310
                replace q310:=eq_true q310
                have p317:0≤(x8_2:Int):=zzF (by first|(with_reducible assumption)|assumption)
                have q317:x8_2 < ((ao ai (l2.length:Int)).length:Int):=zzF (by first|(with_reducible assumption)|assumption)
                obtain ⟨ad317,e317,f5⟩:=Kd.at_int HR309_0.out x8_2 p317 q317
                have bw:=f5
                cases e317
                replace f5:=(HB.out.cell (zzE w _ f5)).trans f5
                replace p317:=eq_true p317
                replace q317:=eq_true q317
                refine ff (n:=17) (S:=fun w'=>w'.cell? ⟨bA,0,none⟩=some (.slice (some ad309) ai.length ap)∧w'.cell? ⟨bA,1,none⟩=some (.slice au ah.length am)∧w'.cell? ⟨bJ,0,none⟩=some (.int .i64 bg)∧w'.cell? ⟨bJ,1,none⟩=some (.slice (some ad310) aT.length ci)∧w'.cell? (ad310.add ((x8_2).toNat * 2))=some (.int .i64 ((aY aT x8_2).f0))∧w'.cell? ⟨(ad310.add ((x8_2).toNat * 2)).block,(ad310.add ((x8_2).toNat * 2)).off+1,none⟩=some (.slice iT ((aY aT x8_2).f1).length iU)∧w'.cell? (ad317.add (x8_2).toNat)=some (.int .i64 (rd (ao ai (l2.length:Int)) x8_2))) (ds:=[]) #[false,false,false,false,false,false,false,false,false,false,false,false,false,false,false,false,false] (by kernel_rfl) rfl rfl ⟨(a8 az.out 0).trans rfl,(a8 az.out 1).trans rfl,(a8 aC.out 0).trans rfl,(a8 aC.out 1).trans rfl,((HB.out.cell (zzE w _ bv)).trans bv),((HB.out.cell (zzE w _ bu)).trans bu),((HB.out.cell (zzE w _ bw)).trans bw)⟩ (fun hHeld=>?_);refine dy fastiref15_right.tab13 fastiref15_right.bits13 (fun HT_ HW_=>?_)
                generalize wr.drew=w62 at az aC HB m8 eY eZ f5 hHeld ⊢
                refine bh (i:=1) (N:=some 62) (v:=?_) (a':=?_) #[false,true,false,false,false,false,false,false,false,false,false,false,false,false,false,false,false] rfl rfl (aG HT_.out (by kernel_rfl)) (fun _ _ _ h=>h) (Or.inl ⟨by rfl,?_⟩) ?_ ?_
                rotate_left
                ·intro w'
                 go_simp
                 with_reducible rfl
                rotate_left
                ·simp only [Act.put,zzB,zzC,zzD,av,aw]
                 rfl
                refine bh (i:=3) (N:=some 64) (v:=?_) (a':=?_) #[false,true,false,true,false,false,false,false,false,false,false,false,false,false,false,false,false] rfl rfl (aG HT_.out (by kernel_rfl)) (fun _ _ _ h=>h) (Or.inl ⟨by rfl,?_⟩) ?_ ?_
                rotate_left
                ·intro w'
                 go_simp
                 with_reducible rfl
                rotate_left
                ·simp only [Act.put,zzB,zzC,zzD,av,aw]
                 rfl
                refine bh (i:=7) (N:=some 68) (v:=?_) (a':=?_) #[false,true,false,true,false,false,false,true,false,false,false,false,false,false,false,false,false] rfl rfl (aG HT_.out (by kernel_rfl)) (fun _ _ _ h=>h) (Or.inl ⟨by rfl,?_⟩) ?_ ?_
                rotate_left
                ·intro w'
                 go_simp
                 with_reducible rfl
                rotate_left
                ·simp only [Act.put,zzB,zzC,zzD,av,aw]
                 rfl
                refine bh (i:=9) (N:=some 70) (v:=?_) (a':=?_) #[false,true,false,true,false,false,false,true,false,true,false,false,false,false,false,false,false] rfl rfl (aG HT_.out (by kernel_rfl)) (fun _ _ _ h=>h) (Or.inl ⟨by rfl,?_⟩) ?_ ?_
                rotate_left
                ·intro w'
                 go_simp
                 with_reducible rfl
                rotate_left
                ·simp only [Act.put,zzB,zzC,zzD,av,aw]
                 rfl
                refine bh (i:=10) (N:=some 71) (v:=?_) (a':=?_) #[false,true,false,true,false,false,false,true,false,true,true,false,false,false,false,false,false] rfl rfl (aG HT_.out (by kernel_rfl)) (fun _ _ _ h=>h) (Or.inl ⟨by rfl,?_⟩) ?_ ?_
                rotate_left
                ·intro w'
                 go_simp
                 with_reducible rfl
                rotate_left
                ·simp only [Act.put,zzB,zzC,zzD,av,aw]
                 rfl
                refine bh (i:=11) (N:=some 72) (v:=?_) (a':=?_) #[false,true,false,true,false,false,false,true,false,true,true,true,false,false,false,false,false] rfl rfl (aG HT_.out (by kernel_rfl)) (fun _ _ _ h=>h) (Or.inl ⟨by rfl,?_⟩) ?_ ?_
                rotate_left
                ·intro w'
                 go_simp
                 with_reducible rfl
                rotate_left
                ·simp only [Act.put,zzB,zzC,zzD,av,aw]
                 rfl
                refine take_ (i:=0) (N:=some 61) (v:=?_) (a':=?_) #[true,true,false,true,false,false,false,true,false,true,true,true,false,false,false,false,false] rfl rfl (bI HT_.out HW_.out (by kernel_rfl)) (fun _ _ _ h=>h) (Or.inl ⟨by rfl,?_⟩) hHeld ?_ ?_
                rotate_left
                ·rintro w' ⟨s0,s1,s2,s3,s4,s5,s6⟩
                 go_simp
                 with_reducible rfl
                rotate_left
                ·simp only [Act.put,zzB,zzC,zzD,av,aw]
                 rfl
                refine take_ (i:=2) (N:=some 63) (v:=?_) (a':=?_) #[true,true,true,true,false,false,false,true,false,true,true,true,false,false,false,false,false] rfl rfl (bI HT_.out HW_.out (by kernel_rfl)) (fun _ _ _ h=>h) (Or.inl ⟨by rfl,?_⟩) hHeld ?_ ?_
                rotate_left
                ·rintro w' ⟨s0,s1,s2,s3,s4,s5,s6⟩
                 go_simp
                 with_reducible rfl
                rotate_left
                ·simp only [Act.put,zzB,zzC,zzD,av,aw]
                 rfl
                refine bh (i:=4) (N:=some 65) (v:=?_) (a':=?_) #[true,true,true,true,true,false,false,true,false,true,true,true,false,false,false,false,false] rfl rfl (aG HT_.out (by kernel_rfl)) (fun _ _ _ h=>h) (Or.inl ⟨by rfl,?_⟩) ?_ ?_
                rotate_left
                ·intro w'
                 go_simp
                 with_reducible rfl
                rotate_left
                ·simp only [Act.put,zzB,zzC,zzD,av,aw]
                 rfl
                refine take_ (i:=5) (N:=some 66) (v:=?_) (a':=?_) #[true,true,true,true,true,true,false,true,false,true,true,true,false,false,false,false,false] rfl rfl (bI HT_.out HW_.out (by kernel_rfl)) (fun _ _ _ h=>h) (Or.inl ⟨by rfl,?_⟩) hHeld ?_ ?_
                rotate_left
                ·rintro w' ⟨s0,s1,s2,s3,s4,s5,s6⟩
                 go_simp
                 with_reducible rfl
                rotate_left
                ·simp only [Act.put,zzB,zzC,zzD,av,aw]
                 rfl
                refine take_ (i:=12) (N:=some 73) (v:=?_) (a':=?_) #[true,true,true,true,true,true,false,true,false,true,true,true,true,false,false,false,false] rfl rfl (bI HT_.out HW_.out (by kernel_rfl)) (fun _ _ _ h=>h) (Or.inl ⟨by rfl,?_⟩) hHeld ?_ ?_
                rotate_left
                ·rintro w' ⟨s0,s1,s2,s3,s4,s5,s6⟩
                 go_simp
                 with_reducible rfl
                rotate_left
                ·simp only [Act.put,zzB,zzC,zzD,av,aw]
                 rfl
                refine join_ (σ:=Value × Value × Value) 3 #[true,true,true,true,true,true,true,true,true,true,true,true,true,true,false,false,false] (fun s_=>[(67,s_.1),(69,s_.2.1),(74,s_.2.2)]) (fun s_ w'=>(w'.cell? ⟨bA,0,none⟩=some (.slice (some ad309) ai.length ap)∧w'.cell? ⟨bA,1,none⟩=some (.slice au ah.length am)∧w'.cell? ⟨bJ,0,none⟩=some (.int .i64 bg)∧w'.cell? ⟨bJ,1,none⟩=some (.slice (some ad310) aT.length ci)∧w'.cell? (ad310.add ((x8_2).toNat * 2))=some (.int .i64 ((aY aT x8_2).f0))∧w'.cell? ⟨(ad310.add ((x8_2).toNat * 2)).block,(ad310.add ((x8_2).toNat * 2)).off+1,none⟩=some (.slice iT ((aY aT x8_2).f1).length iU)∧w'.cell? (ad317.add (x8_2).toNat)=some (.int .i64 (rd (ao ai (l2.length:Int)) x8_2)))∧(Kd.R (Kd.int .i64) 3 w' w.heap.size (fun k_=>some k_ ≠ (s_.2.2:Value).ownBlock) s_.2.1 y314)∧(Kd.R (Kd.int .i64) 3 w' w.heap.size (fun k_=>some k_ ≠ (s_.2.1:Value).ownBlock) s_.2.2 y318)∧(w'.heap[bA]?=some (.cells #[.slice (some ad309) ai.length ap,.slice au ah.length am] 25 (0,0)))∧(w'.heap[bJ]?=some (.cells #[.int .i64 bg,.slice (some ad310) aT.length ci] 39 (0,0)))∧(Below w.heap.size w w')) ?_ ?_
                rotate_left
                ·intro hCont
                 refine two_ (i:=6) (j:=13) (Ni:=some 67) (Nj:=some 74) #[true,true,true,true,true,true,true,true,false,true,true,true,true,false,false,false,false] #[true,true,true,true,true,true,false,true,false,true,true,true,true,true,false,false,false] rfl rfl rfl rfl (gE HT_.out (by kernel_rfl)) (by decide) (by decide) (fun K hK=>?_) (fun K hK=>?_)
                 ·skip
                  refine Kd.R_lit_step (Kd.int .i64) _ 3 ?hg (N:=67) ?hd (xs:=([]:List Int)) (inner:=[]) (ok:=fun _=>True) (okp:=fun _=>True) ?hr ?hp (fun _ hk=>hk) trivial (Below.refl _ _) (Nat.le_refl _) (by simp) ?_;(case hd=>rfl);(case hg=>rfl);(case hr=>first|(go_simp;done)|(go_simp;rfl));(case hp=>exact (Reps.none _ _))
                  intro v312 w63 ho64 hb hg_ hnew_
                  clear hg_ hnew_
                  (first|rw [← Ny311.out] at ho64|(simp only [Int.reduceToNat] at ho64;rw [← Ny311.out] at ho64))
                  have n0_:=zzA (Kd.R_lower ho64 (ae (by repeat (first|(with_reducible first|exact HB.out|apply a6|apply a4|apply a5|refine a7 ?_ bM.out|refine a7 ?_ cd.out)|exact HB.out))))
                  have n1_:=zzA (af (g:=bA) (o:=.cells #[.slice (some ad309) ai.length ap,.slice au ah.length am] 25 (0,0)) (by (with_reducible repeat (first|refine aa ?_ _|refine ac ?_|refine a9 ?_ _));exact az.out) hb)
                  have n2_:=zzA (af (g:=bJ) (o:=.cells #[.int .i64 bg,.slice (some ad310) aT.length ci] 39 (0,0)) (by (with_reducible repeat (first|refine aa ?_ _|refine ac ?_|refine a9 ?_ _));exact aC.out) hb)
                  have n3_:=zzA (ag (by repeat (first|(with_reducible first|exact HB.out|apply a6|apply a4|apply a5|refine a7 ?_ bM.out|refine a7 ?_ cd.out)|exact HB.out)) hb)
                  clear az
                  clear aC
                  clear HB
                  have d6:=n0_
                  have az:=n1_
                  have aC:=n2_
                  have HB:=n3_
                  clear n0_ n1_ n2_ n3_
                  clear hb ho64
                  refine hK.out _ _ ⟨(a8 az.out 0).trans rfl,(a8 az.out 1).trans rfl,(a8 aC.out 0).trans rfl,(a8 aC.out 1).trans rfl,((HB.out.cell (zzE w _ bv)).trans bv),((HB.out.cell (zzE w _ bu)).trans bu),((HB.out.cell (zzE w _ bw)).trans bw)⟩ (fun hHeld=>?_)
                  clear hK K
                  refine bx (a':=?_) ?_ ?_
                  rotate_left
                  ·show Act.put _ (some 67) _=_
                   simp only [Act.put,zzB,zzC,zzD,av,aw]
                   rfl
                  refine two_ (i:=8) (j:=13) (Ni:=some 69) (Nj:=some 74) #[true,true,true,true,true,true,true,true,true,true,true,true,true,false,false,false,false] #[true,true,true,true,true,true,true,true,false,true,true,true,true,true,false,false,false] rfl rfl rfl rfl (gE HT_.out (by kernel_rfl)) (by decide) (by decide) (fun K hK=>?_) (fun K hK=>?_)
                  ·skip
                   refine Kd.R_append_rows_step (Kd.int .i64) (w0:=w) w.heap.size (by rfl) (.tmp 67) (.tmp 68) 26 3 (.int .i64 0) 8 rfl Try.underlying26 fa rfl (by decide) (by omega) v312 y311 l2 _ _ _ (fun _=>True) (fun _=>False) rfl rfl ?aO ?aR (fun _ _ h=>h) (fun _ h=>h.elim) ?aF ?aB ?aS ?aL ?_
                   (case aR=>repeat (first|exact (zzI HR2.out HB.out)|(with_reducible refine Kd.C_alloc ?_ _)|(with_reducible refine Kd.C_drewN ?_ _)|(with_reducible refine Kd.C_drew ?_)))
                   (case aB=>exact (by repeat (first|(with_reducible first|exact HB.out|apply a6|apply a4|apply a5|refine a7 ?_ bM.out|refine a7 ?_ cd.out)|exact HB.out)))
                   (case aF=>exact (fun _ _=>trivial))
                   (case aO=>exact (by (with_reducible repeat (first|apply Kd.R_alloc|apply Kd.R_drewN|apply Kd.R_drew));exact d6.out))
                   (case aS=>exact (ae (by repeat (first|(with_reducible first|exact HB.out|apply a6|apply a4|apply a5|refine a7 ?_ bM.out|refine a7 ?_ cd.out)|exact HB.out))))
                   (case aL=>have:=LMc47.out;omega)
                   intro v315 w65 ho hb hg hat
                   rw [← Ny314.out] at ho
                   have n0_:=zzA (aU (g:=bA) (o:=.cells #[.slice (some ad309) ai.length ap,.slice au ah.length am] 25 (0,0)) (by (with_reducible repeat (first|refine aa ?_ _|refine ac ?_|refine a9 ?_ _));exact az.out) hg (Kd.R_ne d6.out az.out (by decide)))
                   have n1_:=zzA (aU (g:=bJ) (o:=.cells #[.int .i64 bg,.slice (some ad310) aT.length ci] 39 (0,0)) (by (with_reducible repeat (first|refine aa ?_ _|refine ac ?_|refine a9 ?_ _));exact aC.out) hg (Kd.R_ne d6.out aC.out (by decide)))
                   have n2_:=zzA (hb)
                   have n3_:=zzA (ho)
                   clear az
                   clear aC
                   clear HB
                   clear d6
                   have az:=n0_
                   have aC:=n1_
                   have HB:=n2_
                   have dF:=n3_
                   clear n0_ n1_ n2_ n3_
                   clear ho hb hg hat
                   refine hK.out _ _ ⟨(a8 az.out 0).trans rfl,(a8 az.out 1).trans rfl,(a8 aC.out 0).trans rfl,(a8 aC.out 1).trans rfl,((HB.out.cell (zzE w _ bv)).trans bv),((HB.out.cell (zzE w _ bu)).trans bu),((HB.out.cell (zzE w _ bw)).trans bw)⟩ (fun hHeld=>?_)
                   clear hK K
                   refine bx (a':=?_) ?_ ?_
                   rotate_left
                   ·show Act.put _ (some 69) _=_
                    simp only [Act.put,zzB,zzC,zzD,av,aw]
                    rfl
                   refine ep (i:=13) (N:=some 74) #[true,true,true,true,true,true,true,true,true,true,true,true,true,true,false,false,false] rfl rfl (bE HT_.out (by kernel_rfl)) (by decide) (fun K hK=>?_)
                   refine Kd.R_lit_step (Kd.int .i64) _ 3 ?hg (N:=74) ?hd (xs:=([rd (ao ai (l2.length:Int)) x8_2]:List Int)) (inner:=[.int .i64 (rd (ao ai (l2.length:Int)) x8_2)]) (ok:=fun _=>True) (okp:=fun _=>True) ?hr ?hp (fun _ hk=>hk) trivial (Below.refl _ _) (Nat.le_refl _) (by simp) ?_;(case hd=>rfl);(case hg=>rfl);(case hr=>first|(go_simp;done)|(go_simp;rfl));(case hp=>exact (Reps.one (show Kd.M (Kd.int .i64) _ _ _ (rd (ao ai (l2.length:Int)) x8_2) [.int .i64 (rd (ao ai (l2.length:Int)) x8_2)] from rfl) (Reps.none _ _)))
                   intro v319 w66 ho67 hb hg_ hnew_
                   clear hg_ hnew_
                   (first|rw [← Ny318.out] at ho67|(simp only [Int.reduceToNat] at ho67;rw [← Ny318.out] at ho67))
                   have n0_:=zzA (Kd.R_elder' (by (with_reducible repeat (first|apply Kd.R_alloc|apply Kd.R_drewN|apply Kd.R_drew));exact dF.out) (Kd.R_base ho67) hb)
                   have n1_:=zzA (Kd.R_lower (Kd.R_new' ho67 (Kd.R_lt (by (with_reducible repeat (first|apply Kd.R_alloc|apply Kd.R_drewN|apply Kd.R_drew));exact dF.out))) (ae (by repeat (first|(with_reducible first|exact HB.out|apply a6|apply a4|apply a5|refine a7 ?_ bM.out|refine a7 ?_ cd.out)|exact HB.out))))
                   have n2_:=zzA (af (g:=bA) (o:=.cells #[.slice (some ad309) ai.length ap,.slice au ah.length am] 25 (0,0)) (by (with_reducible repeat (first|refine aa ?_ _|refine ac ?_|refine a9 ?_ _));exact az.out) hb)
                   have n3_:=zzA (af (g:=bJ) (o:=.cells #[.int .i64 bg,.slice (some ad310) aT.length ci] 39 (0,0)) (by (with_reducible repeat (first|refine aa ?_ _|refine ac ?_|refine a9 ?_ _));exact aC.out) hb)
                   have n4_:=zzA (ag (by repeat (first|(with_reducible first|exact HB.out|apply a6|apply a4|apply a5|refine a7 ?_ bM.out|refine a7 ?_ cd.out)|exact HB.out)) hb)
                   clear dF
                   clear az
                   clear aC
                   clear HB
                   have dF:=n0_
                   have co:=n1_
                   have az:=n2_
                   have aC:=n3_
                   have HB:=n4_
                   clear n0_ n1_ n2_ n3_ n4_
                   clear hb ho67
                   refine hK.out _ _ ⟨(a8 az.out 0).trans rfl,(a8 az.out 1).trans rfl,(a8 aC.out 0).trans rfl,(a8 aC.out 1).trans rfl,((HB.out.cell (zzE w _ bv)).trans bv),((HB.out.cell (zzE w _ bu)).trans bu),((HB.out.cell (zzE w _ bw)).trans bw)⟩ (fun hHeld=>?_)
                   clear hK K
                   refine bx (a':=?_) ?_ ?_
                   rotate_left
                   ·show Act.put _ (some 74) _=_
                    simp only [Act.put,zzB,zzC,zzD,av,aw]
                    rfl
                   exact bx (by simp only [cZ,Act.put,zzB,zzC,zzD]) (hCont (v312,v315,v319) _ ⟨hHeld,(by (with_reducible repeat (first|apply Kd.R_alloc|apply Kd.R_drewN|apply Kd.R_drew));exact Kd.R_mono dF.out (fun _ hk=>hk.2)),(by (with_reducible repeat (first|apply Kd.R_alloc|apply Kd.R_drewN|apply Kd.R_drew));exact Kd.R_mono co.out (fun _ hk=>hk.2)),(by (with_reducible repeat (first|refine aa ?_ _|refine ac ?_|refine a9 ?_ _));exact az.out),(by (with_reducible repeat (first|refine aa ?_ _|refine ac ?_|refine a9 ?_ _));exact aC.out),(by repeat (first|(with_reducible first|exact HB.out|apply a6|apply a4|apply a5|refine a7 ?_ bM.out|refine a7 ?_ cd.out)|exact HB.out))⟩)
                  ·skip
                   refine Kd.R_lit_step (Kd.int .i64) _ 3 ?hg (N:=74) ?hd (xs:=([rd (ao ai (l2.length:Int)) x8_2]:List Int)) (inner:=[.int .i64 (rd (ao ai (l2.length:Int)) x8_2)]) (ok:=fun _=>True) (okp:=fun _=>True) ?hr ?hp (fun _ hk=>hk) trivial (Below.refl _ _) (Nat.le_refl _) (by simp) ?_;(case hd=>rfl);(case hg=>rfl);(case hr=>first|(go_simp;done)|(go_simp;rfl));(case hp=>exact (Reps.one (show Kd.M (Kd.int .i64) _ _ _ (rd (ao ai (l2.length:Int)) x8_2) [.int .i64 (rd (ao ai (l2.length:Int)) x8_2)] from rfl) (Reps.none _ _)))
                   intro v319 w65 ho66 hb hg_ hnew_
                   clear hg_ hnew_
                   (first|rw [← Ny318.out] at ho66|(simp only [Int.reduceToNat] at ho66;rw [← Ny318.out] at ho66))
                   have n0_:=zzA (Kd.R_elder' (by (with_reducible repeat (first|apply Kd.R_alloc|apply Kd.R_drewN|apply Kd.R_drew));exact d6.out) (Kd.R_base ho66) hb)
                   have n1_:=zzA (Kd.R_lower (Kd.R_new' ho66 (Kd.R_lt (by (with_reducible repeat (first|apply Kd.R_alloc|apply Kd.R_drewN|apply Kd.R_drew));exact d6.out))) (ae (by repeat (first|(with_reducible first|exact HB.out|apply a6|apply a4|apply a5|refine a7 ?_ bM.out|refine a7 ?_ cd.out)|exact HB.out))))
                   have n2_:=zzA (af (g:=bA) (o:=.cells #[.slice (some ad309) ai.length ap,.slice au ah.length am] 25 (0,0)) (by (with_reducible repeat (first|refine aa ?_ _|refine ac ?_|refine a9 ?_ _));exact az.out) hb)
                   have n3_:=zzA (af (g:=bJ) (o:=.cells #[.int .i64 bg,.slice (some ad310) aT.length ci] 39 (0,0)) (by (with_reducible repeat (first|refine aa ?_ _|refine ac ?_|refine a9 ?_ _));exact aC.out) hb)
                   have n4_:=zzA (ag (by repeat (first|(with_reducible first|exact HB.out|apply a6|apply a4|apply a5|refine a7 ?_ bM.out|refine a7 ?_ cd.out)|exact HB.out)) hb)
                   clear d6
                   clear az
                   clear aC
                   clear HB
                   have d6:=n0_
                   have co:=n1_
                   have az:=n2_
                   have aC:=n3_
                   have HB:=n4_
                   clear n0_ n1_ n2_ n3_ n4_
                   clear hb ho66
                   refine hK.out _ _ ⟨(a8 az.out 0).trans rfl,(a8 az.out 1).trans rfl,(a8 aC.out 0).trans rfl,(a8 aC.out 1).trans rfl,((HB.out.cell (zzE w _ bv)).trans bv),((HB.out.cell (zzE w _ bu)).trans bu),((HB.out.cell (zzE w _ bw)).trans bw)⟩ (fun hHeld=>?_)
                   clear hK K
                   refine bx (a':=?_) ?_ ?_
                   rotate_left
                   ·show Act.put _ (some 74) _=_
                    simp only [Act.put,zzB,zzC,zzD,av,aw]
                    rfl
                   refine ep (i:=8) (N:=some 69) #[true,true,true,true,true,true,true,true,true,true,true,true,true,true,false,false,false] rfl rfl (bE HT_.out (by kernel_rfl)) (by decide) (fun K hK=>?_)
                   refine Kd.R_append_rows_step (Kd.int .i64) (w0:=w) w.heap.size (by rfl) (.tmp 67) (.tmp 68) 26 3 (.int .i64 0) 8 rfl Try.underlying26 fa rfl (by decide) (by omega) v312 y311 l2 _ _ _ (fun k_=>some k_ ≠ (v319:Value).ownBlock) (fun _=>False) rfl rfl ?aO ?aR (fun _ _ h=>h) (fun _ h=>h.elim) ?aF ?aB ?aS ?aL ?_
                   (case aR=>repeat (first|exact (zzI HR2.out HB.out)|(with_reducible refine Kd.C_alloc ?_ _)|(with_reducible refine Kd.C_drewN ?_ _)|(with_reducible refine Kd.C_drew ?_)))
                   (case aB=>exact (by repeat (first|(with_reducible first|exact HB.out|apply a6|apply a4|apply a5|refine a7 ?_ bM.out|refine a7 ?_ cd.out)|exact HB.out)))
                   (case aF=>exact (fun k_ hk=>Kd.fresh' (Kd.R_lt (by (with_reducible repeat (first|apply Kd.R_alloc|apply Kd.R_drewN|apply Kd.R_drew));exact co.out)) k_ hk))
                   (case aO=>exact (by (with_reducible repeat (first|apply Kd.R_alloc|apply Kd.R_drewN|apply Kd.R_drew));exact Kd.R_mono d6.out (fun _ hk=>hk.2)))
                   (case aS=>exact (ae (by repeat (first|(with_reducible first|exact HB.out|apply a6|apply a4|apply a5|refine a7 ?_ bM.out|refine a7 ?_ cd.out)|exact HB.out))))
                   (case aL=>have:=LMc47.out;omega)
                   intro v315 w67 ho hb hg hat
                   rw [← Ny314.out] at ho
                   have n0_:=zzA (aU (g:=bA) (o:=.cells #[.slice (some ad309) ai.length ap,.slice au ah.length am] 25 (0,0)) (by (with_reducible repeat (first|refine aa ?_ _|refine ac ?_|refine a9 ?_ _));exact az.out) hg (Kd.R_ne d6.out az.out (by decide)))
                   have n1_:=zzA (aU (g:=bJ) (o:=.cells #[.int .i64 bg,.slice (some ad310) aT.length ci] 39 (0,0)) (by (with_reducible repeat (first|refine aa ?_ _|refine ac ?_|refine a9 ?_ _));exact aC.out) hg (Kd.R_ne d6.out aC.out (by decide)))
                   have n2_:=zzA (Kd.R_after (ok:=(fun _=>True)) (by (with_reducible repeat (first|apply Kd.R_alloc|apply Kd.R_drewN|apply Kd.R_drew));exact co.out) hg hat)
                   have n3_:=zzA (hb)
                   have n4_:=zzA (ho)
                   clear az
                   clear aC
                   clear co
                   clear HB
                   clear d6
                   have az:=n0_
                   have aC:=n1_
                   have co:=n2_
                   have HB:=n3_
                   have dF:=n4_
                   clear n0_ n1_ n2_ n3_ n4_
                   clear ho hb hg hat
                   refine hK.out _ _ ⟨(a8 az.out 0).trans rfl,(a8 az.out 1).trans rfl,(a8 aC.out 0).trans rfl,(a8 aC.out 1).trans rfl,((HB.out.cell (zzE w _ bv)).trans bv),((HB.out.cell (zzE w _ bu)).trans bu),((HB.out.cell (zzE w _ bw)).trans bw)⟩ (fun hHeld=>?_)
                   clear hK K
                   refine bx (a':=?_) ?_ ?_
                   rotate_left
                   ·show Act.put _ (some 69) _=_
                    simp only [Act.put,zzB,zzC,zzD,av,aw]
                    rfl
                   exact bx (by simp only [cZ,Act.put,zzB,zzC,zzD]) (hCont (v312,v315,v319) _ ⟨hHeld,(by (with_reducible repeat (first|apply Kd.R_alloc|apply Kd.R_drewN|apply Kd.R_drew));exact dF.out),(by (with_reducible repeat (first|apply Kd.R_alloc|apply Kd.R_drewN|apply Kd.R_drew));exact Kd.R_mono co.out (fun _ hk=>hk.2)),(by (with_reducible repeat (first|refine aa ?_ _|refine ac ?_|refine a9 ?_ _));exact az.out),(by (with_reducible repeat (first|refine aa ?_ _|refine ac ?_|refine a9 ?_ _));exact aC.out),(by repeat (first|(with_reducible first|exact HB.out|apply a6|apply a4|apply a5|refine a7 ?_ bM.out|refine a7 ?_ cd.out)|exact HB.out))⟩)
                 ·skip
                  refine Kd.R_lit_step (Kd.int .i64) _ 3 ?hg (N:=74) ?hd (xs:=([rd (ao ai (l2.length:Int)) x8_2]:List Int)) (inner:=[.int .i64 (rd (ao ai (l2.length:Int)) x8_2)]) (ok:=fun _=>True) (okp:=fun _=>True) ?hr ?hp (fun _ hk=>hk) trivial (Below.refl _ _) (Nat.le_refl _) (by simp) ?_;(case hd=>rfl);(case hg=>rfl);(case hr=>first|(go_simp;done)|(go_simp;rfl));(case hp=>exact (Reps.one (show Kd.M (Kd.int .i64) _ _ _ (rd (ao ai (l2.length:Int)) x8_2) [.int .i64 (rd (ao ai (l2.length:Int)) x8_2)] from rfl) (Reps.none _ _)))
                  intro v319 w63 ho64 hb hg_ hnew_
                  clear hg_ hnew_
                  (first|rw [← Ny318.out] at ho64|(simp only [Int.reduceToNat] at ho64;rw [← Ny318.out] at ho64))
                  have n0_:=zzA (Kd.R_lower ho64 (ae (by repeat (first|(with_reducible first|exact HB.out|apply a6|apply a4|apply a5|refine a7 ?_ bM.out|refine a7 ?_ cd.out)|exact HB.out))))
                  have n1_:=zzA (af (g:=bA) (o:=.cells #[.slice (some ad309) ai.length ap,.slice au ah.length am] 25 (0,0)) (by (with_reducible repeat (first|refine aa ?_ _|refine ac ?_|refine a9 ?_ _));exact az.out) hb)
                  have n2_:=zzA (af (g:=bJ) (o:=.cells #[.int .i64 bg,.slice (some ad310) aT.length ci] 39 (0,0)) (by (with_reducible repeat (first|refine aa ?_ _|refine ac ?_|refine a9 ?_ _));exact aC.out) hb)
                  have n3_:=zzA (ag (by repeat (first|(with_reducible first|exact HB.out|apply a6|apply a4|apply a5|refine a7 ?_ bM.out|refine a7 ?_ cd.out)|exact HB.out)) hb)
                  clear az
                  clear aC
                  clear HB
                  have co:=n0_
                  have az:=n1_
                  have aC:=n2_
                  have HB:=n3_
                  clear n0_ n1_ n2_ n3_
                  clear hb ho64
                  refine hK.out _ _ ⟨(a8 az.out 0).trans rfl,(a8 az.out 1).trans rfl,(a8 aC.out 0).trans rfl,(a8 aC.out 1).trans rfl,((HB.out.cell (zzE w _ bv)).trans bv),((HB.out.cell (zzE w _ bu)).trans bu),((HB.out.cell (zzE w _ bw)).trans bw)⟩ (fun hHeld=>?_)
                  clear hK K
                  refine bx (a':=?_) ?_ ?_
                  rotate_left
                  ·show Act.put _ (some 74) _=_
                   simp only [Act.put,zzB,zzC,zzD,av,aw]
                   rfl
                  refine ep (i:=6) (N:=some 67) #[true,true,true,true,true,true,true,true,false,true,true,true,true,true,false,false,false] rfl rfl (bE HT_.out (by kernel_rfl)) (by decide) (fun K hK=>?_)
                  refine Kd.R_lit_step (Kd.int .i64) _ 3 ?hg (N:=67) ?hd (xs:=([]:List Int)) (inner:=[]) (ok:=fun _=>True) (okp:=fun _=>True) ?hr ?hp (fun _ hk=>hk) trivial (Below.refl _ _) (Nat.le_refl _) (by simp) ?_;(case hd=>rfl);(case hg=>rfl);(case hr=>first|(go_simp;done)|(go_simp;rfl));(case hp=>exact (Reps.none _ _))
                  intro v312 w65 ho66 hb hg_ hnew_
                  clear hg_ hnew_
                  (first|rw [← Ny311.out] at ho66|(simp only [Int.reduceToNat] at ho66;rw [← Ny311.out] at ho66))
                  have n0_:=zzA (Kd.R_elder' (by (with_reducible repeat (first|apply Kd.R_alloc|apply Kd.R_drewN|apply Kd.R_drew));exact co.out) (Kd.R_base ho66) hb)
                  have n1_:=zzA (Kd.R_lower (Kd.R_new' ho66 (Kd.R_lt (by (with_reducible repeat (first|apply Kd.R_alloc|apply Kd.R_drewN|apply Kd.R_drew));exact co.out))) (ae (by repeat (first|(with_reducible first|exact HB.out|apply a6|apply a4|apply a5|refine a7 ?_ bM.out|refine a7 ?_ cd.out)|exact HB.out))))
                  have n2_:=zzA (af (g:=bA) (o:=.cells #[.slice (some ad309) ai.length ap,.slice au ah.length am] 25 (0,0)) (by (with_reducible repeat (first|refine aa ?_ _|refine ac ?_|refine a9 ?_ _));exact az.out) hb)
                  have n3_:=zzA (af (g:=bJ) (o:=.cells #[.int .i64 bg,.slice (some ad310) aT.length ci] 39 (0,0)) (by (with_reducible repeat (first|refine aa ?_ _|refine ac ?_|refine a9 ?_ _));exact aC.out) hb)
                  have n4_:=zzA (ag (by repeat (first|(with_reducible first|exact HB.out|apply a6|apply a4|apply a5|refine a7 ?_ bM.out|refine a7 ?_ cd.out)|exact HB.out)) hb)
                  clear co
                  clear az
                  clear aC
                  clear HB
                  have co:=n0_
                  have d6:=n1_
                  have az:=n2_
                  have aC:=n3_
                  have HB:=n4_
                  clear n0_ n1_ n2_ n3_ n4_
                  clear hb ho66
                  refine hK.out _ _ ⟨(a8 az.out 0).trans rfl,(a8 az.out 1).trans rfl,(a8 aC.out 0).trans rfl,(a8 aC.out 1).trans rfl,((HB.out.cell (zzE w _ bv)).trans bv),((HB.out.cell (zzE w _ bu)).trans bu),((HB.out.cell (zzE w _ bw)).trans bw)⟩ (fun hHeld=>?_)
                  clear hK K
                  refine bx (a':=?_) ?_ ?_
                  rotate_left
                  ·show Act.put _ (some 67) _=_
                   simp only [Act.put,zzB,zzC,zzD,av,aw]
                   rfl
                  refine ep (i:=8) (N:=some 69) #[true,true,true,true,true,true,true,true,true,true,true,true,true,true,false,false,false] rfl rfl (bE HT_.out (by kernel_rfl)) (by decide) (fun K hK=>?_)
                  refine Kd.R_append_rows_step (Kd.int .i64) (w0:=w) w.heap.size (by rfl) (.tmp 67) (.tmp 68) 26 3 (.int .i64 0) 8 rfl Try.underlying26 fa rfl (by decide) (by omega) v312 y311 l2 _ _ _ (fun k_=>some k_ ≠ (v319:Value).ownBlock) (fun _=>False) rfl rfl ?aO ?aR (fun _ _ h=>h) (fun _ h=>h.elim) ?aF ?aB ?aS ?aL ?_
                  (case aR=>repeat (first|exact (zzI HR2.out HB.out)|(with_reducible refine Kd.C_alloc ?_ _)|(with_reducible refine Kd.C_drewN ?_ _)|(with_reducible refine Kd.C_drew ?_)))
                  (case aB=>exact (by repeat (first|(with_reducible first|exact HB.out|apply a6|apply a4|apply a5|refine a7 ?_ bM.out|refine a7 ?_ cd.out)|exact HB.out)))
                  (case aF=>exact (fun k_ hk=>Kd.fresh' (Kd.R_lt (by (with_reducible repeat (first|apply Kd.R_alloc|apply Kd.R_drewN|apply Kd.R_drew));exact co.out)) k_ hk))
                  (case aO=>exact (by (with_reducible repeat (first|apply Kd.R_alloc|apply Kd.R_drewN|apply Kd.R_drew));exact Kd.R_mono d6.out (fun _ hk=>hk.2)))
                  (case aS=>exact (ae (by repeat (first|(with_reducible first|exact HB.out|apply a6|apply a4|apply a5|refine a7 ?_ bM.out|refine a7 ?_ cd.out)|exact HB.out))))
                  (case aL=>have:=LMc47.out;omega)
                  intro v315 w67 ho hb hg hat
                  rw [← Ny314.out] at ho
                  have n0_:=zzA (aU (g:=bA) (o:=.cells #[.slice (some ad309) ai.length ap,.slice au ah.length am] 25 (0,0)) (by (with_reducible repeat (first|refine aa ?_ _|refine ac ?_|refine a9 ?_ _));exact az.out) hg (Kd.R_ne d6.out az.out (by decide)))
                  have n1_:=zzA (aU (g:=bJ) (o:=.cells #[.int .i64 bg,.slice (some ad310) aT.length ci] 39 (0,0)) (by (with_reducible repeat (first|refine aa ?_ _|refine ac ?_|refine a9 ?_ _));exact aC.out) hg (Kd.R_ne d6.out aC.out (by decide)))
                  have n2_:=zzA (Kd.R_after (ok:=(fun _=>True)) (by (with_reducible repeat (first|apply Kd.R_alloc|apply Kd.R_drewN|apply Kd.R_drew));exact co.out) hg hat)
                  have n3_:=zzA (hb)
                  have n4_:=zzA (ho)
                  clear az
                  clear aC
                  clear co
                  clear HB
                  clear d6
                  have az:=n0_
                  have aC:=n1_
                  have co:=n2_
                  have HB:=n3_
                  have dF:=n4_
                  clear n0_ n1_ n2_ n3_ n4_
                  clear ho hb hg hat
                  refine hK.out _ _ ⟨(a8 az.out 0).trans rfl,(a8 az.out 1).trans rfl,(a8 aC.out 0).trans rfl,(a8 aC.out 1).trans rfl,((HB.out.cell (zzE w _ bv)).trans bv),((HB.out.cell (zzE w _ bu)).trans bu),((HB.out.cell (zzE w _ bw)).trans bw)⟩ (fun hHeld=>?_)
                  clear hK K
                  refine bx (a':=?_) ?_ ?_
                  rotate_left
                  ·show Act.put _ (some 69) _=_
                   simp only [Act.put,zzB,zzC,zzD,av,aw]
                   rfl
                  exact bx (by simp only [cZ,Act.put,zzB,zzC,zzD]) (hCont (v312,v315,v319) _ ⟨hHeld,(by (with_reducible repeat (first|apply Kd.R_alloc|apply Kd.R_drewN|apply Kd.R_drew));exact dF.out),(by (with_reducible repeat (first|apply Kd.R_alloc|apply Kd.R_drewN|apply Kd.R_drew));exact Kd.R_mono co.out (fun _ hk=>hk.2)),(by (with_reducible repeat (first|refine aa ?_ _|refine ac ?_|refine a9 ?_ _));exact az.out),(by (with_reducible repeat (first|refine aa ?_ _|refine ac ?_|refine a9 ?_ _));exact aC.out),(by repeat (first|(with_reducible first|exact HB.out|apply a6|apply a4|apply a5|refine a7 ?_ bM.out|refine a7 ?_ cd.out)|exact HB.out))⟩)
                rintro ⟨v312,v315,v319⟩ w68 ⟨hS_,h0_,h1_,h2_,h3_,h4_⟩
                have n0_:Aside0 (Kd.R (Kd.int .i64) 3 w68 w.heap.size (fun k_=>some k_ ≠ (v319:Value).ownBlock) v315 y314):=⟨h0_⟩
                have n1_:Aside0 (Kd.R (Kd.int .i64) 3 w68 w.heap.size (fun k_=>some k_ ≠ (v315:Value).ownBlock) v319 y318):=⟨h1_⟩
                have n2_:Aside0 (w68.heap[bA]?=some (.cells #[.slice (some ad309) ai.length ap,.slice au ah.length am] 25 (0,0))):=⟨h2_⟩
                have n3_:Aside0 (w68.heap[bJ]?=some (.cells #[.int .i64 bg,.slice (some ad310) aT.length ci] 39 (0,0))):=⟨h3_⟩
                have n4_:Aside0 (Below w.heap.size w w68):=⟨h4_⟩
                clear az
                clear aC
                clear HB
                clear h0_ h1_ h2_ h3_ h4_
                have dF:=n0_
                have co:=n1_
                have az:=n2_
                have aC:=n3_
                have HB:=n4_
                clear n0_ n1_ n2_ n3_ n4_
                have hHeld:w68.cell? ⟨bA,0,none⟩=some (.slice (some ad309) ai.length ap)∧w68.cell? ⟨bA,1,none⟩=some (.slice au ah.length am)∧w68.cell? ⟨bJ,0,none⟩=some (.int .i64 bg)∧w68.cell? ⟨bJ,1,none⟩=some (.slice (some ad310) aT.length ci)∧w68.cell? (ad310.add ((x8_2).toNat * 2))=some (.int .i64 ((aY aT x8_2).f0))∧w68.cell? ⟨(ad310.add ((x8_2).toNat * 2)).block,(ad310.add ((x8_2).toNat * 2)).off+1,none⟩=some (.slice iT ((aY aT x8_2).f1).length iU)∧w68.cell? (ad317.add (x8_2).toNat)=some (.int .i64 (rd (ao ai (l2.length:Int)) x8_2)):=hS_
                obtain ⟨Ao70,co70,eo70⟩:=Kd.R_slice co.out
                (first|subst eo70|(injection eo70 with f1_ f2_ f3_;have f4_:=f1_.symm;have f5_:=f3_.symm;clear f1_ f2_ f3_;subst f4_;subst f5_))
                refine bx (a':=?_) ?_ ?_
                rotate_left
                ·simp only [cZ,Act.put,zzB,zzC,zzD]
                 rfl
                refine ep (i:=14) (N:=some 75) #[true,true,true,true,true,true,true,true,true,true,true,true,true,true,true,false,false] rfl rfl (bE HT_.out (by kernel_rfl)) (by decide) (fun K hK=>?_)
                refine Kd.R_append_rows_step (Kd.int .i64) (w0:=w) w.heap.size (by rfl) (.tmp 69) (.tmp 74) 26 3 (.int .i64 0) 8 rfl Try.underlying26 fa rfl (by decide) (by omega) v315 y314 y318 _ _ _ (fun k_=>some k_ ≠ (.slice Ao70 y318.length co70:Value).ownBlock) (fun _=>False) rfl rfl ?aO ?aR (fun _ _ h=>h) (fun _ h=>h.elim) ?aF ?aB ?aS ?aL ?_
                (case aR=>repeat (first|exact (Kd.R_reads' co.out).2.2|(with_reducible refine Kd.C_alloc ?_ _)|(with_reducible refine Kd.C_drewN ?_ _)|(with_reducible refine Kd.C_drew ?_)))
                (case aB=>exact (by repeat (first|(with_reducible first|exact HB.out|apply a6|apply a4|apply a5|refine a7 ?_ bM.out|refine a7 ?_ cd.out)|exact HB.out)))
                (case aF=>exact (fun k_ hk=>Kd.fresh' (Kd.R_lt (by (with_reducible repeat (first|apply Kd.R_alloc|apply Kd.R_drewN|apply Kd.R_drew));exact co.out)) k_ hk))
                (case aO=>exact (by (with_reducible repeat (first|apply Kd.R_alloc|apply Kd.R_drewN|apply Kd.R_drew));exact dF.out))
                (case aS=>exact (ae (by repeat (first|(with_reducible first|exact HB.out|apply a6|apply a4|apply a5|refine a7 ?_ bM.out|refine a7 ?_ cd.out)|exact HB.out))))
                (case aL=>have:=LMc48.out;omega)
                intro v322 w69 ho hb hg hat
                rw [← Ny321.out] at ho
                have n0_:=zzA (aU (g:=bA) (o:=.cells #[.slice (some ad309) ai.length ap,.slice au ah.length am] 25 (0,0)) (by (with_reducible repeat (first|refine aa ?_ _|refine ac ?_|refine a9 ?_ _));exact az.out) hg (Kd.R_ne dF.out az.out (by decide)))
                have n1_:=zzA (aU (g:=bJ) (o:=.cells #[.int .i64 bg,.slice (some ad310) aT.length ci] 39 (0,0)) (by (with_reducible repeat (first|refine aa ?_ _|refine ac ?_|refine a9 ?_ _));exact aC.out) hg (Kd.R_ne dF.out aC.out (by decide)))
                have n2_:=zzA (Kd.R_after (ok:=(fun _=>True)) (by (with_reducible repeat (first|apply Kd.R_alloc|apply Kd.R_drewN|apply Kd.R_drew));exact Kd.R_mono co.out (fun _ hk=>⟨trivial,hk⟩)) hg hat)
                have n3_:=zzA (hb)
                have n4_:=zzA (ho)
                clear az
                clear aC
                clear co
                clear HB
                clear dF
                have az:=n0_
                have aC:=n1_
                have co:=n2_
                have HB:=n3_
                have jv:=n4_
                clear n0_ n1_ n2_ n3_ n4_
                clear ho hb hg hat
                obtain ⟨Ao71,co71,eo71⟩:=Kd.R_slice jv.out
                (first|subst eo71|(injection eo71 with f1_ f2_ f3_;have f4_:=f1_.symm;have f5_:=f3_.symm;clear f1_ f2_ f3_;subst f4_;subst f5_))
                refine hK.out _ _ ⟨(a8 az.out 0).trans rfl,(a8 az.out 1).trans rfl,(a8 aC.out 0).trans rfl,(a8 aC.out 1).trans rfl,((HB.out.cell (zzE w _ bv)).trans bv),((HB.out.cell (zzE w _ bu)).trans bu),((HB.out.cell (zzE w _ bw)).trans bw)⟩ (fun hHeld=>?_)
                clear hK K
                refine bx (a':=?_) ?_ ?_
                rotate_left
                ·show Act.put _ (some 75) _=_
                 simp only [Act.put,zzB,zzC,zzD,av,aw]
                 rfl
                refine ep (i:=15) (N:=some 76) #[true,true,true,true,true,true,true,true,true,true,true,true,true,true,true,true,false] rfl rfl (bE HT_.out (by kernel_rfl)) (by decide) (fun K hK=>?_)
                refine jH Try.func44 (by kernel_rfl) rfl #[.agg #[.slice (some ad309) ai.length ap,.slice au ah.length am],.agg #[.int .i64 ((aY aT x8_2).f0),.slice iT ((aY aT x8_2).f1).length iU],.slice Ao71 y321.length co71] (by rfl) rfl rfl (by (try simp only [List.map_toArray,List.map_cons,List.map_nil]);first|done|rfl|(simp only [List.length_drop,List.length_take];rfl)) ?_
                with_reducible refine (ih k2 (by have:=HJ25.out;have:=HK2.out;omega) _ _ ai _ _ ah ((aY aT x8_2).f0) _ _ ((aY aT x8_2).f1) _ _ y321 false _ ?side1 ?side2 ?side3 ?side4 ?side5 ?side6 ?side7 ?side8 A49.out).mono ?_
                (case side1=>repeat (first|exact (zzI bz.out HB.out)|(with_reducible refine Kd.C_alloc ?_ _)|(with_reducible refine Kd.C_drewN ?_ _)|(with_reducible refine Kd.C_drew ?_)))
                (case side2=>exact bH.out)
                (case side3=>repeat (first|exact (zzI bq.out HB.out)|(with_reducible refine Kd.C_alloc ?_ _)|(with_reducible refine Kd.C_drewN ?_ _)|(with_reducible refine Kd.C_drew ?_)))
                (case side4=>exact bF.out)
                (case side5=>repeat (first|exact (zzI m8.out HB.out)|(with_reducible refine Kd.C_alloc ?_ _)|(with_reducible refine Kd.C_drewN ?_ _)|(with_reducible refine Kd.C_drew ?_)))
                (case side6=>exact HC310_1.out)
                (case side7=>repeat (first|exact (Kd.R_reads' jv.out).2.2|(with_reducible refine Kd.C_alloc ?_ _)|(with_reducible refine Kd.C_drewN ?_ _)|(with_reducible refine Kd.C_drew ?_)))
                (case side8=>exact (Kd.R_reads' jv.out).2.1)
                rintro e w72 ⟨rfl,hb⟩
                refine ⟨_,rfl,?_⟩
                have n0_:=zzA (Kd.R_below (by (with_reducible repeat (first|apply Kd.R_alloc|apply Kd.R_drewN|apply Kd.R_drew));exact co.out) hb)
                have n1_:=zzA (Kd.R_below (by (with_reducible repeat (first|apply Kd.R_alloc|apply Kd.R_drewN|apply Kd.R_drew));exact jv.out) hb)
                have n2_:=zzA (af (g:=bA) (o:=.cells #[.slice (some ad309) ai.length ap,.slice au ah.length am] 25 (0,0)) (by (with_reducible repeat (first|refine aa ?_ _|refine ac ?_|refine a9 ?_ _));exact az.out) hb)
                have n3_:=zzA (af (g:=bJ) (o:=.cells #[.int .i64 bg,.slice (some ad310) aT.length ci] 39 (0,0)) (by (with_reducible repeat (first|refine aa ?_ _|refine ac ?_|refine a9 ?_ _));exact aC.out) hb)
                have n4_:=zzA (ag (by repeat (first|(with_reducible first|exact HB.out|apply a6|apply a4|apply a5|refine a7 ?_ bM.out|refine a7 ?_ cd.out)|exact HB.out)) hb)
                clear co
                clear jv
                clear az
                clear aC
                clear HB
                have co:=n0_
                have jv:=n1_
                have az:=n2_
                have aC:=n3_
                have HB:=n4_
                clear n0_ n1_ n2_ n3_ n4_
                (try clear hb)
                (try clear hb2)
                (try clear hk)
                (try clear hi)
                refine hK.out _ _ ⟨(a8 az.out 0).trans rfl,(a8 az.out 1).trans rfl,(a8 aC.out 0).trans rfl,(a8 aC.out 1).trans rfl,((HB.out.cell (zzE w _ bv)).trans bv),((HB.out.cell (zzE w _ bu)).trans bu),((HB.out.cell (zzE w _ bw)).trans bw)⟩ (fun hHeld=>?_)
                clear hK K
                refine bx (a':=?_) ?_ ?_
                rotate_left
                ·show Act.put _ (some 76) _=_
                 simp only [Act.put,zzB,zzC,zzD,av,aw]
                 rfl
                refine bh (i:=16) (N:=some 77) (v:=?_) (a':=?_) #[true,true,true,true,true,true,true,true,true,true,true,true,true,true,true,true,true] rfl rfl (aG HT_.out (by kernel_rfl)) (fun _ _ _ h=>h) (Or.inl ⟨by rfl,?_⟩) ?_ ?_
                rotate_left
                ·intro w'
                 go_simp
                 with_reducible rfl
                rotate_left
                ·simp only [Act.put,zzB,zzC,zzD,av,aw]
                 rfl
                refine gO (dm HT_.out (by kernel_rfl)) ?_
                try go_wp2
                go_ret
                exact ⟨by first|rfl|(simp [ak,al] <;> rfl)|(simp [*,ak,al] <;> rfl),by repeat (first|(with_reducible first|exact HB.out|apply a6|apply a4|apply a5|refine a7 ?_ bM.out|refine a7 ?_ cd.out)|exact HB.out)⟩
              ·rw [if_neg c48] at H
               exact absurd H (by simp)
             ·rw [if_neg c47] at H
              exact absurd H (by simp)
            ·rw [if_neg c46] at H
             exact absurd H (by simp)
           ·rw [if_neg c45] at H
            exact absurd H (by simp)
          ·rw [if_neg c44] at H
           have c44b0:decide (x8_2 < ((ao ai (l2.length:Int)).length:Int))=false:=zzH c44
           clear c44
           obtain rfl:=Option.some.inj H
           go_wp2
           go_ret
           exact ⟨by first|rfl|(simp [ak,al] <;> rfl)|(simp [*,ak,al] <;> rfl),by repeat (first|(with_reducible first|exact HB.out|apply a6|apply a4|apply a5|refine a7 ?_ bM.out|refine a7 ?_ cd.out)|exact HB.out)⟩
       ·rw [if_neg c40] at H
        have c40b0:((aT.length:Int) == ((ao ai (l2.length:Int)).length:Int))=false:=beq_eq_false_iff_ne.mpr c40
        have c40b1:((aT.length:Int) != ((ao ai (l2.length:Int)).length:Int))=true:=bne_iff_ne.mpr c40
        have c40b2:(aT.length == (ao ai (l2.length:Int)).length)=false:=by first|simpa using c40|(simp at c40 ⊢;omega)
        obtain rfl:=Option.some.inj H
        have hnb73:=NB305_306.out
        have hnc73:=NB306_305.out
        have hcz74_0:wc.cell? ⟨bA,0,none⟩=some (.slice ax ai.length ap):=(a8 az.out 0).trans rfl
        have hcz74_1:wc.cell? ⟨bA,1,none⟩=some (.slice au ah.length am):=(a8 az.out 1).trans rfl
        have hfz74_0:=ab az.out 0
        have hfz74_1:=ab az.out 1
        have p309:0≤((l2.length:Int):Int):=zzF (by first|(with_reducible assumption)|assumption)
        have q309:(l2.length:Int) < (ai.length:Int):=zzF (by first|(with_reducible assumption)|assumption)
        obtain ⟨ad309,A309_0,c309_0,e309,fp,lY,lZ⟩:=et bz.out (l2.length:Int) p309 q309
        cases e309
        replace fp:=(HB.out.cell (zzE w _ fp)).trans fp
        have HR309_0:=zzA lZ
        have HC309_0:=zzA lY
        clear lZ lY
        (try simp only [Go.IntWalk.toNatUp] at fp)
        replace p309:=eq_true p309
        replace q309:=eq_true q309
        have hcz75_0:wc.cell? ⟨bJ,0,none⟩=some (.int .i64 bg):=(a8 aC.out 0).trans rfl
        have hcz75_1:wc.cell? ⟨bJ,1,none⟩=some (.slice cS aT.length ci):=(a8 aC.out 1).trans rfl
        have hfz75_0:=ab aC.out 0
        have hfz75_1:=ab aC.out 1
        go_wp2
        go_ret
        exact ⟨by first|rfl|(simp [ak,al] <;> rfl)|(simp [*,ak,al] <;> rfl),by repeat (first|(with_reducible first|exact HB.out|apply a6|apply a4|apply a5|refine a7 ?_ bM.out|refine a7 ?_ cd.out)|exact HB.out)⟩
      ·rw [if_neg c39] at H
       exact absurd H (by simp)
     ·rw [if_neg c38] at H
      exact absurd H (by simp)
end Go.Proofs.Ytcbpkdemcdikaaa.X
namespace Go.Proofs.Ytcbpkdemcdikaaa.QB
open Go.RowKit Go.Proofs.Ytcbpkdemcdikaaa.X Go.Proofs.Ytcbpkdemcdikaaa.X.SF Go.Proofs.Ytcbpkdemcdikaaa.X.DF Go.Proofs.Ytcbpkdemcdikaaa.K Go.Proofs.YtcbpkdemcdikaaaW.PrintWords
set_option linter.unusedVariables false
set_option linter.unusedSimpArgs false
abbrev M:=List (List Int)
theorem dc {β:Type} (g:Nat→Nat→Option β) (P:Nat→Bool) (n:Nat) (y z:β) (hy:∀ i,i < n→P i=true→∀ r,Ev (fun k=>g k (i+1)) r→Ev (fun k=>g k i) r)
    (hz:∀ i,i < n→P i=false→Ev (fun k=>g k i) z) (he:(∀ i,i < n→P i=true)→Ev (fun k=>g k n) y):Ev (fun k=>g k 0) (if (List.range n).all P then y else z):=by
  have H:∀ m i,i+m=n→(∀ j,j < i→P j=true)→Ev (fun k=>g k i) (if (List.range n).all P then y else z):=by
    intro m
    induction m with
    | zero =>
      intro i hi hP
      obtain rfl:i=n:=by omega
      rw [if_pos (List.all_eq_true.2 fun j hj=>hP j (List.mem_range.1 hj))]
      exact he hP
    | succ m ih =>
      intro i hi hP
      cases h:P i
      · rw [if_neg]
        · exact hz i (by omega) h
        · intro ha
          rw [List.all_eq_true.1 ha i (List.mem_range.2 (by omega))] at h
          cases h
      · refine hy i (by omega) h _ (ih (i+1) (by omega) fun j hj=>?_)
        rcases Nat.lt_or_ge j i with hj'|hj'
        · exact hP j hj'
        · obtain rfl:j=i:=by omega
          exact h
  exact H n 0 (by omega) fun j hj=>by omega
theorem L1n (l:M) (i:Nat):ao l (i:Int)=l.getD i []:=by simp [ao]
theorem T49n (l:List S49) (i:Nat):aj l (i:Int)=l.getD i z49:=by simp [aj]
theorem dN {α:Type} (l:List α) (d:α) (p:α→Bool):(List.range l.length).all (fun i=>p (l.getD i d))=l.all p:=by
  rw [Bool.eq_iff_iff,List.all_eq_true,List.all_eq_true]
  constructor
  · intro h x hx
    obtain ⟨i,hi,rfl⟩:=List.mem_iff_getElem.1 hx
    have:=h i (List.mem_range.2 hi)
    rwa [cQ hi] at this
  · intro h i hi
    rw [cQ (List.mem_range.1 hi)]
    exact h _ (List.getElem_mem _)
theorem ite_tf (b:Bool):(if b=true then true else false)=b:=by cases b <;> rfl
theorem short_l2 (x4:Int) (ds:M) (rs:List S49) (a b:Int) (v:List Int) (t:M) (ht:t.length≤256) (r:Bool) (h:(∀ row ∈ t,row.length≤12)→Ev (fun k=>fastiref15_short.l1 k (wrap64 (x4+1)) ds rs) r) :
    Ev (fun k=>fastiref15_short.l2 k x4 0 ds rs a b v t) (if t.all (fun row=>decide (row.length≤12)) then r else false):=by
  have:=dc (fun k i=>fastiref15_short.l2 k x4 (i:Int) ds rs a b v t) (fun i=>decide ((t.getD i []).length≤12)) t.length r false ?_ ?_ ?_
  · rw [dN t [] (fun row=>decide (row.length≤12))] at this
    exact this
  · intro i hi hP r' h'
    have hw:=w64s i (by omega)
    have hP:=of_decide_eq_true hP
    refine Ev.step (f:=fun k=>fastiref15_short.l2 k x4 (wrap64 ((i:Int)+1)) ds rs a b v t) (fun k=>?_) (by rw [hw];exact h')
    simp only [fastiref15_short.l2]
    rw [if_pos (by omega),if_pos (by omega),L1n,if_neg (by omega)]
  · intro i hi hP
    have hP:=of_decide_eq_false hP
    refine Ev.eq fun k=>?_
    simp only [fastiref15_short.l2]
    rw [if_pos (by omega),if_pos (by omega),L1n,if_pos (by omega)]
  · intro hP
    refine Ev.step (f:=fun k=>fastiref15_short.l1 k (wrap64 (x4+1)) ds rs) (fun k=>?_) (h fun row hr=>?_)
    · simp only [fastiref15_short.l2]
      rw [if_neg (by omega)]
    · obtain ⟨i,hi,rfl⟩:=List.mem_iff_getElem.1 hr
      have:=of_decide_eq_true (hP i hi)
      rwa [cQ hi] at this
theorem short_l1 (ds:M) (rs:List S49) (hr:rs.length≤64):Ev (fun k=>fastiref15_short.l1 k 0 ds rs) (rs.all fun r=>!fj r):=by
  have:=dc (fun k i=>fastiref15_short.l1 k (i:Int) ds rs) (fun i=>!fj (rs.getD i z49)) rs.length true false ?_ ?_ ?_
  · rw [dN rs z49 (fun r=>!fj r)] at this
    rw [ite_tf] at this
    exact this
  · intro i hi hP r' h'
    have hw:=w64s i (by omega)
    simp only [fj,Bool.not_eq_true',Bool.or_eq_false_iff,decide_eq_false_iff_not] at hP
    obtain ⟨⟨h1,h2⟩,h3⟩:=hP
    have e3:(rs.getD i z49).f3.all (fun row=>decide (row.length≤12))=true:=by
      rw [List.all_eq_true]
      intro row hrow
      have:=List.any_eq_false.1 h3 row hrow
      simp at this ⊢
      omega
    refine Ev.step (f:=fun k=>fastiref15_short.j3 k (i:Int) false ds rs (rs.getD i z49).f0 (rs.getD i z49).f1 (rs.getD i z49).f2 (rs.getD i z49).f3) (fun k=>?_) ?_
    · simp only [fastiref15_short.l1]
      rw [if_pos (by omega),if_pos (by omega),T49n,if_neg (by omega),decide_eq_false (by omega)]
    · refine Ev.step (f:=fun k=>fastiref15_short.l2 k (i:Int) 0 ds rs (rs.getD i z49).f0 (rs.getD i z49).f1 (rs.getD i z49).f2 (rs.getD i z49).f3) (fun k=>rfl) ?_
      have:=short_l2 (i:Int) ds rs (rs.getD i z49).f0 (rs.getD i z49).f1 (rs.getD i z49).f2 (rs.getD i z49).f3 (by omega) r' (fun _=>by rw [hw];exact h')
      rw [if_pos e3] at this
      exact this
  · intro i hi hP
    have hw:=w64s i (by omega)
    simp only [Bool.not_eq_false'] at hP
    by_cases h1:12 < (rs.getD i z49).f2.length
    · refine Ev.step (f:=fun k=>fastiref15_short.j3 k (i:Int) true ds rs (rs.getD i z49).f0 (rs.getD i z49).f1 (rs.getD i z49).f2 (rs.getD i z49).f3) (fun k=>?_) (Ev.eq fun k=>rfl)
      simp only [fastiref15_short.l1]
      rw [if_pos (by omega),if_pos (by omega),T49n,if_pos (by omega)]
    · by_cases h2:256 < (rs.getD i z49).f3.length
      · refine Ev.step (f:=fun k=>fastiref15_short.j3 k (i:Int) true ds rs (rs.getD i z49).f0 (rs.getD i z49).f1 (rs.getD i z49).f2 (rs.getD i z49).f3) (fun k=>?_) (Ev.eq fun k=>rfl)
        simp only [fastiref15_short.l1]
        rw [if_pos (by omega),if_pos (by omega),T49n,if_neg (by omega),decide_eq_true (by omega)]
      · simp only [fj,decide_eq_false h1,decide_eq_false h2,Bool.false_or] at hP
        refine Ev.step (f:=fun k=>fastiref15_short.j3 k (i:Int) false ds rs (rs.getD i z49).f0 (rs.getD i z49).f1 (rs.getD i z49).f2 (rs.getD i z49).f3) (fun k=>?_) ?_
        · simp only [fastiref15_short.l1]
          rw [if_pos (by omega),if_pos (by omega),T49n,if_neg (by omega),decide_eq_false (by omega)]
        · refine Ev.step (f:=fun k=>fastiref15_short.l2 k (i:Int) 0 ds rs (rs.getD i z49).f0 (rs.getD i z49).f1 (rs.getD i z49).f2 (rs.getD i z49).f3) (fun k=>rfl) ?_
          have e3:(rs.getD i z49).f3.all (fun row=>decide (row.length≤12))=false:=by
            obtain ⟨row,hrow,hlen⟩:=List.any_eq_true.1 hP
            refine List.all_eq_false.2 ⟨row,hrow,?_⟩
            simp at hlen ⊢
            omega
          have:=short_l2 (i:Int) ds rs (rs.getD i z49).f0 (rs.getD i z49).f1 (rs.getD i z49).f2 (rs.getD i z49).f3 (by omega) false (fun hall=>?_)
          · rw [e3] at this
            exact this
          · exfalso
            obtain ⟨row,hrow,hlen⟩:=List.any_eq_true.1 hP
            have:=hall row hrow
            simp at hlen
            omega
  · intro _
    refine Ev.eq fun k=>?_
    simp only [fastiref15_short.l1]
    rw [if_neg (by omega)]
theorem short_ref (ds:M) (rs:List S49):Ev (fun k=>fastiref15_short.f k ds rs) (!longB ds rs):=by
  unfold fastiref15_short.f longB
  by_cases h1:12 < ds.length
  · rw [decide_eq_true h1]
    refine Ev.step (f:=fun _=>some false) (fun k=>?_) (Ev.now _)
    rw [if_pos (by omega)]
    rfl
  · rw [decide_eq_false h1,Bool.false_or]
    by_cases h2:64 < rs.length
    · rw [decide_eq_true h2]
      refine Ev.step (f:=fun _=>some false) (fun k=>?_) (Ev.now _)
      rw [if_neg (by omega),decide_eq_true (by omega)]
      rfl
    · rw [decide_eq_false h2,Bool.false_or]
      refine Ev.step (f:=fun k=>fastiref15_short.l0 k 0 ds rs) (fun k=>?_) ?_
      · rw [if_neg (by omega),decide_eq_false (by omega)]
        rfl
      · have:=dc (fun k i=>fastiref15_short.l0 k (i:Int) ds rs) (fun i=>decide ((ds.getD i []).length≤16)) ds.length (rs.all fun r=>!fj r) false ?_ ?_ ?_
        · rw [dN ds [] (fun d=>decide (d.length≤16))] at this
          have e:(!(ds.any (fun d=>decide (16 < d.length)) || rs.any fj))=(if ds.all (fun d=>decide (d.length≤16)) then rs.all fun r=>!fj r else false):=by
            rw [Bool.not_or,List.not_any_eq_all_not,List.not_any_eq_all_not]
            have:(fun d:List Int=>!decide (16 < d.length))=fun d=>decide (d.length≤16):=by
              funext d
              rw [← decide_not]
              exact decide_eq_decide.2 (by omega)
            rw [this]
            cases ds.all fun d=>decide (d.length≤16) <;> rfl
          rw [e]
          exact this
        · intro i hi hP r' h'
          have hw:=w64s i (by omega)
          have hP:=of_decide_eq_true hP
          refine Ev.step (f:=fun k=>fastiref15_short.l0 k (wrap64 ((i:Int)+1)) ds rs) (fun k=>?_) (by rw [hw];exact h')
          simp only [fastiref15_short.l0]
          rw [if_pos (by omega),if_pos (by omega),L1n,if_neg (by omega)]
        · intro i hi hP
          have hP:=of_decide_eq_false hP
          refine Ev.eq fun k=>?_
          simp only [fastiref15_short.l0]
          rw [if_pos (by omega),if_pos (by omega),L1n,if_pos (by omega)]
        · intro _
          refine Ev.step (f:=fun k=>fastiref15_short.l1 k 0 ds rs) (fun k=>?_) (short_l1 ds rs (by omega))
          simp only [fastiref15_short.l0]
          rw [if_neg (by omega)]
end Go.Proofs.Ytcbpkdemcdikaaa.QB
namespace Go.Proofs.Ytcbpkdemcdikaaa.QC
open Go.RowKit Go.Proofs.Ytcbpkdemcdikaaa.X Go.Proofs.Ytcbpkdemcdikaaa.X.SF Go.Proofs.Ytcbpkdemcdikaaa.X.DF Go.Proofs.Ytcbpkdemcdikaaa.K Go.Proofs.YtcbpkdemcdikaaaW.PrintWords Go.Proofs.Ytcbpkdemcdikaaa.QB
set_option linter.unusedVariables false
set_option linter.unusedSimpArgs false
def jK (l:List Int) (i:Nat):Bool:=decide (0≤rd l (i:Int)) && decide (rd l (i:Int)≤73048) && (decide (i=0) || decide (rd l ((i - 1:Nat):Int) < rd l (i:Int)))
def jC (l:List Int):Bool:=decide (0 < l.length) && (List.range l.length).all (jK l)
theorem domain_ref (l:List Int) (hl:l.length≤4096):Ev (fun k=>fastiref15_domain.f k l) (jC l):=by
  have:=dc (fun k i=>fastiref15_domain.l0 k l (i:Int)) (jK l) l.length (decide (0 < l.length)) false ?_ ?_ ?_
  · have e:jC l=if (List.range l.length).all (jK l) then decide (0 < l.length) else false:=by
      unfold jC
      cases (List.range l.length).all (jK l)
      · rw [Bool.and_false];rfl
      · rw [Bool.and_true];rfl
    rw [e]
    exact this
  · intro i hi hP r h'
    have hw:=w64s i (by omega)
    simp only [jK,Bool.and_eq_true,Bool.or_eq_true,decide_eq_true_eq] at hP
    refine Ev.step (f:=fun k=>fastiref15_domain.l0 k l (wrap64 ((i:Int)+1))) (fun k=>?_) (by rw [hw];exact h')
    simp only [fastiref15_domain.l0]
    rw [if_pos (by omega),if_pos (by omega),if_neg (by omega),if_neg (by omega)]
    by_cases h0:i=0
    · rw [if_neg (by omega)]
    · have hp:=w64p i (by omega) (by omega)
      rw [if_pos (by omega),hp,if_pos (by omega),if_pos (by omega),if_neg (by omega)]
  · intro i hi hP
    refine Ev.eq fun k=>?_
    simp only [fastiref15_domain.l0]
    rw [if_pos (by omega),if_pos (by omega)]
    by_cases h1:rd l (i:Int) < 0
    · rw [if_pos h1]
    · rw [if_neg h1]
      by_cases h2:rd l (i:Int) > 73048
      · rw [if_pos h2]
      · rw [if_neg h2]
        simp only [jK,decide_eq_true (show 0≤rd l (i:Int) by omega),decide_eq_true (show rd l (i:Int)≤73048 by omega),Bool.true_and,Bool.or_eq_false_iff,decide_eq_false_iff_not] at hP
        have hp:=w64p i (by omega) (by omega)
        rw [if_pos (by omega),hp,if_pos (by omega),if_pos (by omega),if_pos (by omega)]
  · intro _
    refine Ev.eq fun k=>?_
    simp only [fastiref15_domain.l0]
    rw [if_neg (by omega)]
    exact congrArg some (decide_eq_decide.2 (by omega))
theorem vars_l1 (l:List Int) (n:Int) (i:Nat) (hi:i < l.length) (hl:l.length≤4096) (r:Bool) (h:Ev (fun k=>fastiref15_vars.l0 k l n ((i+1:Nat):Int)) r) :
    Ev (fun k=>fastiref15_vars.l1 k l n (i:Int) 0) (if (l.take i).any (fun x=>decide (rd l (i:Int)=x)) then false else r):=by
  have:=dc (fun k j=>fastiref15_vars.l1 k l n (i:Int) (j:Int)) (fun j=>!decide (rd l (j:Int)=rd l (i:Int))) i r false ?_ ?_ ?_
  · have e:(List.range i).all (fun j=>!decide (rd l (j:Int)=rd l (i:Int)))=!(l.take i).any (fun x=>decide (rd l (i:Int)=x)):=by
      rw [Bool.eq_iff_iff,List.all_eq_true,Bool.not_eq_true',List.any_eq_false]
      constructor
      · intro h x hx hd
        obtain ⟨j,hj,rfl⟩:=List.mem_iff_getElem.1 hx
        simp only [List.length_take] at hj
        have:=h j (List.mem_range.2 (by omega))
        rw [Bool.not_eq_true',decide_eq_false_iff_not,ks (by omega)] at this
        rw [List.getElem_take] at hd
        exact this (of_decide_eq_true hd).symm
      · intro h j hj
        have hj:=List.mem_range.1 hj
        rw [Bool.not_eq_true',decide_eq_false_iff_not]
        intro he
        have hm:rd l (j:Int) ∈ l.take i:=by
          rw [ks (by omega)]
          exact List.mem_iff_getElem.2 ⟨j,by simp;omega,by simp⟩
        exact h _ hm (decide_eq_true he.symm)
    rw [e] at this
    cases hb:(l.take i).any (fun x=>decide (rd l (i:Int)=x))
    · rw [hb] at this;exact this
    · rw [hb] at this;exact this
  · intro j hj hP r' h'
    have hw:=w64s j (by omega)
    rw [Bool.not_eq_true',decide_eq_false_iff_not] at hP
    refine Ev.step (f:=fun k=>fastiref15_vars.l1 k l n (i:Int) (wrap64 ((j:Int)+1))) (fun k=>?_) (by rw [hw];exact h')
    simp only [fastiref15_vars.l1]
    rw [if_pos (by omega),if_pos (by omega),if_pos (by omega),if_pos (by omega),if_pos (by omega),if_neg hP]
  · intro j hj hP
    rw [Bool.not_eq_false',decide_eq_true_eq] at hP
    refine Ev.eq fun k=>?_
    simp only [fastiref15_vars.l1]
    rw [if_pos (by omega),if_pos (by omega),if_pos (by omega),if_pos (by omega),if_pos (by omega),if_pos hP]
  · intro _
    have hw:=w64s i (by omega)
    refine Ev.step (f:=fun k=>fastiref15_vars.l0 k l n (wrap64 ((i:Int)+1))) (fun k=>?_) (by rw [hw];exact h)
    simp only [fastiref15_vars.l1]
    rw [if_neg (by omega)]
theorem vars_ref (l:List Int) (n:Int) (hl:l.length≤4096):Ev (fun k=>fastiref15_vars.f k l n) (decide (0 < l.length) && varsB l n):=by
  have:=dc (fun k i=>fastiref15_vars.l0 k l n (i:Int)) (varB l n) l.length (decide (0 < l.length)) false ?_ ?_ ?_
  · have e:(decide (0 < l.length) && varsB l n)=if (List.range l.length).all (varB l n) then decide (0 < l.length) else false:=by
      unfold varsB
      cases (List.range l.length).all (varB l n)
      · rw [Bool.and_false];rfl
      · rw [Bool.and_true];rfl
    rw [e]
    exact this
  · intro i hi hP r h'
    simp only [varB,Bool.and_eq_true,decide_eq_true_eq,Bool.not_eq_true'] at hP
    obtain ⟨⟨h1,h2⟩,h3⟩:=hP
    refine Ev.step (f:=fun k=>fastiref15_vars.j1 k l n (i:Int) false) (fun k=>?_) (Ev.step (f:=fun k=>fastiref15_vars.l1 k l n (i:Int) 0) (fun k=>rfl) ?_)
    · simp only [fastiref15_vars.l0]
      rw [if_pos (by omega),if_pos (by omega),if_neg (by omega),decide_eq_false (by omega)]
    · have:=vars_l1 l n i hi hl r h'
      rw [h3] at this
      exact this
  · intro i hi hP
    by_cases h1:rd l (i:Int) < 0
    · refine Ev.step (f:=fun k=>fastiref15_vars.j1 k l n (i:Int) true) (fun k=>?_) (Ev.eq fun k=>rfl)
      simp only [fastiref15_vars.l0]
      rw [if_pos (by omega),if_pos (by omega),if_pos h1]
    · by_cases h2:rd l (i:Int) ≥ n
      · refine Ev.step (f:=fun k=>fastiref15_vars.j1 k l n (i:Int) true) (fun k=>?_) (Ev.eq fun k=>rfl)
        simp only [fastiref15_vars.l0]
        rw [if_pos (by omega),if_pos (by omega),if_neg h1,decide_eq_true h2]
      · simp only [varB,decide_eq_true (show 0≤rd l (i:Int) by omega),decide_eq_true (show rd l (i:Int) < n by omega),Bool.true_and,Bool.not_eq_false'] at hP
        refine Ev.step (f:=fun k=>fastiref15_vars.j1 k l n (i:Int) false) (fun k=>?_) (Ev.step (f:=fun k=>fastiref15_vars.l1 k l n (i:Int) 0) (fun k=>rfl) ?_)
        · simp only [fastiref15_vars.l0]
          rw [if_pos (by omega),if_pos (by omega),if_neg h1,decide_eq_false h2]
        · have:=dc (fun k j=>fastiref15_vars.l1 k l n (i:Int) (j:Int)) (fun j=>!decide (rd l (j:Int)=rd l (i:Int))) i false false ?_ ?_ ?_
          · rw [ite_self] at this
            exact this
          · intro j hj hP r' h'
            have hw:=w64s j (by omega)
            rw [Bool.not_eq_true',decide_eq_false_iff_not] at hP
            refine Ev.step (f:=fun k=>fastiref15_vars.l1 k l n (i:Int) (wrap64 ((j:Int)+1))) (fun k=>?_) (by rw [hw];exact h')
            simp only [fastiref15_vars.l1]
            rw [if_pos (by omega),if_pos (by omega),if_pos (by omega),if_pos (by omega),if_pos (by omega),if_neg hP]
          · intro j hj hP
            rw [Bool.not_eq_false',decide_eq_true_eq] at hP
            refine Ev.eq fun k=>?_
            simp only [fastiref15_vars.l1]
            rw [if_pos (by omega),if_pos (by omega),if_pos (by omega),if_pos (by omega),if_pos (by omega),if_pos hP]
          · intro hall
            exfalso
            obtain ⟨x,hx,he⟩:=List.any_eq_true.1 hP
            obtain ⟨j,hj,rfl⟩:=List.mem_iff_getElem.1 hx
            simp only [List.length_take] at hj
            have:=hall j (by omega)
            rw [Bool.not_eq_true',decide_eq_false_iff_not,ks (by omega)] at this
            rw [List.getElem_take] at he
            exact this (of_decide_eq_true he).symm
  · intro _
    refine Ev.eq fun k=>?_
    simp only [fastiref15_vars.l0]
    rw [if_neg (by omega)]
    exact congrArg some (decide_eq_decide.2 (by omega))
theorem rule_ref (r:S49) (n:Int) (h2:r.f2.length≤12) (h3:r.f3.length≤256):Ev (fun k=>fastiref15_rule.f k r.f0 r.f1 r.f2 r.f3 n) (validB r n):=by
  unfold fastiref15_rule.f
  by_cases hv:(decide (0 < r.f2.length) && varsB r.f2 n)=true
  · have H:=vars_ref r.f2 n (by omega)
    rw [hv] at H
    have hv':=hv
    simp only [Bool.and_eq_true,decide_eq_true_eq] at hv'
    refine Ev.bind1 (f:=fun k t=>if t=true then (if r.f0=1 then (fastiref15_rule.l0 k 0 r.f0 r.f1 r.f2 r.f3) else (if r.f0=2 then (fastiref15_rule.j1 k r.f0 (r.f0 == 2) r.f0 r.f1 r.f2 r.f3) else (fastiref15_rule.j1 k r.f0 (r.f0 == 4) r.f0 r.f1 r.f2 r.f3))) else (some false)) H ?_
    simp only [if_pos]
    unfold validB
    rw [if_neg (by omega),hv'.2]
    by_cases k1:r.f0=1
    · rw [if_neg (by omega),if_neg (by simp),if_neg (by omega),if_neg (by omega)]
      simp only [k1,if_true]
      have:=dc (fun k i=>fastiref15_rule.l0 k (i:Int) 1 r.f1 r.f2 r.f3) (fun i=>decide ((r.f3.getD i []).length=r.f2.length)) r.f3.length (decide (r.f1=0)) false ?_ ?_ ?_
      · rw [dN r.f3 [] (fun row=>decide (row.length=r.f2.length))] at this
        have e:(decide (r.f1=0) && !(r.f3.any fun row=>decide (row.length ≠ r.f2.length)))=if r.f3.all (fun row=>decide (row.length=r.f2.length)) then decide (r.f1=0) else false:=by
          rw [List.not_any_eq_all_not]
          have:(fun row:List Int=>!decide (row.length ≠ r.f2.length))=fun row=>decide (row.length=r.f2.length):=by
            funext row
            rw [← decide_not]
            exact decide_eq_decide.2 (by omega)
          rw [this]
          cases r.f3.all (fun row=>decide (row.length=r.f2.length))
          · rw [Bool.and_false];rfl
          · rw [Bool.and_true];rfl
        rw [e]
        exact this
      · intro i hi hP r' h'
        have hw:=w64s i (by omega)
        have hP:=of_decide_eq_true hP
        refine Ev.step (f:=fun k=>fastiref15_rule.l0 k (wrap64 ((i:Int)+1)) 1 r.f1 r.f2 r.f3) (fun k=>?_) (by rw [hw];exact h')
        simp only [fastiref15_rule.l0]
        rw [if_pos (by omega),if_pos (by omega),L1n,if_pos (by omega)]
      · intro i hi hP
        have hP:=of_decide_eq_false hP
        refine Ev.eq fun k=>?_
        simp only [fastiref15_rule.l0]
        rw [if_pos (by omega),if_pos (by omega),L1n,if_neg (by omega)]
      · intro _
        refine Ev.eq fun k=>?_
        simp only [fastiref15_rule.l0]
        rw [if_neg (by omega)]
        rfl
    · simp only [if_neg k1]
      by_cases k2:r.f0=2∨r.f0=4
      · have e:(fun k=>if r.f0=2 then fastiref15_rule.j1 k r.f0 (r.f0 == 2) r.f0 r.f1 r.f2 r.f3 else fastiref15_rule.j1 k r.f0 (r.f0 == 4) r.f0 r.f1 r.f2 r.f3)=fun k=>fastiref15_rule.j1 k r.f0 true r.f0 r.f1 r.f2 r.f3:=by
          funext k
          rcases k2 with h|h
          · rw [if_pos h,h];rfl
          · rw [if_neg (by omega),h];rfl
        rw [e,if_neg (by omega),if_neg (by simp),if_neg (by omega)]
        refine Ev.eq fun k=>?_
        simp only [fastiref15_rule.j1,if_true]
        by_cases k3:0 < r.f3.length
        · rw [if_pos (show r.f0 ≠ 1∧0 < r.f3.length from ⟨k1,k3⟩)]
          have:((r.f3.length:Int) == 0)=false:=beq_eq_false_iff_ne.2 (by omega)
          rw [this]
          split <;> rfl
        · rw [if_neg (show ¬ (r.f0 ≠ 1∧0 < r.f3.length) from fun h=>k3 h.2)]
          have hnil:r.f3=[]:=List.eq_nil_of_length_eq_zero (by omega)
          rw [hnil]
          by_cases k4:r.f1=0
          · rw [if_pos k4,decide_eq_true k4];rfl
          · rw [if_neg k4,decide_eq_false k4];rfl
      · have e:(fun k=>if r.f0=2 then fastiref15_rule.j1 k r.f0 (r.f0 == 2) r.f0 r.f1 r.f2 r.f3 else fastiref15_rule.j1 k r.f0 (r.f0 == 4) r.f0 r.f1 r.f2 r.f3)=fun k=>fastiref15_rule.j1 k r.f0 false r.f0 r.f1 r.f2 r.f3:=by
          funext k
          rw [if_neg (fun h=>k2 (.inl h)),beq_eq_false_iff_ne.2 (fun h=>k2 (.inr h))]
        rw [e]
        refine Ev.eq fun k=>?_
        simp only [fastiref15_rule.j1,Bool.false_eq_true,if_false]
        by_cases k3:r.f0=3
        · rw [if_pos k3,if_neg (show ¬ ¬ (1≤r.f0∧r.f0≤4) by omega),if_neg (show ¬ (true=false) by simp),if_pos k3]
          have hz:((r.f3.length:Int) == 0)=decide (r.f3.length=0):=by
            rw [Bool.eq_iff_iff,beq_iff_eq,decide_eq_true_eq]
            omega
          rw [hz]
          by_cases k4:r.f1 ≥ 1
          · rw [if_pos k4,decide_eq_true (show 1≤r.f1 from k4)]
            by_cases k5:r.f1≤73048
            · rw [if_pos k5,decide_eq_true k5];rfl
            · rw [if_neg k5,decide_eq_false k5];rfl
          · rw [if_neg k4,decide_eq_false (show ¬ 1≤r.f1 from k4)];rfl
        · rw [if_neg k3,if_pos (show ¬ (1≤r.f0∧r.f0≤4) by omega)]
  · have H:=vars_ref r.f2 n (by omega)
    rw [Bool.not_eq_true] at hv
    rw [hv] at H
    refine Ev.bind1 (f:=fun k t=>if t=true then (if r.f0=1 then (fastiref15_rule.l0 k 0 r.f0 r.f1 r.f2 r.f3) else (if r.f0=2 then (fastiref15_rule.j1 k r.f0 (r.f0 == 2) r.f0 r.f1 r.f2 r.f3) else (fastiref15_rule.j1 k r.f0 (r.f0 == 4) r.f0 r.f1 r.f2 r.f3))) else (some false)) H ?_
    simp only [Bool.false_eq_true,if_false]
    have e:validB r n=false:=by
      unfold validB
      by_cases h0:r.f2.length=0
      · rw [if_pos h0]
      · rw [decide_eq_true (show 0 < r.f2.length by omega),Bool.true_and] at hv
        rw [if_neg h0,hv]
        split
        · rfl
        · rw [if_pos rfl]
    rw [e]
    exact Ev.now _
def dJ:M→Int→Int
  | [],n=>n
  | d :: ds,n=>if n≤65536 then dJ ds (n * (d.length:Int)) else n
theorem tries_ref (ds:M) (rs:List S49) (hs:∀ d ∈ ds,d.length≤16) (hl:ds.length≤100):Ev (fun k=>fastiref15_Tries.f k ds rs) (dJ ds 1):=by
  unfold fastiref15_Tries.f
  have H:∀ m i:Nat,i+m=ds.length→∀ n:Int,0≤n→n≤1048576→Ev (fun k=>fastiref15_Tries.l0 k n (i:Int) ds rs) (dJ (ds.drop i) n):=by
    intro m
    induction m with
    | zero =>
      intro i hi n h0 h1
      rw [List.drop_of_length_le (by omega)]
      refine Ev.eq fun k=>?_
      simp only [fastiref15_Tries.l0]
      rw [if_neg (by omega)]
      rfl
    | succ m ih =>
      intro i hi n h0 h1
      rw [fF (by omega:i < ds.length),dJ]
      by_cases hn:n≤65536
      · have hd:=hs _ (List.getElem_mem (by omega:i < ds.length))
        have hmul:0≤n * ((ds[i]'(by omega)).length:Int)∧n * ((ds[i]'(by omega)).length:Int)≤1048576:=by
          constructor
          · exact Int.mul_nonneg h0 (by omega)
          · have:=Int.mul_le_mul hn (show ((ds[i]'(by omega)).length:Int)≤16 by omega) (by omega) (by omega)
            omega
        have hw:=w64s i (by omega)
        have hw2:wrap64 (n * ((ao ds (i:Int)).length:Int))=n * ((ds[i]'(by omega)).length:Int):=by
          rw [L1n,cQ (by omega)]
          exact w64 (by omega) (by omega)
        rw [if_pos hn]
        refine Ev.step (f:=fun k=>fastiref15_Tries.l0 k (n * ((ds[i]'(by omega)).length:Int)) ((i+1:Nat):Int) ds rs) (fun k=>?_) (ih (i+1) (by omega) _ hmul.1 hmul.2)
        simp only [fastiref15_Tries.l0]
        rw [if_pos (by omega),if_pos hn,if_pos (by omega),hw,hw2]
      · rw [if_neg hn]
        refine Ev.eq fun k=>?_
        simp only [fastiref15_Tries.l0]
        rw [if_pos (by omega),if_neg hn]
  exact H ds.length 0 (by omega) 1 (by omega) (by omega)
theorem shortF {ds:M} {rs:List S49} (h:longB ds rs=false):ds.length≤12∧rs.length≤64∧(∀ d ∈ ds,d.length≤16)∧∀ r ∈ rs,r.f2.length≤12∧r.f3.length≤256∧∀ row ∈ r.f3,row.length≤12:=by
  unfold longB at h
  simp only [Bool.or_eq_false_iff,decide_eq_false_iff_not,List.any_eq_false,decide_eq_true_eq] at h
  obtain ⟨⟨⟨h1,h2⟩,h3⟩,h4⟩:=h
  refine ⟨by omega,by omega,fun d hd=>by have:=h3 d hd;omega,fun r hr=>?_⟩
  have:=h4 r hr
  rw [Bool.not_eq_true] at this
  unfold fj at this
  simp only [Bool.or_eq_false_iff,decide_eq_false_iff_not,List.any_eq_false,decide_eq_true_eq] at this
  exact ⟨by omega,by omega,fun row hrow=>by have:=this.2 row hrow;omega⟩
theorem few_ref (ds:M) (rs:List S49):∃ b,Ev (fun k=>fastiref15_Few.f k ds rs) b:=by
  unfold fastiref15_Few.f
  have H:=short_ref ds rs
  cases hs:longB ds rs
  · rw [hs] at H
    obtain ⟨h1,h2,h3,h4⟩:=shortF hs
    by_cases h8:(rs.length:Int) > 8
    · refine ⟨false,Ev.bind1 (f:=fun k t=>if t=true then (if (rs.length:Int) > 8 then (some false) else (fastiref15_Few.l0 k 0 ds rs)) else (if (ds.length:Int)≤100 then (some (decide ((rs.length:Int)≤100))) else (some false))) H ?_⟩
      simp only [Bool.not_false,if_true,if_pos h8]
      exact Ev.now _
    · refine ⟨if (List.range rs.length).all (fun i=>decide ((rs.getD i z49).f3.length≤20)) then (if dJ ds 1≤256 then true else decide (dJ ds 1 > 65536)) else false,Ev.bind1 (f:=fun k t=>if t=true then (if (rs.length:Int) > 8 then (some false) else (fastiref15_Few.l0 k 0 ds rs)) else (if (ds.length:Int)≤100 then (some (decide ((rs.length:Int)≤100))) else (some false))) H ?_⟩
      simp only [Bool.not_false,if_true,if_neg h8]
      refine dc (fun k i=>fastiref15_Few.l0 k (i:Int) ds rs) (fun i=>decide ((rs.getD i z49).f3.length≤20)) rs.length _ false ?_ ?_ ?_
      · intro i hi hP r' h'
        have hw:=w64s i (by omega)
        have hP:=of_decide_eq_true hP
        refine Ev.step (f:=fun k=>fastiref15_Few.l0 k (wrap64 ((i:Int)+1)) ds rs) (fun k=>?_) (by rw [hw];exact h')
        simp only [fastiref15_Few.l0]
        rw [if_pos (by omega),if_pos (by omega),T49n,if_neg (by omega)]
      · intro i hi hP
        have hP:=of_decide_eq_false hP
        refine Ev.eq fun k=>?_
        simp only [fastiref15_Few.l0]
        rw [if_pos (by omega),if_pos (by omega),T49n,if_pos (by omega)]
      · intro _
        have T:=tries_ref ds rs h3 (by omega)
        refine Ev.step (f:=fun k=>(fastiref15_Tries.f k ds rs).bind fun t317=>if t317≤256 then some true else (fastiref15_Tries.f k ds rs).bind fun t318=>some (decide (t318 > 65536))) (fun k=>?_) ?_
        · simp only [fastiref15_Few.l0]
          rw [if_neg (by omega)]
        · refine Ev.bind1 (f:=fun k t317=>if t317≤256 then some true else (fastiref15_Tries.f k ds rs).bind fun t318=>some (decide (t318 > 65536))) T ?_
          by_cases hq:dJ ds 1≤256
          · simp only [if_pos hq]
            exact Ev.now _
          · simp only [if_neg hq]
            exact Ev.bind1 (f:=fun k t318=>some (decide (t318 > 65536))) T (Ev.now _)
  · rw [hs] at H
    refine ⟨if (ds.length:Int)≤100 then decide ((rs.length:Int)≤100) else false,Ev.bind1 (f:=fun k t=>if t=true then (if (rs.length:Int) > 8 then (some false) else (fastiref15_Few.l0 k 0 ds rs)) else (if (ds.length:Int)≤100 then (some (decide ((rs.length:Int)≤100))) else (some false))) H ?_⟩
    simp only [Bool.not_true,Bool.false_eq_true,if_false]
    by_cases h:(ds.length:Int)≤100
    · simp only [if_pos h];exact Ev.now _
    · simp only [if_neg h];exact Ev.now _
def chk (ds:M) (rs:List S49):Int:=if longB ds rs then 2 else if ds.length=0 then 150 else if ds.all jC then (if rs.all (fun r=>validB r (ds.length:Int)) then (if dJ ds 1 > 65536 then 2 else 0) else 150) else 150
theorem check_ref (ds:M) (rs:List S49):Ev (fun k=>fastiref15_Check.f k ds rs) (chk ds rs):=by
  unfold fastiref15_Check.f chk
  have H:=short_ref ds rs
  cases hs:longB ds rs
  · rw [hs] at H
    obtain ⟨h1,h2,h3,h4⟩:=shortF hs
    refine Ev.bind1 (f:=fun k t=>if t=true then (if (ds.length:Int)=0 then (some 150) else (fastiref15_Check.l0 k 0 ds rs)) else (some 2)) H ?_
    simp only [Bool.not_false,if_true,Bool.false_eq_true,if_false]
    by_cases h0:ds.length=0
    · simp only [h0,if_true]
      exact Ev.now _
    · simp only [if_neg h0,if_neg (show ¬ ((ds.length:Int)=0) by omega)]
      have:=dc (fun k i=>fastiref15_Check.l0 k (i:Int) ds rs) (fun i=>jC (ds.getD i [])) ds.length (if rs.all (fun r=>validB r (ds.length:Int)) then (if dJ ds 1 > 65536 then 2 else 0) else 150) (150:Int) ?_ ?_ ?_
      · rw [dN ds [] jC] at this
        exact this
      · intro i hi hP r' h'
        have hw:=w64s i (by omega)
        have hd:=h3 _ (List.getElem_mem hi)
        have D:=domain_ref (ds.getD i []) (by rw [cQ hi];omega)
        rw [hP] at D
        refine Ev.step (f:=fun k=>(fastiref15_domain.f k (ds.getD i [])).bind fun t=>if t=true then (fastiref15_Check.l0 k (wrap64 ((i:Int)+1)) ds rs) else (some 150)) (fun k=>?_) (Ev.bind1 (f:=fun k t=>if t=true then (fastiref15_Check.l0 k (wrap64 ((i:Int)+1)) ds rs) else (some 150)) D ?_)
        · simp only [fastiref15_Check.l0]
          rw [if_pos (by omega),if_pos (by omega),L1n]
        · simp only [if_true,hw]
          exact h'
      · intro i hi hP
        have hd:=h3 _ (List.getElem_mem hi)
        have D:=domain_ref (ds.getD i []) (by rw [cQ hi];omega)
        rw [hP] at D
        refine Ev.step (f:=fun k=>(fastiref15_domain.f k (ds.getD i [])).bind fun t=>if t=true then (fastiref15_Check.l0 k (wrap64 ((i:Int)+1)) ds rs) else (some 150)) (fun k=>?_) (Ev.bind1 (f:=fun k t=>if t=true then (fastiref15_Check.l0 k (wrap64 ((i:Int)+1)) ds rs) else (some 150)) D ?_)
        · simp only [fastiref15_Check.l0]
          rw [if_pos (by omega),if_pos (by omega),L1n]
        · simp only [Bool.false_eq_true,if_false]
          exact Ev.now _
      · intro _
        refine Ev.step (f:=fun k=>fastiref15_Check.l1 k 0 ds rs) (fun k=>?_) ?_
        · simp only [fastiref15_Check.l0]
          rw [if_neg (by omega)]
        · have:=dc (fun k i=>fastiref15_Check.l1 k (i:Int) ds rs) (fun i=>validB (rs.getD i z49) (ds.length:Int)) rs.length (if dJ ds 1 > 65536 then 2 else 0) (150:Int) ?_ ?_ ?_
          · rw [dN rs z49 (fun r=>validB r (ds.length:Int))] at this
            exact this
          · intro i hi hP r' h'
            have hw:=w64s i (by omega)
            have hd:=h4 _ (List.getElem_mem hi)
            have D:=rule_ref (rs.getD i z49) (ds.length:Int) (by rw [cQ hi];exact hd.1) (by rw [cQ hi];exact hd.2.1)
            rw [hP] at D
            refine Ev.step (f:=fun k=>(fastiref15_rule.f k (rs.getD i z49).f0 (rs.getD i z49).f1 (rs.getD i z49).f2 (rs.getD i z49).f3 (ds.length:Int)).bind fun t=>if t=true then (fastiref15_Check.l1 k (wrap64 ((i:Int)+1)) ds rs) else (some 150)) (fun k=>?_) (Ev.bind1 (f:=fun k t=>if t=true then (fastiref15_Check.l1 k (wrap64 ((i:Int)+1)) ds rs) else (some 150)) D ?_)
            · simp only [fastiref15_Check.l1]
              rw [if_pos (by omega),if_pos (by omega),T49n]
            · simp only [if_true,hw]
              exact h'
          · intro i hi hP
            have hd:=h4 _ (List.getElem_mem hi)
            have D:=rule_ref (rs.getD i z49) (ds.length:Int) (by rw [cQ hi];exact hd.1) (by rw [cQ hi];exact hd.2.1)
            rw [hP] at D
            refine Ev.step (f:=fun k=>(fastiref15_rule.f k (rs.getD i z49).f0 (rs.getD i z49).f1 (rs.getD i z49).f2 (rs.getD i z49).f3 (ds.length:Int)).bind fun t=>if t=true then (fastiref15_Check.l1 k (wrap64 ((i:Int)+1)) ds rs) else (some 150)) (fun k=>?_) (Ev.bind1 (f:=fun k t=>if t=true then (fastiref15_Check.l1 k (wrap64 ((i:Int)+1)) ds rs) else (some 150)) D ?_)
            · simp only [fastiref15_Check.l1]
              rw [if_pos (by omega),if_pos (by omega),T49n]
            · simp only [Bool.false_eq_true,if_false]
              exact Ev.now _
          · intro _
            have T:=tries_ref ds rs h3 (by omega)
            refine Ev.step (f:=fun k=>(fastiref15_Tries.f k ds rs).bind fun t=>if t > 65536 then some 2 else some 0) (fun k=>?_) (Ev.bind1 (f:=fun k t=>if t > 65536 then some 2 else some 0) T ?_)
            · simp only [fastiref15_Check.l1]
              rw [if_neg (by omega)]
            · by_cases hq:dJ ds 1 > 65536
              · simp only [if_pos hq];exact Ev.now _
              · simp only [if_neg hq];exact Ev.now _
  · rw [hs] at H
    refine Ev.bind1 (f:=fun k t=>if t=true then (if (ds.length:Int)=0 then (some 150) else (fastiref15_Check.l0 k 0 ds rs)) else (some 2)) H ?_
    simp only [Bool.not_true,Bool.false_eq_true,if_false]
    exact Ev.now _
end Go.Proofs.Ytcbpkdemcdikaaa.QC
namespace Go.Proofs.Ytcbpkdemcdikaaa.QP
open Go.RowKit Go.Proofs.Ytcbpkdemcdikaaa.X Go.Proofs.Ytcbpkdemcdikaaa.X.SF Go.Proofs.Ytcbpkdemcdikaaa.X.DF Go.Proofs.Ytcbpkdemcdikaaa.K Go.Proofs.YtcbpkdemcdikaaaW.PrintWords Go.Proofs.Ytcbpkdemcdikaaa.QB Go.Proofs.Ytcbpkdemcdikaaa.QC
set_option linter.unusedVariables false
set_option linter.unusedSimpArgs false
theorem dom_pos {l:List Int} (h:jC l=true):0 < l.length:=by
  unfold jC at h
  simp only [Bool.and_eq_true,decide_eq_true_eq] at h
  exact h.1
theorem jT {l:List Int} (h:jC l=true) {i:Nat} (hi:i < l.length):jK l i=true:=by
  unfold jC at h
  simp only [Bool.and_eq_true,List.all_eq_true,List.mem_range] at h
  exact h.2 i hi
theorem chain {l:List Int} (h:∀ i,i+1 < l.length→rd l (i:Int) < rd l ((i+1:Nat):Int)):∀ m i,i+m < l.length→rd l (i:Int)≤rd l ((i+m:Nat):Int):=by
  intro m
  induction m with
  | zero=>intro i _;exact Int.le_refl _
  | succ m ih =>
    intro i hi
    have a:=ih i (by omega)
    have b:=h (i+m) (by omega)
    exact Int.le_trans a (Int.le_of_lt b)
theorem dom_of {l:List Int} (h0:0 < l.length) (h1:0≤rd l 0) (h2:rd l ((l.length - 1:Nat):Int)≤73048) (h:∀ i,i+1 < l.length→rd l (i:Int) < rd l ((i+1:Nat):Int)):jC l=true:=by
  unfold jC
  rw [decide_eq_true h0,Bool.true_and,List.all_eq_true]
  intro i hi
  have hi:=List.mem_range.1 hi
  have a:=chain h i 0 (by omega)
  have b:=chain h (l.length - 1 - i) i (by omega)
  rw [show 0+i=i by omega] at a
  rw [show i+(l.length - 1 - i)=l.length - 1 by omega] at b
  have a':rd l 0≤rd l (i:Int):=a
  simp only [jK,Bool.and_eq_true,Bool.or_eq_true,decide_eq_true_eq]
  refine ⟨⟨by omega,by omega⟩,?_⟩
  by_cases hz:i=0
  · exact .inl hz
  · have:=h (i - 1) (by omega)
    rw [show i - 1+1=i by omega] at this
    exact .inr this
theorem iE {l:List Int} (h:jC l=true) {v:Int} (hv:v ∈ l):0≤v∧v≤73048:=by
  obtain ⟨i,hi,rfl⟩:=List.mem_iff_getElem.1 hv
  have:=jT h hi
  simp only [jK,Bool.and_eq_true,Bool.or_eq_true,decide_eq_true_eq,ks hi] at this
  exact this.1
theorem w64q (j:Nat) (h:j < 4611686018427387904):wrap64 (((j+1:Nat):Int) - 1)=(j:Int):=by unfold wrap64;omega
def capF:M→Int→Int
  | [],n=>n
  | d :: ds,n=>capF ds (mn (n * (d.length:Int)) 65537)
theorem cap_full:∀ (ds:M),(∀ d ∈ ds,0 < d.length)→capF ds 65537=65537
  | [],_=>rfl
  | d :: ds,h=>by
    have hd:=h d (by simp)
    have h2:(65537:Int)≤65537 * (d.length:Int):=by
      have:=Int.mul_le_mul_of_nonneg_left (show (1:Int)≤(d.length:Int) by omega) (show (0:Int)≤65537 by omega)
      omega
    have:mn (65537 * (d.length:Int)) 65537=65537:=by unfold mn;split <;> omega
    rw [capF,this]
    exact cap_full ds fun d hd=>h d (by simp [hd])
theorem cap_tries:∀ (ds:M) (n:Int),(∀ d ∈ ds,0 < d.length)→1≤n→n≤65536→(capF ds n > 65536 ↔ dJ ds n > 65536)
  | [],n,_,_,_=>Iff.rfl
  | d :: ds,n,h,h1,h2=>by
    have hd:=h d (by simp)
    have hs:∀ d ∈ ds,0 < d.length:=fun d hd=>h d (by simp [hd])
    have hp:n≤n * (d.length:Int):=by
      have:=Int.mul_le_mul_of_nonneg_left (show (1:Int)≤(d.length:Int) by omega) (show (0:Int)≤n by omega)
      omega
    rw [capF,dJ,if_pos h2]
    by_cases hb:n * (d.length:Int)≤65536
    · have:mn (n * (d.length:Int)) 65537=n * (d.length:Int):=by unfold mn;split <;> omega
      rw [this]
      exact cap_tries ds _ hs (by omega) hb
    · have:mn (n * (d.length:Int)) 65537=65537:=by unfold mn;split <;> omega
      rw [this,cap_full ds hs]
      have ht:dJ ds (n * (d.length:Int))=n * (d.length:Int):=by
        cases ds with
        | nil=>rfl
        | cons e es=>rw [dJ,if_neg hb]
      rw [ht]
      omega
theorem check_l0 (ds:M) (rs:List S49) (hs:∀ d ∈ ds,d.length≤16) (hl:ds.length≤12):∀ (m i:Nat) (a:Int) (r:Int),i+m=ds.length→1≤a→a≤65537 →
    ((∀ d ∈ ds.drop i,jC d=true)→Ev (fun k=>search_Check.l2 k (capF (ds.drop i) a) rs (rs.length:Int) 0 ds rs) r)→Ev (fun k=>search_Check.l0 k a ds (ds.length:Int) (i:Int) ds rs) (if (ds.drop i).all jC then r else 150):=by
  intro m
  induction m with
  | zero =>
    intro i a r hi h1 h2 h
    rw [List.drop_of_length_le (by omega)] at h ⊢
    refine Ev.step (f:=fun k=>search_Check.l2 k a rs (rs.length:Int) 0 ds rs) (fun k=>?_) (h (by simp))
    simp only [search_Check.l0]
    rw [if_neg (by omega)]
  | succ m ih =>
    intro i a r hi h1 h2 h
    have hil:i < ds.length:=by omega
    have hd:=hs _ (List.getElem_mem hil)
    rw [fF hil] at h ⊢
    rw [List.all_cons]
    obtain ⟨d,he⟩ : ∃ d,ds[i]=d:=⟨_,rfl⟩
    have hg:ao ds (i:Int)=d:=by rw [L1n,cQ hil,he]
    rw [he] at hd h ⊢
    have no:jC d=false→(if (jC d && (ds.drop (i+1)).all jC)=true then r else 150)=150:=fun h=>by rw [h];rfl
    by_cases k0:d.length=0
    · rw [no (by unfold jC;rw [decide_eq_false (by omega)];rfl)]
      refine Ev.step (f:=fun k=>search_Check.j1 k a d ds (ds.length:Int) (i:Int) true ds rs) (fun k=>?_) (Ev.eq fun k=>rfl)
      simp only [search_Check.l0,hg]
      rw [if_pos (by omega),if_pos (by omega),if_pos (by omega),if_pos (by omega)]
    · by_cases k1:rd d 0 < 0
      · rw [no (by
          cases hb:jC d with
          | false=>rfl
          | true =>
            have:=jT hb (show 0 < d.length by omega)
            simp only [jK,Bool.and_eq_true,decide_eq_true_eq] at this
            have:=this.1.1
            exact absurd this (by show ¬ 0≤rd d 0;omega))]
        refine Ev.step (f:=fun k=>search_Check.j1 k a d ds (ds.length:Int) (i:Int) true ds rs) (fun k=>?_) (Ev.eq fun k=>rfl)
        simp only [search_Check.l0,hg]
        rw [if_pos (by omega),if_pos (by omega),if_pos (by omega),if_neg (by omega),if_pos (by omega),if_pos k1]
      · have hp:=w64p d.length (by omega) (by omega)
        by_cases k2:rd d ((d.length - 1:Nat):Int) > 73048
        · rw [no (by
            cases hb:jC d with
            | false=>rfl
            | true =>
              have:=jT hb (show d.length - 1 < d.length by omega)
              simp only [jK,Bool.and_eq_true,decide_eq_true_eq] at this
              omega)]
          refine Ev.step (f:=fun k=>search_Check.j1 k a d ds (ds.length:Int) (i:Int) true ds rs) (fun k=>?_) (Ev.eq fun k=>rfl)
          simp only [search_Check.l0,hg,hp]
          rw [if_pos (by omega),if_pos (by omega),if_pos (by omega),if_neg (by omega),if_pos (by omega),if_neg k1,if_pos (by omega),if_pos (by omega),decide_eq_true k2]
        · refine Ev.step (f:=fun k=>search_Check.j1 k a d ds (ds.length:Int) (i:Int) false ds rs) (fun k=>?_) (Ev.step (f:=fun k=>search_Check.l1 k a d 1 ds (ds.length:Int) (i:Int) ds rs) (fun k=>rfl) ?_)
          · simp only [search_Check.l0,hg,hp]
            rw [if_pos (by omega),if_pos (by omega),if_pos (by omega),if_neg (by omega),if_pos (by omega),if_neg k1,if_pos (by omega),if_pos (by omega),decide_eq_false k2]
          · have L:=dc (fun k j=>search_Check.l1 k a d ((j+1:Nat):Int) ds (ds.length:Int) (i:Int) ds rs) (fun j=>decide (rd d (j:Int) < rd d ((j+1:Nat):Int))) (d.length - 1) (if (ds.drop (i+1)).all jC then r else 150) 150 ?_ ?_ ?_
            · have e:jC d=(List.range (d.length - 1)).all fun j=>decide (rd d (j:Int) < rd d ((j+1:Nat):Int)):=by
                rw [Bool.eq_iff_iff,List.all_eq_true]
                constructor
                · intro hb j hj
                  have hj:=List.mem_range.1 hj
                  have:=jT hb (show j+1 < d.length by omega)
                  simp only [jK,Bool.and_eq_true,Bool.or_eq_true,decide_eq_true_eq] at this
                  rw [show j+1 - 1=j by omega] at this
                  exact decide_eq_true (this.2.resolve_left (by omega))
                · intro ha
                  exact dom_of (by omega) (by omega) (by omega) fun j hj=>of_decide_eq_true (ha j (List.mem_range.2 (by omega)))
              rw [e]
              cases hb:(List.range (d.length - 1)).all fun j=>decide (rd d (j:Int) < rd d ((j+1:Nat):Int))
              · rw [hb] at L
                exact L
              · rw [hb] at L
                rw [Bool.true_and]
                exact L
            · intro j hj hP r' h'
              have hP:=of_decide_eq_true hP
              clear hp
              have g1:((j+1:Nat):Int) < (d.length:Int):=by omega
              have g2:(0:Int)≤(j:Int):=by omega
              have g3:(j:Int) < (d.length:Int):=by omega
              have g4:(0:Int)≤((j+1:Nat):Int):=by omega
              have g5:¬ rd d (j:Int) ≥ rd d ((j+1:Nat):Int):=by omega
              have g6:j < 4611686018427387904:=by omega
              have g7:j+1 < 4611686018427387904:=by omega
              refine Ev.step (f:=fun k=>search_Check.l1 k a d (wrap64 (((j+1:Nat):Int)+1)) ds (ds.length:Int) (i:Int) ds rs) (fun k=>?_) (by rw [w64s (j+1) g7];exact h')
              simp only [search_Check.l1,w64q j g6]
              rw [if_pos g1,if_pos g2,if_pos g3,if_pos g4,if_neg g5]
            · intro j hj hP
              have hP:=of_decide_eq_false hP
              clear hp
              have g1:((j+1:Nat):Int) < (d.length:Int):=by omega
              have g2:(0:Int)≤(j:Int):=by omega
              have g3:(j:Int) < (d.length:Int):=by omega
              have g4:(0:Int)≤((j+1:Nat):Int):=by omega
              have g5:rd d (j:Int) ≥ rd d ((j+1:Nat):Int):=by omega
              have g6:j < 4611686018427387904:=by omega
              refine Ev.eq fun k=>?_
              simp only [search_Check.l1,w64q j g6]
              rw [if_pos g1,if_pos g2,if_pos g3,if_pos g4,if_pos g5]
            · intro hall
              clear hp
              have hdb:jC d=true:=dom_of (by omega) (by omega) (by omega) fun j hj=>of_decide_eq_true (hall j (by omega))
              have hw:=w64s i (by omega)
              have hm1:a≤a * (d.length:Int):=by
                have:=Int.mul_le_mul_of_nonneg_left (show (1:Int)≤(d.length:Int) by omega) (show (0:Int)≤a by omega)
                omega
              have hm2:a * (d.length:Int)≤65537 * 16:=Int.mul_le_mul h2 (by omega) (by omega) (by omega)
              have hwm:wrap64 (a * (d.length:Int))=a * (d.length:Int):=w64 (by omega) (by omega)
              refine Ev.step (f:=fun k=>search_Check.l0 k (mn (a * (d.length:Int)) 65537) ds (ds.length:Int) ((i+1:Nat):Int) ds rs) (fun k=>?_) (ih (i+1) _ r (by omega) (by unfold mn;split <;> omega) (by unfold mn;split <;> omega) fun hd'=>h fun x hx=>?_)
              · simp only [search_Check.l1]
                rw [if_neg (by omega),hwm,hw]
              · rcases List.mem_cons.1 hx with rfl|hx
                · exact hdb
                · exact hd' x hx
theorem check_prog (ds:M) (rs:List S49):Ev (fun k=>search_Check.f k ds rs) (chk ds rs):=by
  unfold search_Check.f chk
  cases hs:longB ds rs
  · obtain ⟨h1,h2,h3,h4⟩:=shortF hs
    by_cases h0:ds.length=0
    · refine Ev.all fun k=>?_
      simp only [search_long.f,hs,Option.bind_some,Bool.false_eq_true,if_false]
      rw [if_pos (by omega),if_pos h0]
    · refine Ev.congr (f:=fun k=>search_Check.l0 k 1 ds (ds.length:Int) 0 ds rs) (fun k=>?_) ?_
      · simp only [search_long.f,hs,Option.bind_some,Bool.false_eq_true,if_false]
        rw [if_neg (by omega)]
      · simp only [Bool.false_eq_true,if_false,if_neg h0]
        have:=check_l0 ds rs h3 (by omega) ds.length 0 1 (if rs.all (fun r=>validB r (ds.length:Int)) then (if dJ ds 1 > 65536 then 2 else 0) else 150) (by omega) (by omega) (by omega) fun hd=>?_
        · rw [List.drop_zero] at this
          exact this
        · rw [List.drop_zero] at hd ⊢
          have L:=dc (fun k i=>search_Check.l2 k (capF ds 1) rs (rs.length:Int) (i:Int) ds rs) (fun i=>validB (rs.getD i z49) (ds.length:Int)) rs.length (if dJ ds 1 > 65536 then 2 else 0) (150:Int) ?_ ?_ ?_
          · rw [dN rs z49 (fun r=>validB r (ds.length:Int))] at L
            exact L
          · intro i hi hP r' h'
            have hw:=w64s i (by omega)
            refine Ev.step (f:=fun k=>search_Check.l2 k (capF ds 1) rs (rs.length:Int) (wrap64 ((i:Int)+1)) ds rs) (fun k=>?_) (by rw [hw];exact h')
            simp only [search_Check.l2,search_valid.f,Option.bind_some]
            rw [if_pos (by omega),if_pos (by omega),if_pos (by omega),T49n]
            exact if_pos hP
          · intro i hi hP
            refine Ev.eq fun k=>?_
            simp only [search_Check.l2,search_valid.f,Option.bind_some]
            rw [if_pos (by omega),if_pos (by omega),if_pos (by omega),T49n]
            refine if_neg ?_
            rw [Bool.not_eq_true]
            exact hP
          · intro _
            refine Ev.eq fun k=>?_
            simp only [search_Check.l2]
            rw [if_neg (by omega)]
            have:=cap_tries ds 1 (fun d hd'=>dom_pos (hd d hd')) (by omega) (by omega)
            by_cases hq:dJ ds 1 > 65536
            · rw [if_pos hq,if_pos (this.2 hq)]
            · rw [if_neg hq,if_neg (fun h=>hq (this.1 h))]
  · refine Ev.all fun k=>?_
    simp only [search_long.f,hs,Option.bind_some,if_true]
structure Ok (ds:M) (rs:List S49):Prop where
  pos:0 < ds.length
  len:ds.length≤12
  rl:rs.length≤64
  dl:∀ d ∈ ds,d.length≤16
  rok:∀ r ∈ rs,r.f2.length≤12∧r.f3.length≤256
  dom:∀ d ∈ ds,jC d=true
  val:∀ r ∈ rs,validB r (ds.length:Int)=true
theorem kc {ds:M} {rs:List S49} (h:chk ds rs=0):Ok ds rs:=by
  unfold chk at h
  cases hs:longB ds rs
  · obtain ⟨h1,h2,h3,h4⟩:=shortF hs
    rw [hs] at h
    simp only [Bool.false_eq_true,if_false] at h
    by_cases h0:ds.length=0
    · rw [if_pos h0] at h;omega
    · rw [if_neg h0] at h
      by_cases hd:ds.all jC=true
      · rw [if_pos hd] at h
        by_cases hv:rs.all (fun r=>validB r (ds.length:Int))=true
        · exact ⟨by omega,h1,h2,h3,fun r hr=>⟨(h4 r hr).1,(h4 r hr).2.1⟩,List.all_eq_true.1 hd,List.all_eq_true.1 hv⟩
        · rw [if_neg hv] at h;omega
      · rw [if_neg hd] at h;omega
  · rw [hs] at h
    simp at h
theorem valid_ok {r:S49} {n:Int} (h:validB r n=true) (hl:r.f2.length≤12):okB r=true∧0 < r.f2.length∧1≤r.f0∧r.f0≤4∧(∀ k ∈ r.f2,0≤k∧k < n):=by
  unfold validB at h
  by_cases h0:r.f2.length=0
  · rw [if_pos h0] at h;cases h
  · rw [if_neg h0] at h
    by_cases h1:1≤r.f0∧r.f0≤4
    · rw [if_neg (fun hh=>hh h1)] at h
      cases hv:varsB r.f2 n
      · rw [hv,if_pos rfl] at h;cases h
      · have hk:∀ k ∈ r.f2,0≤k∧k < n:=by
          intro k hk
          obtain ⟨i,hi,rfl⟩:=List.mem_iff_getElem.1 hk
          have:=List.all_eq_true.1 hv i (List.mem_range.2 hi)
          simp only [varB,Bool.and_eq_true,decide_eq_true_eq,ks hi] at this
          exact this.1
        refine ⟨?_,by omega,h1.1,h1.2,hk⟩
        unfold okB
        simp only [Bool.and_eq_true,decide_eq_true_eq,List.all_eq_true]
        exact ⟨⟨⟨h1.1,h1.2⟩,fun k hk'=>(hk k hk').1⟩,by omega⟩
    · rw [if_pos h1] at h;cases h
end Go.Proofs.Ytcbpkdemcdikaaa.QP
namespace Go.Proofs.Ytcbpkdemcdikaaa.QK
open Go.RowKit Go.Proofs.Ytcbpkdemcdikaaa.X Go.Proofs.Ytcbpkdemcdikaaa.X.SF Go.Proofs.Ytcbpkdemcdikaaa.X.DF Go.Proofs.Ytcbpkdemcdikaaa.K Go.Proofs.YtcbpkdemcdikaaaW.PrintWords Go.Proofs.Ytcbpkdemcdikaaa.QB Go.Proofs.Ytcbpkdemcdikaaa.QC Go.Proofs.Ytcbpkdemcdikaaa.QP
set_option linter.unusedVariables false
set_option linter.unusedSimpArgs false
theorem gN {p q:Int→Int→Bool} {l:List Int} (h:∀ a ∈ l,∀ b ∈ l,p a b=q a b):gB p l=gB q l:=by
  unfold gB
  rw [Bool.eq_iff_iff]
  simp only [List.all_eq_true,List.mem_range]
  constructor
  · intro hh i hi j hj
    have:=hh i hi j hj
    rwa [h _ (jW (by omega)) _ (jW hi)] at this
  · intro hh i hi j hj
    have:=hh i hi j hj
    rwa [← h _ (jW (by omega)) _ (jW hi)] at this
theorem fulfil_eq (r:S49) (v:List Int) (h1:1≤r.f0) (h2:r.f0≤4) (hv:∀ a ∈ v,0≤a∧a≤73048):fulfilledB r v=iZ r v:=by
  unfold fulfilledB iZ
  by_cases k1:r.f0=1
  · rw [if_pos k1,if_pos k1]
  · rw [if_neg k1,if_neg k1]
    by_cases k2:r.f0=2
    · rw [if_pos k2]
      refine gN fun a _ b _=>?_
      unfold badR
      rw [if_pos k2,Bool.eq_iff_iff,beq_iff_eq,decide_eq_true_eq]
      exact ⟨fun h=>h.symm,fun h=>h.symm⟩
    · rw [if_neg k2]
      by_cases k3:r.f0=3
      · rw [if_pos k3]
        refine gN fun a ha b hb=>?_
        have ha:=hv a ha
        have hb:=hv b hb
        unfold badR
        rw [if_neg k2,if_pos k3]
        unfold jB
        rw [w64 (by omega) (by omega),w64 (by omega) (by omega),w64 (by omega) (by omega)]
        by_cases hg:b - a ≥ r.f1
        · rw [if_pos hg,decide_eq_false (by omega)];rfl
        · rw [if_neg hg]
          by_cases hg':a - b ≥ r.f1
          · rw [decide_eq_true hg',decide_eq_false (by omega)];rfl
          · rw [decide_eq_false hg',decide_eq_true (by omega)];rfl
      · rw [if_neg k3]
        refine gN fun a _ b _=>?_
        unfold badR
        rw [if_neg k2,if_neg k3,if_pos (by omega)]
theorem breaks_ref (r:S49) (n:Int) (x:List Int) (hr:validB r n=true) (hl:r.f2.length≤12) (hx:∀ a ∈ x,0≤a∧a≤73048):Ev (fun k=>fastiref15_Breaks.f k r.f0 r.f1 r.f2 r.f3 x) (brokenB r x):=by
  obtain ⟨_,_,h1,h2,hk⟩:=valid_ok hr hl
  unfold fastiref15_Breaks.f
  have L:=dc (fun k i=>fastiref15_Breaks.l0 k x ((r.f2.take i).map (rd x)) (i:Int) r.f0 r.f1 r.f2 r.f3) (fun i=>decide (r.f2.getD i 0 < (x.length:Int))) r.f2.length (!iZ r (r.f2.map (rd x))) false ?_ ?_ ?_
  · rw [dN r.f2 0 (fun k=>decide (k < (x.length:Int)))] at L
    exact L
  · intro i hi hP r' h'
    have hP:=of_decide_eq_true hP
    have h0:=(hk _ (List.getElem_mem hi)).1
    rw [cQ hi] at hP
    have hg:rd r.f2 (i:Int)=r.f2[i]:=ks hi
    have ht:(r.f2.take (i+1)).map (rd x)=(r.f2.take i).map (rd x) ++ [rd x r.f2[i]]:=by rw [take_get hi,List.map_append];rfl
    refine Ev.step (f:=fun k=>fastiref15_Breaks.l0 k x ((r.f2.take (i+1)).map (rd x)) (wrap64 ((i:Int)+1)) r.f0 r.f1 r.f2 r.f3) (fun k=>?_) (by rw [w64s i (by omega)];exact h')
    simp only [fastiref15_Breaks.l0,hg]
    rw [if_pos (by omega),if_pos (by omega),if_neg (by omega),if_pos (by omega),if_pos (by omega),if_pos (by rw [List.length_map,List.length_take];omega),ht]
  · intro i hi hP
    have hP:=of_decide_eq_false hP
    rw [cQ hi] at hP
    have hg:rd r.f2 (i:Int)=r.f2[i]:=ks hi
    refine Ev.eq fun k=>?_
    simp only [fastiref15_Breaks.l0,hg]
    rw [if_pos (by omega),if_pos (by omega),if_pos (by omega)]
  · intro hall
    refine Ev.eq fun k=>?_
    simp only [fastiref15_Breaks.l0,fastiref15_fulfilled.f,Option.bind_some]
    rw [if_neg (by omega),List.take_length]
    rw [show fulfilledB ⟨r.f0,r.f1,r.f2,r.f3⟩ (r.f2.map (rd x))=iZ r (r.f2.map (rd x)) from fulfil_eq r _ h1 h2 fun a ha=>by
      obtain ⟨q,hq,rfl⟩:=List.mem_map.1 ha
      obtain ⟨i,hi,rfl⟩:=List.mem_iff_getElem.1 hq
      have hb:=of_decide_eq_true (hall i hi)
      rw [cQ hi] at hb
      have h0:=(hk _ (List.getElem_mem hi)).1
      obtain ⟨t,ht⟩ : ∃ t:Nat,r.f2[i]=(t:Int):=⟨r.f2[i].toNat,by omega⟩
      rw [ht] at hb ⊢
      exact hx _ (jW (by omega))]
end Go.Proofs.Ytcbpkdemcdikaaa.QK
namespace Go.Proofs.Ytcbpkdemcdikaaa.QS
open Go.RowKit Go.Proofs.Ytcbpkdemcdikaaa.X Go.Proofs.Ytcbpkdemcdikaaa.X.SF Go.Proofs.Ytcbpkdemcdikaaa.X.DF Go.Proofs.Ytcbpkdemcdikaaa.K Go.Proofs.YtcbpkdemcdikaaaW.PrintWords Go.Proofs.Ytcbpkdemcdikaaa.QB Go.Proofs.Ytcbpkdemcdikaaa.QC Go.Proofs.Ytcbpkdemcdikaaa.QP Go.Proofs.Ytcbpkdemcdikaaa.QK
set_option linter.unusedVariables false
set_option linter.unusedSimpArgs false
def fI (rs:List S49) (x:List Int):Int:=cV (fun r=>brokenB r x) rs 0
theorem iz (ds:M) (rs:List S49) (x:List Int) (h:Ok ds rs) (hx:∀ a ∈ x,0≤a∧a≤73048):Ev (fun k=>fastiref15_first.f k ds rs x) (fI rs x):=by
  unfold fastiref15_first.f fI
  have hrl:=h.rl
  have H:∀ m i:Nat,i+m=rs.length→Ev (fun k=>fastiref15_first.l0 k x (i:Int) ds rs) (cV (fun r=>brokenB r x) (rs.drop i) i):=by
    intro m
    induction m with
    | zero =>
      intro i hi
      rw [List.drop_of_length_le (by omega)]
      refine Ev.eq fun k=>?_
      simp only [fastiref15_first.l0]
      rw [if_neg (by omega)]
      rfl
    | succ m ih =>
      intro i hi
      have hil:i < rs.length:=by omega
      have B:=breaks_ref rs[i] (ds.length:Int) x (h.val _ (List.getElem_mem hil)) (h.rok _ (List.getElem_mem hil)).1 hx
      rw [fF hil]
      refine Ev.step (f:=fun k=>(fastiref15_Breaks.f k rs[i].f0 rs[i].f1 rs[i].f2 rs[i].f3 x).bind fun t=>if t=true then some (i:Int) else fastiref15_first.l0 k x (wrap64 ((i:Int)+1)) ds rs) (fun k=>?_)
        (Ev.bind1 (f:=fun k t=>if t=true then some (i:Int) else fastiref15_first.l0 k x (wrap64 ((i:Int)+1)) ds rs) B ?_)
      · simp only [fastiref15_first.l0]
        rw [if_pos (by omega),if_pos (by omega),T49n,cQ hil]
      · rw [cV]
        cases hb:brokenB rs[i] x
        · simp only [Bool.false_eq_true,if_false,w64s i (show i < 4611686018427387904 by omega)]
          exact ih (i+1) (by omega)
        · simp only [if_true]
          exact Ev.now _
  have:=H rs.length 0 (by omega)
  rw [List.drop_zero] at this
  exact this
theorem fI_ge (rs:List S49) (x:List Int):fI rs x ≥ 0 ↔ badB rs x=true:=kw _ rs 0
def pr (o:Option (List Int)):List Int × Bool:=(o.getD [],o.isSome)
theorem solve_ref (ds:M) (rs:List S49) (h:Ok ds rs):∀ (rem:M) (x:List Int),ds.drop x.length=rem→x.length≤ds.length→(∀ a ∈ x,0≤a∧a≤73048) →
    Ev (fun k=>fastiref15_solve.f k ds rs x) (pr (if badB rs x=true then none else sol (badB rs) rem x)):=by
  have hdl:=h.len
  intro rem
  induction rem with
  | nil =>
    intro x hrem hle hx
    have hxl:x.length=ds.length:=by
      have:=congrArg List.length hrem
      rw [List.length_drop,List.length_nil] at this
      omega
    have F:=iz ds rs x h hx
    refine Ev.step (f:=fun k=>(fastiref15_first.f k ds rs x).bind fun t362=>(if t362 ≥ 0 then (some (([]:List Int),false)) else (if (x.length:Int)=(ds.length:Int) then (some (x,true)) else (if 0≤(x.length:Int) then (if (x.length:Int) < (ds.length:Int) then (fastiref15_solve.l0 k x (ao ds (x.length:Int)) 0 ds rs) else (none)) else (none))))) (fun k=>rfl)
      (Ev.bind1 (f:=fun k t362=>(if t362 ≥ 0 then (some (([]:List Int),false)) else (if (x.length:Int)=(ds.length:Int) then (some (x,true)) else (if 0≤(x.length:Int) then (if (x.length:Int) < (ds.length:Int) then (fastiref15_solve.l0 k x (ao ds (x.length:Int)) 0 ds rs) else (none)) else (none))))) F ?_)
    by_cases hb:badB rs x=true
    · simp only [if_pos ((fI_ge rs x).2 hb),if_pos hb]
      exact Ev.now _
    · simp only [if_neg (fun h=>hb ((fI_ge rs x).1 h)),if_neg hb,if_pos (show (x.length:Int)=(ds.length:Int) by omega)]
      exact Ev.now _
  | cons d rem ih =>
    intro x hrem hle hx
    have hxl:x.length < ds.length:=by
      have:=congrArg List.length hrem
      rw [List.length_drop,List.length_cons] at this
      omega
    have hdx:ds[x.length]=d∧ds.drop (x.length+1)=rem:=by
      rw [fF hxl] at hrem
      exact List.cons.inj hrem
    have hdm:d ∈ ds:=hdx.1 ▸ List.getElem_mem hxl
    have hd16:=h.dl d hdm
    have F:=iz ds rs x h hx
    refine Ev.step (f:=fun k=>(fastiref15_first.f k ds rs x).bind fun t362=>(if t362 ≥ 0 then (some (([]:List Int),false)) else (if (x.length:Int)=(ds.length:Int) then (some (x,true)) else (if 0≤(x.length:Int) then (if (x.length:Int) < (ds.length:Int) then (fastiref15_solve.l0 k x (ao ds (x.length:Int)) 0 ds rs) else (none)) else (none))))) (fun k=>rfl)
      (Ev.bind1 (f:=fun k t362=>(if t362 ≥ 0 then (some (([]:List Int),false)) else (if (x.length:Int)=(ds.length:Int) then (some (x,true)) else (if 0≤(x.length:Int) then (if (x.length:Int) < (ds.length:Int) then (fastiref15_solve.l0 k x (ao ds (x.length:Int)) 0 ds rs) else (none)) else (none))))) F ?_)
    by_cases hb:badB rs x=true
    · simp only [if_pos ((fI_ge rs x).2 hb),if_pos hb]
      exact Ev.now _
    · simp only [if_neg (fun h=>hb ((fI_ge rs x).1 h)),if_neg hb,if_neg (show ¬ ((x.length:Int)=(ds.length:Int)) by omega),if_pos (show (0:Int)≤(x.length:Int) by omega),if_pos (show (x.length:Int) < (ds.length:Int) by omega)]
      have hg:ao ds (x.length:Int)=d:=by rw [L1n,cQ hxl];exact hdx.1
      rw [hg,sol]
      have H:∀ m j:Nat,j+m=d.length→Ev (fun k=>fastiref15_solve.l0 k x d (j:Int) ds rs) (pr ((d.drop j).findSome? fun v=>if badB rs (x ++ [v])=true then none else sol (badB rs) rem (x ++ [v]))):=by
        intro m
        induction m with
        | zero =>
          intro j hj
          rw [List.drop_of_length_le (by omega)]
          refine Ev.eq fun k=>?_
          simp only [fastiref15_solve.l0]
          rw [if_neg (by omega)]
          rfl
        | succ m ihm =>
          intro j hj
          have hjl:j < d.length:=by omega
          have hv:=iE (h.dom d hdm) (List.getElem_mem hjl)
          have R:=ih (x ++ [d[j]]) (by rw [List.length_append];exact hdx.2) (by rw [List.length_append,List.length_singleton];omega) (fun a ha=>by
            rcases List.mem_append.1 ha with ha|ha
            · exact hx a ha
            · rw [List.mem_singleton.1 ha];exact hv)
          have N:=ihm (j+1) (by omega)
          rw [fF hjl,List.findSome?_cons]
          refine Ev.step (f:=fun k=>(fastiref15_solve.f k ds rs (x ++ [d[j]])).bind fun bt377=>if bt377.2=true then some (bt377.1,true) else fastiref15_solve.l0 k x d (wrap64 ((j:Int)+1)) ds rs) (fun k=>?_)
            (Ev.bind1 (f:=fun k bt377=>if bt377.2=true then some (bt377.1,true) else fastiref15_solve.l0 k x d (wrap64 ((j:Int)+1)) ds rs) R ?_)
          · have g1:([]:List Int).length+x.length < 17592186044416:=by simp;omega
            have g2:([] ++ x).length + [d[j]].length < 17592186044416:=by simp;omega
            simp only [fastiref15_solve.l0,Option.bind_some,ks hjl]
            rw [if_pos (by omega),if_pos g1,if_pos (by omega),if_pos g2,List.nil_append]
          · cases ho:(if badB rs (x ++ [d[j]])=true then none else sol (badB rs) rem (x ++ [d[j]])) with
            | none =>
              simp only [pr,Option.isSome_none,Bool.false_eq_true,if_false,w64s j (show j < 4611686018427387904 by omega)]
              exact N
            | some y =>
              simp only [pr,Option.isSome_some,if_true,Option.getD_some]
              exact Ev.now _
      exact H d.length 0 (by omega)
theorem bad_nil {ds:M} {rs:List S49} (h:Ok ds rs):badB rs []=false:=by
  unfold badB
  rw [List.any_eq_false]
  intro r hr hb
  obtain ⟨_,h0,_,_,hk⟩:=valid_ok (h.val r hr) (h.rok r hr).1
  have:=brokenB_no r [] 0 h0 (by
    have:=(hk _ (List.getElem_mem h0)).1
    have e:rd r.f2 ((0:Nat):Int)=r.f2[0]:=ks h0
    rw [e]
    simpa using this)
  rw [this] at hb
  cases hb
def solR (ds:M) (rs:List S49):List Int × Bool × Int:=if chk ds rs=0 then ((sol (badB rs) ds []).getD [],(sol (badB rs) ds []).isSome,0) else ([],false,chk ds rs)
theorem Solve_ref (ds:M) (rs:List S49):Ev (fun k=>fastiref15_Solve.f k ds rs) (solR ds rs):=by
  unfold fastiref15_Solve.f solR
  refine Ev.bind1 (f:=fun k t=>if t=0 then ((fastiref15_solve.f k ds rs ([]:List Int)).bind fun bt383=>some (bt383.1,bt383.2,0)) else some ([],false,t)) (check_ref ds rs) ?_
  by_cases hc:chk ds rs=0
  · have h:=kc hc
    simp only [if_pos hc]
    have S:=solve_ref ds rs h ds [] rfl (Nat.zero_le _) (fun a ha=>by cases ha)
    rw [if_neg (by rw [bad_nil h];simp)] at S
    exact Ev.bind1 (f:=fun k (bt383:List Int × Bool)=>some (bt383.1,bt383.2,(0:Int))) S (Ev.now _)
  · simp only [if_neg hc]
    exact Ev.now _
theorem ok_guard {ds:M} {rs:List S49} (h:Ok ds rs):rs.all okB=true:=by
  rw [List.all_eq_true]
  intro r hr
  exact (valid_ok (h.val r hr) (h.rok r hr).1).1
theorem Solve_prog (ds:M) (rs:List S49):Ev (fun k=>search_Solve.f k ds rs) (solR ds rs):=by
  unfold search_Solve.f solR
  refine Ev.bind1 (f:=fun k t=>if t=0 then ((search_solve.f ds rs).bind fun lF=>some (lF.1,lF.2,0)) else some ([],false,t)) (check_prog ds rs) ?_
  by_cases hc:chk ds rs=0
  · have h:=kc hc
    have e:search_solve.f ds rs=some ((sol (badB rs) ds []).getD [],(sol (badB rs) ds []).isSome):=by
      unfold search_solve.f
      rw [ok_guard h,decide_eq_true h.pos,decide_eq_true (show ds.length≤1000 by have:=h.len;omega)]
      rfl
    simp only [if_pos hc,e,Option.bind_some]
    exact Ev.now _
  · simp only [if_neg hc]
    exact Ev.now _
end Go.Proofs.Ytcbpkdemcdikaaa.QS
