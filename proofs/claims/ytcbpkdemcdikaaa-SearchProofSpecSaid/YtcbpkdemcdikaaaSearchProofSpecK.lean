/- Proved here: parts of the walk and of the plain law of SearchProofSpec, put into one text (names and lines made short by a program). -/
import Derived.Test.YtcbpkdemcdikaaaSearchProofSpecD
import Derived.Test.YtcbpkdemcdikaaaSearchProofSpecJ
namespace Go.Proofs.Ytcbpkdemcdikaaa.X
open Go.RowKit Go.Proofs.YtcbpkdemcdikaaaW.PrintWords Go.Proofs.YtcbpkdemcdikaaaW.PrintLast Go.Proofs.YtcbpkdemcdikaaaW.PrintMore
attribute [local go_sem] be bc bn bo aM aK bf bd   
set_option linter.unusedVariables false
set_option linter.unusedSimpArgs false
theorem rowS {w w2:World} {S:Nat→Prop} {ad:Addr} {xs:List (List Int)} (h:∀ W_,Kept w W_ S→Kd.C (Kd.slice 3 (Kd.int .i64)) W_ (some ad) xs.length xs) (hk:Kept w w2 S) (i:Int) (p0:0≤i) (q0:i < xs.length) {B:Option Addr} {m c:Nat} (hx:w2.cell? (ad.add i.toNat)=some (.slice B m c)) :
  ∀ W_,Kept w W_ S→Kd.C (Kd.int .i64) W_ B (ao xs i).length (ao xs i):=fun W_ hW=>by
 have hn:0 < xs.length:=by omega
 have hs:¬ S ad.block:=Kd.foot_neS h hn (by decide)
 have hl:ad.block < w.heap.size:=Kd.foot_ltS h hn (by decide)
 obtain ⟨ad',B',c',e',hx',_,hc'⟩:=et (h W_ hW) i p0 q0
 cases e'
 obtain ⟨ad0,B0,c0,e0,hx0,_,_⟩:=et (h w (Kept.refl w S)) i p0 q0
 cases e0
 have h2:=Go.Proofs.YtcbpkdemcdikaaaW.PrintWords.cell_kept hx0 hk (by rw [Go.Proofs.YtcbpkdemcdikaaaW.PrintWords.add_block];exact hs)
 have h3:=Go.Proofs.YtcbpkdemcdikaaaW.PrintWords.cell_kept hx0 hW (by rw [Go.Proofs.YtcbpkdemcdikaaaW.PrintWords.add_block];exact hs)
 rw [h2] at hx
 rw [h3] at hx'
 have a1:=Option.some.inj hx
 have a2:=Option.some.inj hx'
 injection a1 with b1 _ _
 injection a2 with b2 _ _
 rw [← b1,b2]
 exact hc'
mutual
def fastiref15_solve.l0:Nat→List Int→List Int→Int→List (List Int)→List (S49)→Option (List Int × Bool)
 | 0,_,_,_,_,_=>none
 | k+1,x1,x6,x7,x216000,x216001=>if x7 < (x6.length:Int) then ((some (([]:List Int):List Int)).bind fun y218=>(if y218.length+x1.length < 17592186044416 then ((some (y218 ++ x1:List Int)).bind fun y221=>(if 0≤x7 then ((some (([rd x6 x7]:List Int):List Int)).bind fun y225=>(if y221.length+y225.length < 17592186044416 then ((fastiref15_solve.f k x216000 x216001 (y221 ++ y225)).bind fun iR=>(if iR.2=true then (some (iR.1,true)) else (fastiref15_solve.l0 k x1 x6 (wrap64 (x7+1)) x216000 x216001))) else (none))) else (none))) else (none))) else (some (([]:List Int),false))
def fastiref15_solve.f:Nat→List (List Int)→List (S49)→List Int→Option (List Int × Bool)
 | 0,_,_,_=>none
 | k+1,ai,ah,l1=>(fastiref15_first.f k ai ah l1).bind fun t216=>(if t216 ≥ 0 then (some (([]:List Int),false)) else (if (l1.length:Int)=(ai.length:Int) then (some (l1,true)) else (if 0≤(l1.length:Int) then (if (l1.length:Int) < (ai.length:Int) then (fastiref15_solve.l0 k l1 (ao ai (l1.length:Int)) 0 ai ah) else (none)) else (none))))
end
def fastiref15_solve.T9:Bool × List (List Nat × List Nat):=(true,[([],[]),([],[]),([],[]),([1,2],[1,2]),([],[]),([],[]),([4,5],[4,5]),([6],[6]),([7],[7]),([3,8,3],[3,8]),([0,9,9],[0,9]),([10],[10]),([11],[11]),([11],[11]),([12,10,0,1,2,3,4,5,6,7,8,9,10,11,12],[12]),([13,14,0,1,2,3,4,5,6,7,8,9,10,11,12,13,14],[13])])
def fastiref15_solve.B9:List Nat:=[0,0,0,6,0,0,48,112,240,510,1023,2047,4095,4095,8191,32767]
theorem fastiref15_solve.tab9:fU .any (gP Try.f36 9)=fastiref15_solve.T9:=by kernel_rfl
theorem fastiref15_solve.bits9:fC fastiref15_solve.T9.2 fastiref15_solve.B9=true:=by kernel_rfl
set_option maxHeartbeats 8000000 in
set_option maxRecDepth 100000 in
theorem fastiref15_solve.calls (k:Nat):∀ (ax:Option Addr) (ap:Nat) (ai:List (List Int)) (au:Option Addr) (am:Nat) (ah:List (S49)) (P1_:Nat→Prop) (u9000_:Value) (l1:List Int) (r1:List Int) (r2:Bool) (w0 w:World) (hB:Below w0.heap.size w0 w) (bV:∀ W_,Kept w W_ (fun k_=>P1_ k_)→Kd.C (Kd.slice 3 (Kd.int .i64)) W_ ax ai.length ai) (bX:ai.length≤ap) (bP:∀ W_,Kept w W_ (fun k_=>P1_ k_)→Kd.C k49 W_ au ah.length ah) (bU:ah.length≤am) (ho1:Kd.R (Kd.int .i64) 3 w w0.heap.size P1_ u9000_ l1) (h:fastiref15_solve.f k ai ah l1=some (r1,r2)),
  Calls Try.prog 36 #[.agg #[.slice ax ai.length ap,.slice au ah.length am],u9000_] w fun e w'=>∃ v0_:Value,e=.returned (.tuple #[v0_,.bool r2])∧Kd.R (Kd.int .i64) 3 w' w0.heap.size (fun k_=>(P1_ k_∨w.heap.size≤k_)) v0_ r1∧Below w0.heap.size w0 w'∧Kept w w' (fun k_=>P1_ k_):=by
 induction k using Nat.strongRecOn with
 | _ k ih =>
 intro ax ap ai au am ah P1_ u9000_ l1 r1 r2 w0 w hB bV bX bP bU ho1 h
 cases k with
 | zero=>exact absurd h (by simp [fastiref15_solve.f])
 | succ k =>
 simp only [fastiref15_solve.f] at h
 have hu25:=Try.underlying25
 have bz:=zzA bV
 have bH:=zzA bX
 clear bV bX
 have bq:=zzA bP
 have bF:=zzA bU
 clear bP bU
 have HO1:=zzA (show Kd.R (Kd.int .i64) 3 w w0.heap.size (fun k_=>(P1_ k_∨w.heap.size≤k_)) u9000_ l1 from Kd.R_mono ho1 (fun k_ hk=>(.inl hk)))
 have HK:=zzA (Kept.refl w (fun k_=>P1_ k_))
 have HW0:=zzA hB.size
 have HB:=zzA hB
 clear hB
 have H:((fastiref15_first.f k ai ah l1).bind fun t216=>(if t216 ≥ 0 then (some (([]:List Int),false)) else (if (l1.length:Int)=(ai.length:Int) then (some (l1,true)) else (if 0≤(l1.length:Int) then (if (l1.length:Int) < (ai.length:Int) then (fastiref15_solve.l0 k l1 (ao ai (l1.length:Int)) 0 ai ah) else (none)) else (none)))))=some (r1,r2):=h
 clear h
 replace H:=Option.bind_eq_some_iff.mp H
 obtain ⟨t216,A30,H⟩:=H
 replace H:(if t216 ≥ 0 then (some (([]:List Int),false)) else (if (l1.length:Int)=(ai.length:Int) then (some (l1,true)) else (if 0≤(l1.length:Int) then (if (l1.length:Int) < (ai.length:Int) then (fastiref15_solve.l0 k l1 (ao ai (l1.length:Int)) 0 ai ah) else (none)) else (none))))=some (r1,r2):=H
 have A3:=zzA A30
 clear A30
 by_cases c4:t216 ≥ 0
 ·rw [if_pos c4] at H
  have f8:decide (0≤t216)=true:=zzG c4
  clear c4
  simp only [Option.some.injEq,Prod.mk.injEq] at H
  obtain ⟨rfl,rfl⟩:=H
  go_enter Try.func36,Try.ntmps36
  go_wp2_with (first|((with_reducible refine ay (N:=2) rfl ?_);refine aq ?hg (N:=2) ?hd (cs:=#[.slice ax ai.length ap,.slice au ah.length am]) (t:=25) ?hr ?_;(case hd=>rfl);(case hg=>rfl);(case hr=>first|(go_simp;done)|(go_simp;rfl));intro cf hg w5 hbox hb;have n0_:=zzA (Kd.R_below (by (with_reducible repeat (first|apply Kd.R_alloc|apply Kd.R_drewN|apply Kd.R_drew));exact HO1.out) hb);have n1_:=zzA (Kept.below (S:=(fun k_=>P1_ k_)) (by repeat (first|(with_reducible first|exact HK.out|apply Kept.alloc|apply Kept.drewN|apply Kept.drew)|exact HK.out)) hb);have n2_:=zzA (ag (by repeat (first|(with_reducible first|exact HB.out|apply a6|apply a4|apply a5)|exact HB.out)) hb);have n3_:=zzA (hbox);have n4_:=zzA ((by rw [hg];exact (by first|exact HK.out.1|exact (show Kept w _ (fun k_=>P1_ k_) from by repeat (first|(with_reducible first|exact HK.out|apply Kept.alloc|apply Kept.drewN|apply Kept.drew)|exact HK.out)).1):w.heap.size≤cf));have n5_:=zzA ((by rw [hg];exact (ae (by repeat (first|(with_reducible first|exact HB.out|apply a6|apply a4|apply a5)|exact HB.out))):w0.heap.size≤cf));clear HO1;clear HK;clear HB;have HO1:=n0_;have HK:=n1_;have HB:=n2_;have aD:=n3_;have bQ:=n4_;have cm:=n5_;clear n0_ n1_ n2_ n3_ n4_ n5_;clear hb hbox hg;have ez:w5.cell? ⟨cf,0,none⟩=some (.slice ax ai.length ap):=(a8 aD.out 0).trans rfl;have eA:w5.cell? ⟨cf,1,none⟩=some (.slice au ah.length am):=(a8 aD.out 1).trans rfl;have eB:=ab aD.out 0;have eC:=ab aD.out 1;obtain ⟨Ao7,co7,eo7⟩:=Kd.R_slice HO1.out;subst eo7)|((with_reducible refine ar (f:=54) rfl ?_);refine bi (some 12) rfl rfl Try.func54 (by kernel_rfl) rfl #[.agg #[.slice ax ai.length ap,.slice au ah.length am],.slice Ao7 l1.length co7] rfl (by (try simp only [List.map_toArray,List.map_cons,List.map_nil]);first|done|rfl|(simp only [List.length_drop,List.length_take];rfl)) ?_;(with_reducible refine (fastiref15_first.calls k _ _ ai _ _ ah _ _ l1 t216 _ ?side1 ?side2 ?side3 ?side4 ?side5 ?side6 A3.out).mono ?_);(case side1=>exact Kd.C_kept_now bz.out (by repeat (first|(with_reducible first|exact HK.out|apply Kept.alloc|apply Kept.drewN|apply Kept.drew|refine Kept.setCell ?_ (.inr bQ.out) _)|exact HK.out)));(case side2=>exact bH.out);(case side3=>exact Kd.C_kept_now bq.out (by repeat (first|(with_reducible first|exact HK.out|apply Kept.alloc|apply Kept.drewN|apply Kept.drew|refine Kept.setCell ?_ (.inr bQ.out) _)|exact HK.out)));(case side4=>exact bF.out);(case side5=>repeat (first|exact (Kd.R_reads' HO1.out).2.2|(with_reducible refine Kd.C_alloc ?_ _)|(with_reducible refine Kd.C_drewN ?_ _)|(with_reducible refine Kd.C_drew ?_)));(case side6=>exact (Kd.R_reads' HO1.out).2.1);rintro e w8 ⟨rfl,hb⟩;refine ⟨_,rfl,?_⟩;have n0_:=zzA (Kd.R_below (by (with_reducible repeat (first|apply Kd.R_alloc|apply Kd.R_drewN|apply Kd.R_drew));exact HO1.out) hb);have n1_:=zzA (af (g:=cf) (o:=.cells #[.slice ax ai.length ap,.slice au ah.length am] 25 (0,0)) (by (with_reducible repeat (first|refine aa ?_ _|refine ac ?_|refine a9 ?_ _));exact aD.out) hb);have n2_:=zzA (Kept.below (S:=(fun k_=>P1_ k_)) (by repeat (first|(with_reducible first|exact HK.out|apply Kept.alloc|apply Kept.drewN|apply Kept.drew|refine Kept.setCell ?_ (.inr bQ.out) _)|exact HK.out)) hb);have n3_:=zzA (ag (by repeat (first|(with_reducible first|exact HB.out|apply a6|apply a4|apply a5|refine a7 ?_ cm.out)|exact HB.out)) hb);clear HO1;clear aD;clear HK;clear HB;have HO1:=n0_;have aD:=n1_;have HK:=n2_;have HB:=n3_;clear n0_ n1_ n2_ n3_;(try clear hb);(try clear hb2);(try clear hk);(try clear hi)))
  go_ret2
  exact ⟨_,by first|rfl|(simp [ak,al] <;> rfl)|(simp [*,ak,al] <;> rfl),by first|exact Kd.R_nil _ _ _ _ _|exact Kd.N_nil _ _ _ _ _|exact Kd.V_nil _ _ _ _ _|exact Kd.Q_nil _ _ _ _ _|exact Kd.S_nil _ _ _ _ _,by repeat (first|(with_reducible first|exact HB.out|apply a6|apply a4|apply a5|refine a7 ?_ cm.out)|exact HB.out),by repeat (first|(with_reducible first|exact HK.out|apply Kept.alloc|apply Kept.drewN|apply Kept.drew|refine Kept.setCell ?_ (.inr bQ.out) _)|exact HK.out)⟩
 ·rw [if_neg c4] at H
  have f8:decide (0≤t216)=false:=zzH c4
  clear c4
  by_cases c9:(l1.length:Int)=(ai.length:Int)
  ·rw [if_pos c9] at H
   have c9b0:((l1.length:Int) == (ai.length:Int))=true:=beq_iff_eq.mpr c9
   have c9b1:((l1.length:Int) != (ai.length:Int))=false:=bne_eq_false_iff_eq.mpr c9
   have c9b2:(l1.length == ai.length)=true:=by first|simpa using c9|(simp at c9 ⊢;omega)
   clear c9
   simp only [Option.some.injEq,Prod.mk.injEq] at H
   obtain ⟨rfl,rfl⟩:=H
   go_enter Try.func36,Try.ntmps36
   go_wp2_with (first|((with_reducible refine ay (N:=2) rfl ?_);refine aq ?hg (N:=2) ?hd (cs:=#[.slice ax ai.length ap,.slice au ah.length am]) (t:=25) ?hr ?_;(case hd=>rfl);(case hg=>rfl);(case hr=>first|(go_simp;done)|(go_simp;rfl));intro cf hg w10 hbox hb;have n0_:=zzA (Kd.R_below (by (with_reducible repeat (first|apply Kd.R_alloc|apply Kd.R_drewN|apply Kd.R_drew));exact HO1.out) hb);have n1_:=zzA (Kept.below (S:=(fun k_=>P1_ k_)) (by repeat (first|(with_reducible first|exact HK.out|apply Kept.alloc|apply Kept.drewN|apply Kept.drew)|exact HK.out)) hb);have n2_:=zzA (ag (by repeat (first|(with_reducible first|exact HB.out|apply a6|apply a4|apply a5)|exact HB.out)) hb);have n3_:=zzA (hbox);have n4_:=zzA ((by rw [hg];exact (by first|exact HK.out.1|exact (show Kept w _ (fun k_=>P1_ k_) from by repeat (first|(with_reducible first|exact HK.out|apply Kept.alloc|apply Kept.drewN|apply Kept.drew)|exact HK.out)).1):w.heap.size≤cf));have n5_:=zzA ((by rw [hg];exact (ae (by repeat (first|(with_reducible first|exact HB.out|apply a6|apply a4|apply a5)|exact HB.out))):w0.heap.size≤cf));clear HO1;clear HK;clear HB;have HO1:=n0_;have HK:=n1_;have HB:=n2_;have aD:=n3_;have bQ:=n4_;have cm:=n5_;clear n0_ n1_ n2_ n3_ n4_ n5_;clear hb hbox hg;have cJ:w10.cell? ⟨cf,0,none⟩=some (.slice ax ai.length ap):=(a8 aD.out 0).trans rfl;have cK:w10.cell? ⟨cf,1,none⟩=some (.slice au ah.length am):=(a8 aD.out 1).trans rfl;have cL:=ab aD.out 0;have cM:=ab aD.out 1;obtain ⟨Ao12,co12,eo12⟩:=Kd.R_slice HO1.out;subst eo12)|((with_reducible refine ar (f:=54) rfl ?_);refine bi (some 12) rfl rfl Try.func54 (by kernel_rfl) rfl #[.agg #[.slice ax ai.length ap,.slice au ah.length am],.slice Ao12 l1.length co12] rfl (by (try simp only [List.map_toArray,List.map_cons,List.map_nil]);first|done|rfl|(simp only [List.length_drop,List.length_take];rfl)) ?_;(with_reducible refine (fastiref15_first.calls k _ _ ai _ _ ah _ _ l1 t216 _ ?side1 ?side2 ?side3 ?side4 ?side5 ?side6 A3.out).mono ?_);(case side1=>exact Kd.C_kept_now bz.out (by repeat (first|(with_reducible first|exact HK.out|apply Kept.alloc|apply Kept.drewN|apply Kept.drew|refine Kept.setCell ?_ (.inr bQ.out) _)|exact HK.out)));(case side2=>exact bH.out);(case side3=>exact Kd.C_kept_now bq.out (by repeat (first|(with_reducible first|exact HK.out|apply Kept.alloc|apply Kept.drewN|apply Kept.drew|refine Kept.setCell ?_ (.inr bQ.out) _)|exact HK.out)));(case side4=>exact bF.out);(case side5=>repeat (first|exact (Kd.R_reads' HO1.out).2.2|(with_reducible refine Kd.C_alloc ?_ _)|(with_reducible refine Kd.C_drewN ?_ _)|(with_reducible refine Kd.C_drew ?_)));(case side6=>exact (Kd.R_reads' HO1.out).2.1);rintro e w13 ⟨rfl,hb⟩;refine ⟨_,rfl,?_⟩;have n0_:=zzA (Kd.R_below (by (with_reducible repeat (first|apply Kd.R_alloc|apply Kd.R_drewN|apply Kd.R_drew));exact HO1.out) hb);have n1_:=zzA (af (g:=cf) (o:=.cells #[.slice ax ai.length ap,.slice au ah.length am] 25 (0,0)) (by (with_reducible repeat (first|refine aa ?_ _|refine ac ?_|refine a9 ?_ _));exact aD.out) hb);have n2_:=zzA (Kept.below (S:=(fun k_=>P1_ k_)) (by repeat (first|(with_reducible first|exact HK.out|apply Kept.alloc|apply Kept.drewN|apply Kept.drew|refine Kept.setCell ?_ (.inr bQ.out) _)|exact HK.out)) hb);have n3_:=zzA (ag (by repeat (first|(with_reducible first|exact HB.out|apply a6|apply a4|apply a5|refine a7 ?_ cm.out)|exact HB.out)) hb);clear HO1;clear aD;clear HK;clear HB;have HO1:=n0_;have aD:=n1_;have HK:=n2_;have HB:=n3_;clear n0_ n1_ n2_ n3_;(try clear hb);(try clear hb2);(try clear hk);(try clear hi);have hcz14_0:w13.cell? ⟨cf,0,none⟩=some (.slice ax ai.length ap):=(a8 aD.out 0).trans rfl;have hcz14_1:w13.cell? ⟨cf,1,none⟩=some (.slice au ah.length am):=(a8 aD.out 1).trans rfl;have hfz14_0:=ab aD.out 0;have hfz14_1:=ab aD.out 1))
   go_ret2
   exact ⟨_,by first|rfl|(simp [ak,al] <;> rfl)|(simp [*,ak,al] <;> rfl),by (with_reducible repeat (first|apply Kd.R_alloc|apply Kd.R_drewN|apply Kd.R_drew));exact HO1.out,by repeat (first|(with_reducible first|exact HB.out|apply a6|apply a4|apply a5|refine a7 ?_ cm.out)|exact HB.out),by repeat (first|(with_reducible first|exact HK.out|apply Kept.alloc|apply Kept.drewN|apply Kept.drew|refine Kept.setCell ?_ (.inr bQ.out) _)|exact HK.out)⟩
  ·rw [if_neg c9] at H
   have c9b0:((l1.length:Int) == (ai.length:Int))=false:=beq_eq_false_iff_ne.mpr c9
   have c9b1:((l1.length:Int) != (ai.length:Int))=true:=bne_iff_ne.mpr c9
   have c9b2:(l1.length == ai.length)=false:=by first|simpa using c9|(simp at c9 ⊢;omega)
   by_cases c15:0≤(l1.length:Int)
   ·rw [if_pos c15] at H
    have c15b0:decide (0≤(l1.length:Int))=true:=zzG c15
    have c15b1:decide (0≤l1.length)=true:=zzG (by omega)
    clear c15
    by_cases c16:(l1.length:Int) < (ai.length:Int)
    ·rw [if_pos c16] at H
     have c16b0:decide ((l1.length:Int) < (ai.length:Int))=true:=zzG c16
     have c16b1:decide (l1.length < ai.length)=true:=zzG (Int.ofNat_lt.mp c16)
     clear c16
     have H':=zzA H
     clear H
     go_enter Try.func36,Try.ntmps36
     go_wp2_with (first|((with_reducible refine ay (N:=2) rfl ?_);refine aq ?hg (N:=2) ?hd (cs:=#[.slice ax ai.length ap,.slice au ah.length am]) (t:=25) ?hr ?_;(case hd=>rfl);(case hg=>rfl);(case hr=>first|(go_simp;done)|(go_simp;rfl));intro cf hg w17 hbox hb;have n0_:=zzA (Kd.R_below (by (with_reducible repeat (first|apply Kd.R_alloc|apply Kd.R_drewN|apply Kd.R_drew));exact HO1.out) hb);have n1_:=zzA (Kept.below (S:=(fun k_=>P1_ k_)) (by repeat (first|(with_reducible first|exact HK.out|apply Kept.alloc|apply Kept.drewN|apply Kept.drew)|exact HK.out)) hb);have n2_:=zzA (ag (by repeat (first|(with_reducible first|exact HB.out|apply a6|apply a4|apply a5)|exact HB.out)) hb);have n3_:=zzA (hbox);have n4_:=zzA ((by rw [hg];exact (by first|exact HK.out.1|exact (show Kept w _ (fun k_=>P1_ k_) from by repeat (first|(with_reducible first|exact HK.out|apply Kept.alloc|apply Kept.drewN|apply Kept.drew)|exact HK.out)).1):w.heap.size≤cf));have n5_:=zzA ((by rw [hg];exact (ae (by repeat (first|(with_reducible first|exact HB.out|apply a6|apply a4|apply a5)|exact HB.out))):w0.heap.size≤cf));clear HO1;clear HK;clear HB;have HO1:=n0_;have HK:=n1_;have HB:=n2_;have aD:=n3_;have bQ:=n4_;have cm:=n5_;clear n0_ n1_ n2_ n3_ n4_ n5_;clear hb hbox hg;have hcz18_0:w17.cell? ⟨cf,0,none⟩=some (.slice ax ai.length ap):=(a8 aD.out 0).trans rfl;have hcz18_1:w17.cell? ⟨cf,1,none⟩=some (.slice au ah.length am):=(a8 aD.out 1).trans rfl;have hfz18_0:=ab aD.out 0;have hfz18_1:=ab aD.out 1;obtain ⟨Ao19,gJ,eo19⟩:=Kd.R_slice HO1.out;subst eo19)|((with_reducible refine ar (f:=54) rfl ?_);refine bi (some 12) rfl rfl Try.func54 (by kernel_rfl) rfl #[.agg #[.slice ax ai.length ap,.slice au ah.length am],.slice Ao19 l1.length gJ] rfl (by (try simp only [List.map_toArray,List.map_cons,List.map_nil]);first|done|rfl|(simp only [List.length_drop,List.length_take];rfl)) ?_;(with_reducible refine (fastiref15_first.calls k _ _ ai _ _ ah _ _ l1 t216 _ ?side1 ?side2 ?side3 ?side4 ?side5 ?side6 A3.out).mono ?_);(case side1=>exact Kd.C_kept_now bz.out (by repeat (first|(with_reducible first|exact HK.out|apply Kept.alloc|apply Kept.drewN|apply Kept.drew|refine Kept.setCell ?_ (.inr bQ.out) _)|exact HK.out)));(case side2=>exact bH.out);(case side3=>exact Kd.C_kept_now bq.out (by repeat (first|(with_reducible first|exact HK.out|apply Kept.alloc|apply Kept.drewN|apply Kept.drew|refine Kept.setCell ?_ (.inr bQ.out) _)|exact HK.out)));(case side4=>exact bF.out);(case side5=>repeat (first|exact (Kd.R_reads' HO1.out).2.2|(with_reducible refine Kd.C_alloc ?_ _)|(with_reducible refine Kd.C_drewN ?_ _)|(with_reducible refine Kd.C_drew ?_)));(case side6=>exact (Kd.R_reads' HO1.out).2.1);rintro e w20 ⟨rfl,hb⟩;refine ⟨_,rfl,?_⟩;have n0_:=zzA (Kd.R_below (by (with_reducible repeat (first|apply Kd.R_alloc|apply Kd.R_drewN|apply Kd.R_drew));exact HO1.out) hb);have n1_:=zzA (af (g:=cf) (o:=.cells #[.slice ax ai.length ap,.slice au ah.length am] 25 (0,0)) (by (with_reducible repeat (first|refine aa ?_ _|refine ac ?_|refine a9 ?_ _));exact aD.out) hb);have n2_:=zzA (Kept.below (S:=(fun k_=>P1_ k_)) (by repeat (first|(with_reducible first|exact HK.out|apply Kept.alloc|apply Kept.drewN|apply Kept.drew|refine Kept.setCell ?_ (.inr bQ.out) _)|exact HK.out)) hb);have n3_:=zzA (ag (by repeat (first|(with_reducible first|exact HB.out|apply a6|apply a4|apply a5|refine a7 ?_ cm.out)|exact HB.out)) hb);clear HO1;clear aD;clear HK;clear HB;have HO1:=n0_;have aD:=n1_;have HK:=n2_;have HB:=n3_;clear n0_ n1_ n2_ n3_;(try clear hb);(try clear hb2);(try clear hk);(try clear hi);have hcz21_0:w20.cell? ⟨cf,0,none⟩=some (.slice ax ai.length ap):=(a8 aD.out 0).trans rfl;have hcz21_1:w20.cell? ⟨cf,1,none⟩=some (.slice au ah.length am):=(a8 aD.out 1).trans rfl;have hfz21_0:=ab aD.out 0;have hfz21_1:=ab aD.out 1;have p217:0≤((l1.length:Int):Int):=zzF (by first|(with_reducible assumption)|assumption);have q217:(l1.length:Int) < (ai.length:Int):=zzF (by first|(with_reducible assumption)|assumption);obtain ⟨ad217,A217_0,c217_0,e217,hx217_0,hl217_0,hi217_0⟩:=et (Kd.C_kept_now bz.out HK.out) (l1.length:Int) p217 q217;cases e217;have HR217_0:=zzA hi217_0;have HS217_0:=zzA (rowS bz.out HK.out _ p217 q217 hx217_0);have HC217_0:=zzA hl217_0;clear hi217_0 hl217_0;(try simp only [Go.IntWalk.toNatUp] at hx217_0);replace p217:=eq_true p217;replace q217:=eq_true q217))
     go_loopg [7] k (fun kq v7 w'=>∃ (x7_1:Int),v7=.int .i64 x7_1∧Aside0 (fastiref15_solve.l0 kq l1 (ao ai (l1.length:Int)) x7_1 ai ah=some (r1,r2))∧Aside0 (kq≤k)∧Aside0 (Kd.R (Kd.int .i64) 3 w' w0.heap.size (fun k_=>(P1_ k_∨w.heap.size≤k_)) (.slice Ao19 l1.length gJ) l1)∧Aside0 (w'.heap[cf]?=some (.cells #[(.slice (some ad217) ai.length ap),(.slice au ah.length am)] 25 (0,0)))∧Aside0 (Kept w w' (fun k_=>P1_ k_))∧Aside0 (Below w0.heap.size w0 w'))
     case atStart=>exact ⟨(0),(by first|rfl|(simp;done)|(simp [*];done)),H',⟨Nat.le_refl _⟩,⟨by (with_reducible repeat (first|apply Kd.R_alloc|apply Kd.R_drewN|apply Kd.R_drew));exact HO1.out⟩,⟨by (with_reducible repeat (first|refine aa ?_ _|refine ac ?_|refine a9 ?_ _));exact aD.out⟩,⟨by repeat (first|(with_reducible first|exact HK.out|apply Kept.alloc|apply Kept.drewN|apply Kept.drew|refine Kept.setCell ?_ (.inr bQ.out) _)|exact HK.out)⟩,⟨by repeat (first|(with_reducible first|exact HB.out|apply a6|apply a4|apply a5|refine a7 ?_ cm.out)|exact HB.out)⟩⟩
     case round =>
      clear H'
      try clear c1;try clear c2;try clear p2;try clear q2;try clear hx2;try clear c3;try clear c4;try clear f8;try clear c5;try clear c9;try clear c9b0;try clear c9b1;try clear c9b2;try clear c15;try clear c15b0;try clear c15b1;try clear c16;try clear c16b0;try clear c16b1;try clear c21;try clear p21;try clear q21;try clear hx21;try clear cJ;try clear cK;try clear hcz14_0;try clear hcz14_1;try clear hcz18_0;try clear hcz18_1;try clear hcz21_0;try clear hcz21_1;try clear ez;try clear eA;try clear cL;try clear cM;try clear hfz14_0;try clear hfz14_1;try clear hfz18_0;try clear hfz18_1;try clear hfz21_0;try clear hfz21_1;try clear eB;try clear eC;try clear hx217_0;try clear p217;try clear q217
      obtain ⟨x7_1,rfl,HA,HK1,cA,aD,HK,HB⟩:=hrel
      cases gk with
      | zero=>exact absurd HA.out (by simp [fastiref15_solve.l0])
      | succ k1 =>
       have H:=HA.out
       clear HA
       simp only [fastiref15_solve.l0] at H
       by_cases c22:x7_1 < ((ao ai (l1.length:Int)).length:Int)
       ·rw [if_pos c22] at H
        have c22b0:decide (x7_1 < ((ao ai (l1.length:Int)).length:Int))=true:=zzG c22
        clear c22
        obtain ⟨y218,hy218⟩ : ∃ y_:List Int,y_=(([]:List Int)):=⟨_,rfl⟩
        replace H:(if y218.length+l1.length < 17592186044416 then ((some (y218 ++ l1:List Int)).bind fun y221=>(if 0≤x7_1 then ((some (([rd (ao ai (l1.length:Int)) x7_1]:List Int):List Int)).bind fun y225=>(if y221.length+y225.length < 17592186044416 then ((fastiref15_solve.f k1 ai ah (y221 ++ y225)).bind fun iR=>(if iR.2=true then (some (iR.1,true)) else (fastiref15_solve.l0 k1 l1 (ao ai (l1.length:Int)) (wrap64 (x7_1+1)) ai ah))) else (none))) else (none))) else (none))=some (r1,r2):=by first|(rw [hy218];with_reducible exact H)|(have H2_:=(Option.bind_some _ _).symm.trans H;rw [hy218];with_reducible exact H2_)|(have H2_:=(Option.bind_some _ _).symm.trans H;with_reducible exact H2_)|with_reducible exact H|(rw [hy218];exact H)|exact H
        have Ny218:=zzA hy218
        clear hy218
        by_cases c23:y218.length+l1.length < 17592186044416
        ·rw [if_pos c23] at H
         have LMc23:=zzA c23
         clear c23
         obtain ⟨y221,hy221⟩ : ∃ y_:List Int,y_=(y218 ++ l1):=⟨_,rfl⟩
         replace H:(if 0≤x7_1 then ((some (([rd (ao ai (l1.length:Int)) x7_1]:List Int):List Int)).bind fun y225=>(if y221.length+y225.length < 17592186044416 then ((fastiref15_solve.f k1 ai ah (y221 ++ y225)).bind fun iR=>(if iR.2=true then (some (iR.1,true)) else (fastiref15_solve.l0 k1 l1 (ao ai (l1.length:Int)) (wrap64 (x7_1+1)) ai ah))) else (none))) else (none))=some (r1,r2):=by first|(rw [hy221];with_reducible exact H)|(have H2_:=(Option.bind_some _ _).symm.trans H;rw [hy221];with_reducible exact H2_)|(have H2_:=(Option.bind_some _ _).symm.trans H;with_reducible exact H2_)|with_reducible exact H|(rw [hy221];exact H)|exact H
         have Ny221:=zzA hy221
         clear hy221
         by_cases c24:0≤x7_1
         ·rw [if_pos c24] at H
          have c24b0:decide (0≤x7_1)=true:=zzG c24
          clear c24
          obtain ⟨y225,hy225⟩ : ∃ y_:List Int,y_=(([rd (ao ai (l1.length:Int)) x7_1]:List Int)):=⟨_,rfl⟩
          replace H:(if y221.length+y225.length < 17592186044416 then ((fastiref15_solve.f k1 ai ah (y221 ++ y225)).bind fun iR=>(if iR.2=true then (some (iR.1,true)) else (fastiref15_solve.l0 k1 l1 (ao ai (l1.length:Int)) (wrap64 (x7_1+1)) ai ah))) else (none))=some (r1,r2):=by first|(rw [hy225];with_reducible exact H)|(have H2_:=(Option.bind_some _ _).symm.trans H;rw [hy225];with_reducible exact H2_)|(have H2_:=(Option.bind_some _ _).symm.trans H;with_reducible exact H2_)|with_reducible exact H|(rw [hy225];exact H)|exact H
          have Ny225:=zzA hy225
          clear hy225
          by_cases c25:y221.length+y225.length < 17592186044416
          ·rw [if_pos c25] at H
           have LMc25:=zzA c25
           clear c25
           obtain ⟨y228,hy228⟩ : ∃ y_:List Int,y_=(y221 ++ y225):=⟨_,rfl⟩
           replace H:((fastiref15_solve.f k1 ai ah y228).bind fun iR=>(if iR.2=true then (some (iR.1,true)) else (fastiref15_solve.l0 k1 l1 (ao ai (l1.length:Int)) (wrap64 (x7_1+1)) ai ah)))=some (r1,r2):=by first|(rw [hy228];with_reducible exact H)|(have H2_:=(Option.bind_some _ _).symm.trans H;rw [hy228];with_reducible exact H2_)|(have H2_:=(Option.bind_some _ _).symm.trans H;with_reducible exact H2_)|with_reducible exact H|(rw [hy228];exact H)|exact H
           have Ny228:=zzA hy228
           clear hy228
           replace H:=Option.bind_eq_some_iff.mp H
           obtain ⟨⟨t231,t234⟩,A260,H⟩:=H
           replace H:(if t234=true then (some (t231,true)) else (fastiref15_solve.l0 k1 l1 (ao ai (l1.length:Int)) (wrap64 (x7_1+1)) ai ah))=some (r1,r2):=H
           have A26:=zzA A260
           clear A260
           by_cases c27:t234=true
           ·subst c27
            have H1:(some (t231,true))=some (r1,r2):=by rw [if_pos rfl] at H;exact H
            clear H
            have H:=H1
            clear H1
            simp only [Option.some.injEq,Prod.mk.injEq] at H
            obtain ⟨rfl,rfl⟩:=H
            try go_wp2
            have n0_:=zzA (Kd.R_drew cA.out)
            have n1_:=zzA (ac aD.out)
            have n2_:=zzA (Kept.drew HK.out)
            have n3_:=zzA (a5 HB.out)
            clear cA
            clear aD
            clear HK
            clear HB
            have cA:=n0_
            have aD:=n1_
            have HK:=n2_
            have HB:=n3_
            clear n0_ n1_ n2_ n3_
            have p224:0≤(x7_1:Int):=zzF (by first|(with_reducible assumption)|assumption)
            have q224:x7_1 < ((ao ai (l1.length:Int)).length:Int):=zzF (by first|(with_reducible assumption)|assumption)
            obtain ⟨ad224,e224,lR⟩:=Kd.at_int (HS217_0.out _ HK.out) x7_1 p224 q224
            have hw224_0:=lR
            cases e224
            have hf224:=zzA (fun (W_:World) (hk_:Kept w W_ (fun k_=>P1_ k_))=>(by obtain ⟨ad_,e_,hx_⟩:=Kd.at_int (HS217_0.out W_ hk_) x7_1 p224 q224;cases e_;exact hx_:W_.cell? (ad224.add (x7_1).toNat)=some _))
            replace p224:=eq_true p224
            replace q224:=eq_true q224
            refine ff (n:=16) (S:=fun w'=>w'.cell? ⟨cf,0,none⟩=some (.slice (some ad217) ai.length ap)∧w'.cell? ⟨cf,1,none⟩=some (.slice au ah.length am)∧w'.cell? (ad224.add (x7_1).toNat)=some (.int .i64 (rd (ao ai (l1.length:Int)) x7_1))) (ds:=[]) #[false,false,false,false,false,false,false,false,false,false,false,false,false,false,false,false] (by kernel_rfl) rfl rfl ⟨(a8 aD.out 0).trans rfl,(a8 aD.out 1).trans rfl,(hf224.out _ HK.out)⟩ (fun hHeld=>?_);refine dy fastiref15_solve.tab9 fastiref15_solve.bits9 (fun HT_ HW_=>?_)
            generalize wr.drew=w28 at cA aD HK HB lR hHeld ⊢
            refine bh (i:=2) (N:=some 36) (v:=?_) (a':=?_) #[false,false,true,false,false,false,false,false,false,false,false,false,false,false,false,false] rfl rfl (aG HT_.out (by kernel_rfl)) (fun _ _ _ h=>h) (Or.inl ⟨by rfl,?_⟩) ?_ ?_
            rotate_left
            ·intro w'
             go_simp
             with_reducible rfl
            rotate_left
            ·simp only [Act.put,zzB,zzC,zzD,av,aw]
             rfl
            refine bh (i:=4) (N:=some 38) (v:=?_) (a':=?_) #[false,false,true,false,true,false,false,false,false,false,false,false,false,false,false,false] rfl rfl (aG HT_.out (by kernel_rfl)) (fun _ _ _ h=>h) (Or.inl ⟨by rfl,?_⟩) ?_ ?_
            rotate_left
            ·intro w'
             go_simp
             with_reducible rfl
            rotate_left
            ·simp only [Act.put,zzB,zzC,zzD,av,aw]
             rfl
            refine bh (i:=5) (N:=some 39) (v:=?_) (a':=?_) #[false,false,true,false,true,true,false,false,false,false,false,false,false,false,false,false] rfl rfl (aG HT_.out (by kernel_rfl)) (fun _ _ _ h=>h) (Or.inl ⟨by rfl,?_⟩) ?_ ?_
            rotate_left
            ·intro w'
             go_simp
             with_reducible rfl
            rotate_left
            ·simp only [Act.put,zzB,zzC,zzD,av,aw]
             rfl
            refine bh (i:=6) (N:=some 40) (v:=?_) (a':=?_) #[false,false,true,false,true,true,true,false,false,false,false,false,false,false,false,false] rfl rfl (aG HT_.out (by kernel_rfl)) (fun _ _ _ h=>h) (Or.inl ⟨by rfl,?_⟩) ?_ ?_
            rotate_left
            ·intro w'
             go_simp
             with_reducible rfl
            rotate_left
            ·simp only [Act.put,zzB,zzC,zzD,av,aw]
             rfl
            refine take_ (i:=0) (N:=some 34) (v:=?_) (a':=?_) #[true,false,true,false,true,true,true,false,false,false,false,false,false,false,false,false] rfl rfl (bI HT_.out HW_.out (by kernel_rfl)) (fun _ _ _ h=>h) (Or.inl ⟨by rfl,?_⟩) hHeld ?_ ?_
            rotate_left
            ·rintro w' ⟨s0,s1,s2⟩
             go_simp
             with_reducible rfl
            rotate_left
            ·simp only [Act.put,zzB,zzC,zzD,av,aw]
             rfl
            refine take_ (i:=7) (N:=some 41) (v:=?_) (a':=?_) #[true,false,true,false,true,true,true,true,false,false,false,false,false,false,false,false] rfl rfl (bI HT_.out HW_.out (by kernel_rfl)) (fun _ _ _ h=>h) (Or.inl ⟨by rfl,?_⟩) hHeld ?_ ?_
            rotate_left
            ·rintro w' ⟨s0,s1,s2⟩
             go_simp
             with_reducible rfl
            rotate_left
            ·simp only [Act.put,zzB,zzC,zzD,av,aw]
             rfl
            refine join_ (σ:=Value × Value × Value) 7 #[true,true,true,true,true,true,true,true,true,false,false,false,false,false,false,false] (fun s_=>[(35,s_.1),(37,s_.2.1),(42,s_.2.2)]) (fun s_ w'=>(w'.cell? ⟨cf,0,none⟩=some (.slice (some ad217) ai.length ap)∧w'.cell? ⟨cf,1,none⟩=some (.slice au ah.length am)∧w'.cell? (ad224.add (x7_1).toNat)=some (.int .i64 (rd (ao ai (l1.length:Int)) x7_1)))∧(Kd.R (Kd.int .i64) 3 w' w0.heap.size (fun k_=>(P1_ k_∨w.heap.size≤k_)∧some k_ ≠ (s_.2.2:Value).ownBlock∧some k_ ≠ (.slice Ao19 l1.length gJ:Value).ownBlock) s_.2.1 y221)∧(Kd.R (Kd.int .i64) 3 w' w0.heap.size (fun k_=>(P1_ k_∨w.heap.size≤k_)∧some k_ ≠ (s_.2.1:Value).ownBlock∧some k_ ≠ (.slice Ao19 l1.length gJ:Value).ownBlock) s_.2.2 y225)∧(Kd.R (Kd.int .i64) 3 w' w0.heap.size (fun k_=>(P1_ k_∨w.heap.size≤k_)∧some k_ ≠ (s_.2.1:Value).ownBlock∧some k_ ≠ (s_.2.2:Value).ownBlock) (.slice Ao19 l1.length gJ) l1)∧(w'.heap[cf]?=some (.cells #[.slice (some ad217) ai.length ap,.slice au ah.length am] 25 (0,0)))∧(Kept w w' (fun k_=>P1_ k_))∧(Below w0.heap.size w0 w')) ?_ ?_
            rotate_left
            ·intro hCont
             refine two_ (i:=1) (j:=8) (Ni:=some 35) (Nj:=some 42) #[true,true,true,false,true,true,true,true,false,false,false,false,false,false,false,false] #[true,false,true,false,true,true,true,true,true,false,false,false,false,false,false,false] rfl rfl rfl rfl (gE HT_.out (by kernel_rfl)) (by decide) (by decide) (fun K hK=>?_) (fun K hK=>?_)
             ·skip
              refine Kd.R_lit_step (Kd.int .i64) _ 3 ?hg (N:=35) ?hd (xs:=([]:List Int)) (inner:=[]) (ok:=fun _=>True) (okp:=fun _=>True) ?hr ?hp (fun _ hk=>hk) trivial (Below.refl _ _) (Nat.le_refl _) (by simp) ?_;(case hd=>rfl);(case hg=>rfl);(case hr=>first|(go_simp;done)|(go_simp;rfl));(case hp=>exact (Reps.none _ _))
              intro v219 w29 ho30 hb hg_ hnew_
              clear hg_ hnew_
              (first|rw [← Ny218.out] at ho30|(simp only [Int.reduceToNat] at ho30;rw [← Ny218.out] at ho30))
              have n0_:=zzA (Kd.R_elder' (by (with_reducible repeat (first|apply Kd.R_alloc|apply Kd.R_drewN|apply Kd.R_drew));exact cA.out) (Kd.R_base ho30) hb)
              have n1_:=zzA (Kd.R_lower (Kd.R_new' (Kd.R_newM (M:=fun k_=>(P1_ k_∨w.heap.size≤k_)) ho30 (by first|exact HK.out.1|exact (show Kept w _ (fun k_=>P1_ k_) from by repeat (first|(with_reducible first|exact HK.out|apply Kept.alloc|apply Kept.drewN|apply Kept.drew|refine Kept.setCell ?_ (.inr bQ.out) _)|exact HK.out)).1) (fun k_ h_=>.inr h_)) (Kd.R_lt (by (with_reducible repeat (first|apply Kd.R_alloc|apply Kd.R_drewN|apply Kd.R_drew));exact cA.out))) (ae (by repeat (first|(with_reducible first|exact HB.out|apply a6|apply a4|apply a5|refine a7 ?_ cm.out)|exact HB.out))))
              have n2_:=zzA (af (g:=cf) (o:=.cells #[.slice (some ad217) ai.length ap,.slice au ah.length am] 25 (0,0)) (by (with_reducible repeat (first|refine aa ?_ _|refine ac ?_|refine a9 ?_ _));exact aD.out) hb)
              have n3_:=zzA (Kept.below (S:=(fun k_=>P1_ k_)) (by repeat (first|(with_reducible first|exact HK.out|apply Kept.alloc|apply Kept.drewN|apply Kept.drew|refine Kept.setCell ?_ (.inr bQ.out) _)|exact HK.out)) hb)
              have n4_:=zzA (ag (by repeat (first|(with_reducible first|exact HB.out|apply a6|apply a4|apply a5|refine a7 ?_ cm.out)|exact HB.out)) hb)
              clear cA
              clear aD
              clear HK
              clear HB
              have cA:=n0_
              have d5:=n1_
              have aD:=n2_
              have HK:=n3_
              have HB:=n4_
              clear n0_ n1_ n2_ n3_ n4_
              clear hb ho30
              refine hK.out _ _ ⟨(a8 aD.out 0).trans rfl,(a8 aD.out 1).trans rfl,(hf224.out _ HK.out)⟩ (fun hHeld=>?_)
              clear hK K
              refine bx (a':=?_) ?_ ?_
              rotate_left
              ·show Act.put _ (some 35) _=_
               simp only [Act.put,zzB,zzC,zzD,av,aw]
               rfl
              refine two_ (i:=3) (j:=8) (Ni:=some 37) (Nj:=some 42) #[true,true,true,true,true,true,true,true,false,false,false,false,false,false,false,false] #[true,true,true,false,true,true,true,true,true,false,false,false,false,false,false,false] rfl rfl rfl rfl (gE HT_.out (by kernel_rfl)) (by decide) (by decide) (fun K hK=>?_) (fun K hK=>?_)
              ·skip
               refine Kd.R_append_rows_step (Kd.int .i64) (w0:=w0) w0.heap.size (by rfl) (.tmp 35) (.tmp 36) 26 3 (.int .i64 0) 8 rfl Try.underlying26 fa rfl (by decide) (by omega) v219 y218 l1 _ _ _ (fun k_=>(P1_ k_∨w.heap.size≤k_)∧some k_ ≠ (.slice Ao19 l1.length gJ:Value).ownBlock) (fun _=>False) rfl rfl ?aO ?aR (fun _ _ h=>h) (fun _ h=>h.elim) ?aF ?aB ?aS ?aL ?_
               (case aR=>repeat (first|exact (Kd.R_reads' cA.out).2.2|(with_reducible refine Kd.C_alloc ?_ _)|(with_reducible refine Kd.C_drewN ?_ _)|(with_reducible refine Kd.C_drew ?_)))
               (case aB=>exact (by repeat (first|(with_reducible first|exact HB.out|apply a6|apply a4|apply a5|refine a7 ?_ cm.out)|exact HB.out)))
               (case aF=>exact (fun k_ hk=>⟨(.inr (Nat.le_trans (by first|exact HK.out.1|exact (show Kept w _ (fun k_=>P1_ k_) from by repeat (first|(with_reducible first|exact HK.out|apply Kept.alloc|apply Kept.drewN|apply Kept.drew|refine Kept.setCell ?_ (.inr bQ.out) _)|exact HK.out)).1) hk)),Kd.fresh' (Kd.R_lt (by (with_reducible repeat (first|apply Kd.R_alloc|apply Kd.R_drewN|apply Kd.R_drew));exact cA.out)) k_ hk⟩))
               (case aO=>exact (by (with_reducible repeat (first|apply Kd.R_alloc|apply Kd.R_drewN|apply Kd.R_drew));exact Kd.R_mono d5.out (fun _ hk=>⟨hk.1.1,hk.2⟩)))
               (case aS=>exact (ae (by repeat (first|(with_reducible first|exact HB.out|apply a6|apply a4|apply a5|refine a7 ?_ cm.out)|exact HB.out))))
               (case aL=>have:=LMc23.out;omega)
               intro v222 w31 ho hb hg hat
               rw [← Ny221.out] at ho
               have n0_:=zzA (Kd.R_after (ok:=(fun k_=>(P1_ k_∨w.heap.size≤k_))) (by (with_reducible repeat (first|apply Kd.R_alloc|apply Kd.R_drewN|apply Kd.R_drew));exact cA.out) hg hat)
               have n1_:=zzA (aU (g:=cf) (o:=.cells #[.slice (some ad217) ai.length ap,.slice au ah.length am] 25 (0,0)) (by (with_reducible repeat (first|refine aa ?_ _|refine ac ?_|refine a9 ?_ _));exact aD.out) hg (Kd.R_ne d5.out aD.out (by decide)))
               have n2_:=zzA (hb)
               have n3_:=zzA (Kept.of_grown (S:=(fun k_=>P1_ k_)) hg (by repeat (first|(with_reducible first|exact HK.out|apply Kept.alloc|apply Kept.drewN|apply Kept.drew|refine Kept.setCell ?_ (.inr bQ.out) _)|exact HK.out)) (fun k_ e_=>(d5.out.1 k_ e_).1.1))
               have n4_:=zzA (ho)
               clear cA
               clear aD
               clear HB
               clear HK
               clear d5
               have cA:=n0_
               have aD:=n1_
               have HB:=n2_
               have HK:=n3_
               have dE:=n4_
               clear n0_ n1_ n2_ n3_ n4_
               clear ho hb hg hat
               refine hK.out _ _ ⟨(a8 aD.out 0).trans rfl,(a8 aD.out 1).trans rfl,(hf224.out _ HK.out)⟩ (fun hHeld=>?_)
               clear hK K
               refine bx (a':=?_) ?_ ?_
               rotate_left
               ·show Act.put _ (some 37) _=_
                simp only [Act.put,zzB,zzC,zzD,av,aw]
                rfl
               refine ep (i:=8) (N:=some 42) #[true,true,true,true,true,true,true,true,true,false,false,false,false,false,false,false] rfl rfl (bE HT_.out (by kernel_rfl)) (by decide) (fun K hK=>?_)
               refine Kd.R_lit_step (Kd.int .i64) _ 3 ?hg (N:=42) ?hd (xs:=([rd (ao ai (l1.length:Int)) x7_1]:List Int)) (inner:=[.int .i64 (rd (ao ai (l1.length:Int)) x7_1)]) (ok:=fun _=>True) (okp:=fun _=>True) ?hr ?hp (fun _ hk=>hk) trivial (Below.refl _ _) (Nat.le_refl _) (by simp) ?_;(case hd=>rfl);(case hg=>rfl);(case hr=>first|(go_simp;done)|(go_simp;rfl));(case hp=>exact (Reps.one (show Kd.M (Kd.int .i64) _ _ _ (rd (ao ai (l1.length:Int)) x7_1) [.int .i64 (rd (ao ai (l1.length:Int)) x7_1)] from rfl) (Reps.none _ _)))
               intro v226 w32 ho33 hb hg_ hnew_
               clear hg_ hnew_
               (first|rw [← Ny225.out] at ho33|(simp only [Int.reduceToNat] at ho33;rw [← Ny225.out] at ho33))
               have n0_:=zzA (Kd.R_elder' (by (with_reducible repeat (first|apply Kd.R_alloc|apply Kd.R_drewN|apply Kd.R_drew));exact cA.out) (Kd.R_base ho33) hb)
               have n1_:=zzA (Kd.R_elder' (by (with_reducible repeat (first|apply Kd.R_alloc|apply Kd.R_drewN|apply Kd.R_drew));exact dE.out) (Kd.R_base ho33) hb)
               have n2_:=zzA (Kd.R_lower (Kd.R_new' (Kd.R_new' (Kd.R_newM (M:=fun k_=>(P1_ k_∨w.heap.size≤k_)) ho33 (by first|exact HK.out.1|exact (show Kept w _ (fun k_=>P1_ k_) from by repeat (first|(with_reducible first|exact HK.out|apply Kept.alloc|apply Kept.drewN|apply Kept.drew|refine Kept.setCell ?_ (.inr bQ.out) _)|exact HK.out)).1) (fun k_ h_=>.inr h_)) (Kd.R_lt (by (with_reducible repeat (first|apply Kd.R_alloc|apply Kd.R_drewN|apply Kd.R_drew));exact cA.out))) (Kd.R_lt (by (with_reducible repeat (first|apply Kd.R_alloc|apply Kd.R_drewN|apply Kd.R_drew));exact dE.out))) (ae (by repeat (first|(with_reducible first|exact HB.out|apply a6|apply a4|apply a5|refine a7 ?_ cm.out)|exact HB.out))))
               have n3_:=zzA (af (g:=cf) (o:=.cells #[.slice (some ad217) ai.length ap,.slice au ah.length am] 25 (0,0)) (by (with_reducible repeat (first|refine aa ?_ _|refine ac ?_|refine a9 ?_ _));exact aD.out) hb)
               have n4_:=zzA (Kept.below (S:=(fun k_=>P1_ k_)) (by repeat (first|(with_reducible first|exact HK.out|apply Kept.alloc|apply Kept.drewN|apply Kept.drew|refine Kept.setCell ?_ (.inr bQ.out) _)|exact HK.out)) hb)
               have n5_:=zzA (ag (by repeat (first|(with_reducible first|exact HB.out|apply a6|apply a4|apply a5|refine a7 ?_ cm.out)|exact HB.out)) hb)
               clear cA
               clear dE
               clear aD
               clear HK
               clear HB
               have cA:=n0_
               have dE:=n1_
               have cb:=n2_
               have aD:=n3_
               have HK:=n4_
               have HB:=n5_
               clear n0_ n1_ n2_ n3_ n4_ n5_
               clear hb ho33
               refine hK.out _ _ ⟨(a8 aD.out 0).trans rfl,(a8 aD.out 1).trans rfl,(hf224.out _ HK.out)⟩ (fun hHeld=>?_)
               clear hK K
               refine bx (a':=?_) ?_ ?_
               rotate_left
               ·show Act.put _ (some 42) _=_
                simp only [Act.put,zzB,zzC,zzD,av,aw]
                rfl
               exact bx (by simp only [cZ,Act.put,zzB,zzC,zzD]) (hCont (v219,v222,v226) _ ⟨hHeld,(by (with_reducible repeat (first|apply Kd.R_alloc|apply Kd.R_drewN|apply Kd.R_drew));exact Kd.R_mono dE.out (fun _ hk=>⟨hk.1.1,⟨hk.2,hk.1.2⟩⟩)),(by (with_reducible repeat (first|apply Kd.R_alloc|apply Kd.R_drewN|apply Kd.R_drew));exact Kd.R_mono cb.out (fun _ hk=>⟨hk.1.1.1,⟨hk.2,hk.1.2⟩⟩)),(by (with_reducible repeat (first|apply Kd.R_alloc|apply Kd.R_drewN|apply Kd.R_drew));exact Kd.R_mono cA.out (fun _ hk=>⟨hk.1.1,⟨hk.1.2,hk.2⟩⟩)),(by (with_reducible repeat (first|refine aa ?_ _|refine ac ?_|refine a9 ?_ _));exact aD.out),(by repeat (first|(with_reducible first|exact HK.out|apply Kept.alloc|apply Kept.drewN|apply Kept.drew|refine Kept.setCell ?_ (.inr bQ.out) _)|exact HK.out)),(by repeat (first|(with_reducible first|exact HB.out|apply a6|apply a4|apply a5|refine a7 ?_ cm.out)|exact HB.out))⟩)
              ·skip
               refine Kd.R_lit_step (Kd.int .i64) _ 3 ?hg (N:=42) ?hd (xs:=([rd (ao ai (l1.length:Int)) x7_1]:List Int)) (inner:=[.int .i64 (rd (ao ai (l1.length:Int)) x7_1)]) (ok:=fun _=>True) (okp:=fun _=>True) ?hr ?hp (fun _ hk=>hk) trivial (Below.refl _ _) (Nat.le_refl _) (by simp) ?_;(case hd=>rfl);(case hg=>rfl);(case hr=>first|(go_simp;done)|(go_simp;rfl));(case hp=>exact (Reps.one (show Kd.M (Kd.int .i64) _ _ _ (rd (ao ai (l1.length:Int)) x7_1) [.int .i64 (rd (ao ai (l1.length:Int)) x7_1)] from rfl) (Reps.none _ _)))
               intro v226 w31 ho32 hb hg_ hnew_
               clear hg_ hnew_
               (first|rw [← Ny225.out] at ho32|(simp only [Int.reduceToNat] at ho32;rw [← Ny225.out] at ho32))
               have n0_:=zzA (Kd.R_elder' (by (with_reducible repeat (first|apply Kd.R_alloc|apply Kd.R_drewN|apply Kd.R_drew));exact cA.out) (Kd.R_base ho32) hb)
               have n1_:=zzA (Kd.R_elder' (by (with_reducible repeat (first|apply Kd.R_alloc|apply Kd.R_drewN|apply Kd.R_drew));exact d5.out) (Kd.R_base ho32) hb)
               have n2_:=zzA (Kd.R_lower (Kd.R_new' (Kd.R_new' (Kd.R_newM (M:=fun k_=>(P1_ k_∨w.heap.size≤k_)) ho32 (by first|exact HK.out.1|exact (show Kept w _ (fun k_=>P1_ k_) from by repeat (first|(with_reducible first|exact HK.out|apply Kept.alloc|apply Kept.drewN|apply Kept.drew|refine Kept.setCell ?_ (.inr bQ.out) _)|exact HK.out)).1) (fun k_ h_=>.inr h_)) (Kd.R_lt (by (with_reducible repeat (first|apply Kd.R_alloc|apply Kd.R_drewN|apply Kd.R_drew));exact cA.out))) (Kd.R_lt (by (with_reducible repeat (first|apply Kd.R_alloc|apply Kd.R_drewN|apply Kd.R_drew));exact d5.out))) (ae (by repeat (first|(with_reducible first|exact HB.out|apply a6|apply a4|apply a5|refine a7 ?_ cm.out)|exact HB.out))))
               have n3_:=zzA (af (g:=cf) (o:=.cells #[.slice (some ad217) ai.length ap,.slice au ah.length am] 25 (0,0)) (by (with_reducible repeat (first|refine aa ?_ _|refine ac ?_|refine a9 ?_ _));exact aD.out) hb)
               have n4_:=zzA (Kept.below (S:=(fun k_=>P1_ k_)) (by repeat (first|(with_reducible first|exact HK.out|apply Kept.alloc|apply Kept.drewN|apply Kept.drew|refine Kept.setCell ?_ (.inr bQ.out) _)|exact HK.out)) hb)
               have n5_:=zzA (ag (by repeat (first|(with_reducible first|exact HB.out|apply a6|apply a4|apply a5|refine a7 ?_ cm.out)|exact HB.out)) hb)
               clear cA
               clear d5
               clear aD
               clear HK
               clear HB
               have cA:=n0_
               have d5:=n1_
               have cb:=n2_
               have aD:=n3_
               have HK:=n4_
               have HB:=n5_
               clear n0_ n1_ n2_ n3_ n4_ n5_
               clear hb ho32
               refine hK.out _ _ ⟨(a8 aD.out 0).trans rfl,(a8 aD.out 1).trans rfl,(hf224.out _ HK.out)⟩ (fun hHeld=>?_)
               clear hK K
               refine bx (a':=?_) ?_ ?_
               rotate_left
               ·show Act.put _ (some 42) _=_
                simp only [Act.put,zzB,zzC,zzD,av,aw]
                rfl
               refine ep (i:=3) (N:=some 37) #[true,true,true,true,true,true,true,true,true,false,false,false,false,false,false,false] rfl rfl (bE HT_.out (by kernel_rfl)) (by decide) (fun K hK=>?_)
               refine Kd.R_append_rows_step (Kd.int .i64) (w0:=w0) w0.heap.size (by rfl) (.tmp 35) (.tmp 36) 26 3 (.int .i64 0) 8 rfl Try.underlying26 fa rfl (by decide) (by omega) v219 y218 l1 _ _ _ (fun k_=>(P1_ k_∨w.heap.size≤k_)∧some k_ ≠ (.slice Ao19 l1.length gJ:Value).ownBlock∧some k_ ≠ (v226:Value).ownBlock) (fun _=>False) rfl rfl ?aO ?aR (fun _ _ h=>h) (fun _ h=>h.elim) ?aF ?aB ?aS ?aL ?_
               (case aR=>repeat (first|exact (Kd.R_reads' cA.out).2.2|(with_reducible refine Kd.C_alloc ?_ _)|(with_reducible refine Kd.C_drewN ?_ _)|(with_reducible refine Kd.C_drew ?_)))
               (case aB=>exact (by repeat (first|(with_reducible first|exact HB.out|apply a6|apply a4|apply a5|refine a7 ?_ cm.out)|exact HB.out)))
               (case aF=>exact (fun k_ hk=>⟨(.inr (Nat.le_trans (by first|exact HK.out.1|exact (show Kept w _ (fun k_=>P1_ k_) from by repeat (first|(with_reducible first|exact HK.out|apply Kept.alloc|apply Kept.drewN|apply Kept.drew|refine Kept.setCell ?_ (.inr bQ.out) _)|exact HK.out)).1) hk)),Kd.fresh' (Kd.R_lt (by (with_reducible repeat (first|apply Kd.R_alloc|apply Kd.R_drewN|apply Kd.R_drew));exact cA.out)) k_ hk,Kd.fresh' (Kd.R_lt (by (with_reducible repeat (first|apply Kd.R_alloc|apply Kd.R_drewN|apply Kd.R_drew));exact cb.out)) k_ hk⟩))
               (case aO=>exact (by (with_reducible repeat (first|apply Kd.R_alloc|apply Kd.R_drewN|apply Kd.R_drew));exact Kd.R_mono d5.out (fun _ hk=>⟨hk.1.1.1,⟨hk.1.2,hk.2⟩⟩)))
               (case aS=>exact (ae (by repeat (first|(with_reducible first|exact HB.out|apply a6|apply a4|apply a5|refine a7 ?_ cm.out)|exact HB.out))))
               (case aL=>have:=LMc23.out;omega)
               intro v222 w33 ho hb hg hat
               rw [← Ny221.out] at ho
               have n0_:=zzA (Kd.R_after (ok:=(fun k_=>(P1_ k_∨w.heap.size≤k_)∧some k_ ≠ (v226:Value).ownBlock)) (by (with_reducible repeat (first|apply Kd.R_alloc|apply Kd.R_drewN|apply Kd.R_drew));exact Kd.R_mono cA.out (fun _ hk=>⟨⟨hk.1.1,hk.2⟩,hk.1.2⟩)) hg hat)
               have n1_:=zzA (aU (g:=cf) (o:=.cells #[.slice (some ad217) ai.length ap,.slice au ah.length am] 25 (0,0)) (by (with_reducible repeat (first|refine aa ?_ _|refine ac ?_|refine a9 ?_ _));exact aD.out) hg (Kd.R_ne d5.out aD.out (by decide)))
               have n2_:=zzA (Kd.R_after (ok:=(fun k_=>(P1_ k_∨w.heap.size≤k_)∧some k_ ≠ (.slice Ao19 l1.length gJ:Value).ownBlock)) (by (with_reducible repeat (first|apply Kd.R_alloc|apply Kd.R_drewN|apply Kd.R_drew));exact Kd.R_mono cb.out (fun _ hk=>⟨⟨hk.1.1.1,hk.1.2⟩,hk.2⟩)) hg hat)
               have n3_:=zzA (hb)
               have n4_:=zzA (Kept.of_grown (S:=(fun k_=>P1_ k_)) hg (by repeat (first|(with_reducible first|exact HK.out|apply Kept.alloc|apply Kept.drewN|apply Kept.drew|refine Kept.setCell ?_ (.inr bQ.out) _)|exact HK.out)) (fun k_ e_=>(d5.out.1 k_ e_).1.1.1))
               have n5_:=zzA (ho)
               clear cA
               clear aD
               clear cb
               clear HB
               clear HK
               clear d5
               have cA:=n0_
               have aD:=n1_
               have cb:=n2_
               have HB:=n3_
               have HK:=n4_
               have dE:=n5_
               clear n0_ n1_ n2_ n3_ n4_ n5_
               clear ho hb hg hat
               refine hK.out _ _ ⟨(a8 aD.out 0).trans rfl,(a8 aD.out 1).trans rfl,(hf224.out _ HK.out)⟩ (fun hHeld=>?_)
               clear hK K
               refine bx (a':=?_) ?_ ?_
               rotate_left
               ·show Act.put _ (some 37) _=_
                simp only [Act.put,zzB,zzC,zzD,av,aw]
                rfl
               exact bx (by simp only [cZ,Act.put,zzB,zzC,zzD]) (hCont (v219,v222,v226) _ ⟨hHeld,(by (with_reducible repeat (first|apply Kd.R_alloc|apply Kd.R_drewN|apply Kd.R_drew));exact Kd.R_mono dE.out (fun _ hk=>⟨hk.1,⟨hk.2.2,hk.2.1⟩⟩)),(by (with_reducible repeat (first|apply Kd.R_alloc|apply Kd.R_drewN|apply Kd.R_drew));exact Kd.R_mono cb.out (fun _ hk=>⟨hk.1.1,⟨hk.2,hk.1.2⟩⟩)),(by (with_reducible repeat (first|apply Kd.R_alloc|apply Kd.R_drewN|apply Kd.R_drew));exact Kd.R_mono cA.out (fun _ hk=>⟨hk.1.1,⟨hk.2,hk.1.2⟩⟩)),(by (with_reducible repeat (first|refine aa ?_ _|refine ac ?_|refine a9 ?_ _));exact aD.out),(by repeat (first|(with_reducible first|exact HK.out|apply Kept.alloc|apply Kept.drewN|apply Kept.drew|refine Kept.setCell ?_ (.inr bQ.out) _)|exact HK.out)),(by repeat (first|(with_reducible first|exact HB.out|apply a6|apply a4|apply a5|refine a7 ?_ cm.out)|exact HB.out))⟩)
             ·skip
              refine Kd.R_lit_step (Kd.int .i64) _ 3 ?hg (N:=42) ?hd (xs:=([rd (ao ai (l1.length:Int)) x7_1]:List Int)) (inner:=[.int .i64 (rd (ao ai (l1.length:Int)) x7_1)]) (ok:=fun _=>True) (okp:=fun _=>True) ?hr ?hp (fun _ hk=>hk) trivial (Below.refl _ _) (Nat.le_refl _) (by simp) ?_;(case hd=>rfl);(case hg=>rfl);(case hr=>first|(go_simp;done)|(go_simp;rfl));(case hp=>exact (Reps.one (show Kd.M (Kd.int .i64) _ _ _ (rd (ao ai (l1.length:Int)) x7_1) [.int .i64 (rd (ao ai (l1.length:Int)) x7_1)] from rfl) (Reps.none _ _)))
              intro v226 w29 ho30 hb hg_ hnew_
              clear hg_ hnew_
              (first|rw [← Ny225.out] at ho30|(simp only [Int.reduceToNat] at ho30;rw [← Ny225.out] at ho30))
              have n0_:=zzA (Kd.R_elder' (by (with_reducible repeat (first|apply Kd.R_alloc|apply Kd.R_drewN|apply Kd.R_drew));exact cA.out) (Kd.R_base ho30) hb)
              have n1_:=zzA (Kd.R_lower (Kd.R_new' (Kd.R_newM (M:=fun k_=>(P1_ k_∨w.heap.size≤k_)) ho30 (by first|exact HK.out.1|exact (show Kept w _ (fun k_=>P1_ k_) from by repeat (first|(with_reducible first|exact HK.out|apply Kept.alloc|apply Kept.drewN|apply Kept.drew|refine Kept.setCell ?_ (.inr bQ.out) _)|exact HK.out)).1) (fun k_ h_=>.inr h_)) (Kd.R_lt (by (with_reducible repeat (first|apply Kd.R_alloc|apply Kd.R_drewN|apply Kd.R_drew));exact cA.out))) (ae (by repeat (first|(with_reducible first|exact HB.out|apply a6|apply a4|apply a5|refine a7 ?_ cm.out)|exact HB.out))))
              have n2_:=zzA (af (g:=cf) (o:=.cells #[.slice (some ad217) ai.length ap,.slice au ah.length am] 25 (0,0)) (by (with_reducible repeat (first|refine aa ?_ _|refine ac ?_|refine a9 ?_ _));exact aD.out) hb)
              have n3_:=zzA (Kept.below (S:=(fun k_=>P1_ k_)) (by repeat (first|(with_reducible first|exact HK.out|apply Kept.alloc|apply Kept.drewN|apply Kept.drew|refine Kept.setCell ?_ (.inr bQ.out) _)|exact HK.out)) hb)
              have n4_:=zzA (ag (by repeat (first|(with_reducible first|exact HB.out|apply a6|apply a4|apply a5|refine a7 ?_ cm.out)|exact HB.out)) hb)
              clear cA
              clear aD
              clear HK
              clear HB
              have cA:=n0_
              have cb:=n1_
              have aD:=n2_
              have HK:=n3_
              have HB:=n4_
              clear n0_ n1_ n2_ n3_ n4_
              clear hb ho30
              refine hK.out _ _ ⟨(a8 aD.out 0).trans rfl,(a8 aD.out 1).trans rfl,(hf224.out _ HK.out)⟩ (fun hHeld=>?_)
              clear hK K
              refine bx (a':=?_) ?_ ?_
              rotate_left
              ·show Act.put _ (some 42) _=_
               simp only [Act.put,zzB,zzC,zzD,av,aw]
               rfl
              refine ep (i:=1) (N:=some 35) #[true,true,true,false,true,true,true,true,true,false,false,false,false,false,false,false] rfl rfl (bE HT_.out (by kernel_rfl)) (by decide) (fun K hK=>?_)
              refine Kd.R_lit_step (Kd.int .i64) _ 3 ?hg (N:=35) ?hd (xs:=([]:List Int)) (inner:=[]) (ok:=fun _=>True) (okp:=fun _=>True) ?hr ?hp (fun _ hk=>hk) trivial (Below.refl _ _) (Nat.le_refl _) (by simp) ?_;(case hd=>rfl);(case hg=>rfl);(case hr=>first|(go_simp;done)|(go_simp;rfl));(case hp=>exact (Reps.none _ _))
              intro v219 w31 ho32 hb hg_ hnew_
              clear hg_ hnew_
              (first|rw [← Ny218.out] at ho32|(simp only [Int.reduceToNat] at ho32;rw [← Ny218.out] at ho32))
              have n0_:=zzA (Kd.R_elder' (by (with_reducible repeat (first|apply Kd.R_alloc|apply Kd.R_drewN|apply Kd.R_drew));exact cA.out) (Kd.R_base ho32) hb)
              have n1_:=zzA (Kd.R_elder' (by (with_reducible repeat (first|apply Kd.R_alloc|apply Kd.R_drewN|apply Kd.R_drew));exact cb.out) (Kd.R_base ho32) hb)
              have n2_:=zzA (Kd.R_lower (Kd.R_new' (Kd.R_new' (Kd.R_newM (M:=fun k_=>(P1_ k_∨w.heap.size≤k_)) ho32 (by first|exact HK.out.1|exact (show Kept w _ (fun k_=>P1_ k_) from by repeat (first|(with_reducible first|exact HK.out|apply Kept.alloc|apply Kept.drewN|apply Kept.drew|refine Kept.setCell ?_ (.inr bQ.out) _)|exact HK.out)).1) (fun k_ h_=>.inr h_)) (Kd.R_lt (by (with_reducible repeat (first|apply Kd.R_alloc|apply Kd.R_drewN|apply Kd.R_drew));exact cA.out))) (Kd.R_lt (by (with_reducible repeat (first|apply Kd.R_alloc|apply Kd.R_drewN|apply Kd.R_drew));exact cb.out))) (ae (by repeat (first|(with_reducible first|exact HB.out|apply a6|apply a4|apply a5|refine a7 ?_ cm.out)|exact HB.out))))
              have n3_:=zzA (af (g:=cf) (o:=.cells #[.slice (some ad217) ai.length ap,.slice au ah.length am] 25 (0,0)) (by (with_reducible repeat (first|refine aa ?_ _|refine ac ?_|refine a9 ?_ _));exact aD.out) hb)
              have n4_:=zzA (Kept.below (S:=(fun k_=>P1_ k_)) (by repeat (first|(with_reducible first|exact HK.out|apply Kept.alloc|apply Kept.drewN|apply Kept.drew|refine Kept.setCell ?_ (.inr bQ.out) _)|exact HK.out)) hb)
              have n5_:=zzA (ag (by repeat (first|(with_reducible first|exact HB.out|apply a6|apply a4|apply a5|refine a7 ?_ cm.out)|exact HB.out)) hb)
              clear cA
              clear cb
              clear aD
              clear HK
              clear HB
              have cA:=n0_
              have cb:=n1_
              have d5:=n2_
              have aD:=n3_
              have HK:=n4_
              have HB:=n5_
              clear n0_ n1_ n2_ n3_ n4_ n5_
              clear hb ho32
              refine hK.out _ _ ⟨(a8 aD.out 0).trans rfl,(a8 aD.out 1).trans rfl,(hf224.out _ HK.out)⟩ (fun hHeld=>?_)
              clear hK K
              refine bx (a':=?_) ?_ ?_
              rotate_left
              ·show Act.put _ (some 35) _=_
               simp only [Act.put,zzB,zzC,zzD,av,aw]
               rfl
              refine ep (i:=3) (N:=some 37) #[true,true,true,true,true,true,true,true,true,false,false,false,false,false,false,false] rfl rfl (bE HT_.out (by kernel_rfl)) (by decide) (fun K hK=>?_)
              refine Kd.R_append_rows_step (Kd.int .i64) (w0:=w0) w0.heap.size (by rfl) (.tmp 35) (.tmp 36) 26 3 (.int .i64 0) 8 rfl Try.underlying26 fa rfl (by decide) (by omega) v219 y218 l1 _ _ _ (fun k_=>(P1_ k_∨w.heap.size≤k_)∧some k_ ≠ (.slice Ao19 l1.length gJ:Value).ownBlock∧some k_ ≠ (v226:Value).ownBlock) (fun _=>False) rfl rfl ?aO ?aR (fun _ _ h=>h) (fun _ h=>h.elim) ?aF ?aB ?aS ?aL ?_
              (case aR=>repeat (first|exact (Kd.R_reads' cA.out).2.2|(with_reducible refine Kd.C_alloc ?_ _)|(with_reducible refine Kd.C_drewN ?_ _)|(with_reducible refine Kd.C_drew ?_)))
              (case aB=>exact (by repeat (first|(with_reducible first|exact HB.out|apply a6|apply a4|apply a5|refine a7 ?_ cm.out)|exact HB.out)))
              (case aF=>exact (fun k_ hk=>⟨(.inr (Nat.le_trans (by first|exact HK.out.1|exact (show Kept w _ (fun k_=>P1_ k_) from by repeat (first|(with_reducible first|exact HK.out|apply Kept.alloc|apply Kept.drewN|apply Kept.drew|refine Kept.setCell ?_ (.inr bQ.out) _)|exact HK.out)).1) hk)),Kd.fresh' (Kd.R_lt (by (with_reducible repeat (first|apply Kd.R_alloc|apply Kd.R_drewN|apply Kd.R_drew));exact cA.out)) k_ hk,Kd.fresh' (Kd.R_lt (by (with_reducible repeat (first|apply Kd.R_alloc|apply Kd.R_drewN|apply Kd.R_drew));exact cb.out)) k_ hk⟩))
              (case aO=>exact (by (with_reducible repeat (first|apply Kd.R_alloc|apply Kd.R_drewN|apply Kd.R_drew));exact Kd.R_mono d5.out (fun _ hk=>⟨hk.1.1.1,⟨hk.1.2,hk.2⟩⟩)))
              (case aS=>exact (ae (by repeat (first|(with_reducible first|exact HB.out|apply a6|apply a4|apply a5|refine a7 ?_ cm.out)|exact HB.out))))
              (case aL=>have:=LMc23.out;omega)
              intro v222 w33 ho hb hg hat
              rw [← Ny221.out] at ho
              have n0_:=zzA (Kd.R_after (ok:=(fun k_=>(P1_ k_∨w.heap.size≤k_)∧some k_ ≠ (v226:Value).ownBlock)) (by (with_reducible repeat (first|apply Kd.R_alloc|apply Kd.R_drewN|apply Kd.R_drew));exact cA.out) hg hat)
              have n1_:=zzA (aU (g:=cf) (o:=.cells #[.slice (some ad217) ai.length ap,.slice au ah.length am] 25 (0,0)) (by (with_reducible repeat (first|refine aa ?_ _|refine ac ?_|refine a9 ?_ _));exact aD.out) hg (Kd.R_ne d5.out aD.out (by decide)))
              have n2_:=zzA (Kd.R_after (ok:=(fun k_=>(P1_ k_∨w.heap.size≤k_)∧some k_ ≠ (.slice Ao19 l1.length gJ:Value).ownBlock)) (by (with_reducible repeat (first|apply Kd.R_alloc|apply Kd.R_drewN|apply Kd.R_drew));exact Kd.R_mono cb.out (fun _ hk=>⟨⟨hk.1.1.1,hk.1.2⟩,hk.2⟩)) hg hat)
              have n3_:=zzA (hb)
              have n4_:=zzA (Kept.of_grown (S:=(fun k_=>P1_ k_)) hg (by repeat (first|(with_reducible first|exact HK.out|apply Kept.alloc|apply Kept.drewN|apply Kept.drew|refine Kept.setCell ?_ (.inr bQ.out) _)|exact HK.out)) (fun k_ e_=>(d5.out.1 k_ e_).1.1.1))
              have n5_:=zzA (ho)
              clear cA
              clear aD
              clear cb
              clear HB
              clear HK
              clear d5
              have cA:=n0_
              have aD:=n1_
              have cb:=n2_
              have HB:=n3_
              have HK:=n4_
              have dE:=n5_
              clear n0_ n1_ n2_ n3_ n4_ n5_
              clear ho hb hg hat
              refine hK.out _ _ ⟨(a8 aD.out 0).trans rfl,(a8 aD.out 1).trans rfl,(hf224.out _ HK.out)⟩ (fun hHeld=>?_)
              clear hK K
              refine bx (a':=?_) ?_ ?_
              rotate_left
              ·show Act.put _ (some 37) _=_
               simp only [Act.put,zzB,zzC,zzD,av,aw]
               rfl
              exact bx (by simp only [cZ,Act.put,zzB,zzC,zzD]) (hCont (v219,v222,v226) _ ⟨hHeld,(by (with_reducible repeat (first|apply Kd.R_alloc|apply Kd.R_drewN|apply Kd.R_drew));exact Kd.R_mono dE.out (fun _ hk=>⟨hk.1,⟨hk.2.2,hk.2.1⟩⟩)),(by (with_reducible repeat (first|apply Kd.R_alloc|apply Kd.R_drewN|apply Kd.R_drew));exact Kd.R_mono cb.out (fun _ hk=>⟨hk.1.1,⟨hk.2,hk.1.2⟩⟩)),(by (with_reducible repeat (first|apply Kd.R_alloc|apply Kd.R_drewN|apply Kd.R_drew));exact Kd.R_mono cA.out (fun _ hk=>⟨hk.1.1,⟨hk.2,hk.1.2⟩⟩)),(by (with_reducible repeat (first|refine aa ?_ _|refine ac ?_|refine a9 ?_ _));exact aD.out),(by repeat (first|(with_reducible first|exact HK.out|apply Kept.alloc|apply Kept.drewN|apply Kept.drew|refine Kept.setCell ?_ (.inr bQ.out) _)|exact HK.out)),(by repeat (first|(with_reducible first|exact HB.out|apply a6|apply a4|apply a5|refine a7 ?_ cm.out)|exact HB.out))⟩)
            rintro ⟨v219,v222,v226⟩ w34 ⟨hS_,h0_,h1_,h2_,h3_,h4_,h5_⟩
            have n0_:Aside0 (Kd.R (Kd.int .i64) 3 w34 w0.heap.size (fun k_=>(P1_ k_∨w.heap.size≤k_)∧some k_ ≠ (v226:Value).ownBlock∧some k_ ≠ (.slice Ao19 l1.length gJ:Value).ownBlock) v222 y221):=⟨h0_⟩
            have n1_:Aside0 (Kd.R (Kd.int .i64) 3 w34 w0.heap.size (fun k_=>(P1_ k_∨w.heap.size≤k_)∧some k_ ≠ (v222:Value).ownBlock∧some k_ ≠ (.slice Ao19 l1.length gJ:Value).ownBlock) v226 y225):=⟨h1_⟩
            have n2_:Aside0 (Kd.R (Kd.int .i64) 3 w34 w0.heap.size (fun k_=>(P1_ k_∨w.heap.size≤k_)∧some k_ ≠ (v222:Value).ownBlock∧some k_ ≠ (v226:Value).ownBlock) (.slice Ao19 l1.length gJ) l1):=⟨h2_⟩
            have n3_:Aside0 (w34.heap[cf]?=some (.cells #[.slice (some ad217) ai.length ap,.slice au ah.length am] 25 (0,0))):=⟨h3_⟩
            have n4_:Aside0 (Kept w w34 (fun k_=>P1_ k_)):=⟨h4_⟩
            have n5_:Aside0 (Below w0.heap.size w0 w34):=⟨h5_⟩
            clear cA
            clear aD
            clear HK
            clear HB
            clear h0_ h1_ h2_ h3_ h4_ h5_
            have dE:=n0_
            have cb:=n1_
            have cA:=n2_
            have aD:=n3_
            have HK:=n4_
            have HB:=n5_
            clear n0_ n1_ n2_ n3_ n4_ n5_
            have hHeld:w34.cell? ⟨cf,0,none⟩=some (.slice (some ad217) ai.length ap)∧w34.cell? ⟨cf,1,none⟩=some (.slice au ah.length am)∧w34.cell? (ad224.add (x7_1).toNat)=some (.int .i64 (rd (ao ai (l1.length:Int)) x7_1)):=hS_
            obtain ⟨Ao36,co36,eo36⟩:=Kd.R_slice cb.out
            (first|subst eo36|(injection eo36 with f1_ f2_ f3_;have f4_:=f1_.symm;have f5_:=f3_.symm;clear f1_ f2_ f3_;subst f4_;subst f5_))
            refine bx (a':=?_) ?_ ?_
            rotate_left
            ·simp only [cZ,Act.put,zzB,zzC,zzD]
             rfl
            refine ep (i:=9) (N:=some 43) #[true,true,true,true,true,true,true,true,true,true,false,false,false,false,false,false] rfl rfl (bE HT_.out (by kernel_rfl)) (by decide) (fun K hK=>?_)
            refine Kd.R_append_rows_step (Kd.int .i64) (w0:=w0) w0.heap.size (by rfl) (.tmp 37) (.tmp 42) 26 3 (.int .i64 0) 8 rfl Try.underlying26 fa rfl (by decide) (by omega) v222 y221 y225 _ _ _ (fun k_=>(P1_ k_∨w.heap.size≤k_)∧some k_ ≠ (.slice Ao19 l1.length gJ:Value).ownBlock∧some k_ ≠ (.slice Ao36 y225.length co36:Value).ownBlock) (fun _=>False) rfl rfl ?aO ?aR (fun _ _ h=>h) (fun _ h=>h.elim) ?aF ?aB ?aS ?aL ?_
            (case aR=>repeat (first|exact (Kd.R_reads' cb.out).2.2|(with_reducible refine Kd.C_alloc ?_ _)|(with_reducible refine Kd.C_drewN ?_ _)|(with_reducible refine Kd.C_drew ?_)))
            (case aB=>exact (by repeat (first|(with_reducible first|exact HB.out|apply a6|apply a4|apply a5|refine a7 ?_ cm.out)|exact HB.out)))
            (case aF=>exact (fun k_ hk=>⟨(.inr (Nat.le_trans (by first|exact HK.out.1|exact (show Kept w _ (fun k_=>P1_ k_) from by repeat (first|(with_reducible first|exact HK.out|apply Kept.alloc|apply Kept.drewN|apply Kept.drew|refine Kept.setCell ?_ (.inr bQ.out) _)|exact HK.out)).1) hk)),Kd.fresh' (Kd.R_lt (by (with_reducible repeat (first|apply Kd.R_alloc|apply Kd.R_drewN|apply Kd.R_drew));exact cA.out)) k_ hk,Kd.fresh' (Kd.R_lt (by (with_reducible repeat (first|apply Kd.R_alloc|apply Kd.R_drewN|apply Kd.R_drew));exact cb.out)) k_ hk⟩))
            (case aO=>exact (by (with_reducible repeat (first|apply Kd.R_alloc|apply Kd.R_drewN|apply Kd.R_drew));exact Kd.R_mono dE.out (fun _ hk=>⟨hk.1,⟨hk.2.2,hk.2.1⟩⟩)))
            (case aS=>exact (ae (by repeat (first|(with_reducible first|exact HB.out|apply a6|apply a4|apply a5|refine a7 ?_ cm.out)|exact HB.out))))
            (case aL=>have:=LMc25.out;omega)
            intro v229 w35 ho hb hg hat
            rw [← Ny228.out] at ho
            have n0_:=zzA (Kd.R_after (ok:=(fun k_=>(P1_ k_∨w.heap.size≤k_)∧some k_ ≠ (.slice Ao36 y225.length co36:Value).ownBlock)) (by (with_reducible repeat (first|apply Kd.R_alloc|apply Kd.R_drewN|apply Kd.R_drew));exact Kd.R_mono cA.out (fun _ hk=>⟨⟨hk.1,hk.2.2⟩,hk.2.1⟩)) hg hat)
            have n1_:=zzA (aU (g:=cf) (o:=.cells #[.slice (some ad217) ai.length ap,.slice au ah.length am] 25 (0,0)) (by (with_reducible repeat (first|refine aa ?_ _|refine ac ?_|refine a9 ?_ _));exact aD.out) hg (Kd.R_ne dE.out aD.out (by decide)))
            have n2_:=zzA (Kd.R_after (ok:=(fun k_=>(P1_ k_∨w.heap.size≤k_)∧some k_ ≠ (.slice Ao19 l1.length gJ:Value).ownBlock)) (by (with_reducible repeat (first|apply Kd.R_alloc|apply Kd.R_drewN|apply Kd.R_drew));exact Kd.R_mono cb.out (fun _ hk=>⟨⟨hk.1,hk.2.2⟩,hk.2.1⟩)) hg hat)
            have n3_:=zzA (hb)
            have n4_:=zzA (Kept.of_grown (S:=(fun k_=>P1_ k_)) hg (by repeat (first|(with_reducible first|exact HK.out|apply Kept.alloc|apply Kept.drewN|apply Kept.drew|refine Kept.setCell ?_ (.inr bQ.out) _)|exact HK.out)) (fun k_ e_=>(dE.out.1 k_ e_).1))
            have n5_:=zzA (ho)
            clear cA
            clear aD
            clear cb
            clear HB
            clear HK
            clear dE
            have cA:=n0_
            have aD:=n1_
            have cb:=n2_
            have HB:=n3_
            have HK:=n4_
            have gt:=n5_
            clear n0_ n1_ n2_ n3_ n4_ n5_
            clear ho hb hg hat
            obtain ⟨Ao37,co37,eo37⟩:=Kd.R_slice gt.out
            (first|subst eo37|(injection eo37 with f1_ f2_ f3_;have f4_:=f1_.symm;have f5_:=f3_.symm;clear f1_ f2_ f3_;subst f4_;subst f5_))
            refine hK.out _ _ ⟨(a8 aD.out 0).trans rfl,(a8 aD.out 1).trans rfl,(hf224.out _ HK.out)⟩ (fun hHeld=>?_)
            clear hK K
            refine bx (a':=?_) ?_ ?_
            rotate_left
            ·show Act.put _ (some 43) _=_
             simp only [Act.put,zzB,zzC,zzD,av,aw]
             rfl
            refine ep (i:=10) (N:=some 44) #[true,true,true,true,true,true,true,true,true,true,true,false,false,false,false,false] rfl rfl (bE HT_.out (by kernel_rfl)) (by decide) (fun K hK=>?_)
            refine jH Try.func36 (by kernel_rfl) rfl #[.agg #[.slice (some ad217) ai.length ap,.slice au ah.length am],.slice Ao37 y228.length co37] (by rfl) rfl rfl (by (try simp only [List.map_toArray,List.map_cons,List.map_nil]);first|done|rfl|(simp only [List.length_drop,List.length_take];rfl)) ?_
            with_reducible refine (ih k1 (by have:=HK1.out;omega) _ _ ai _ _ ah (fun k_=>some k_=(.slice Ao37 y228.length co37:Value).ownBlock) (.slice Ao37 y228.length co37) y228 t231 true w0 _ ?side1 ?side2 ?side3 ?side4 ?side5 ?side6 A26.out).mono ?_
            (case side1=>repeat (first|(with_reducible first|exact HB.out|apply a6|apply a4|apply a5|refine a7 ?_ cm.out)|exact HB.out))
            (case side2=>exact Kd.C_kept_call bz.out (by repeat (first|(with_reducible first|exact HK.out|apply Kept.alloc|apply Kept.drewN|apply Kept.drew|refine Kept.setCell ?_ (.inr bQ.out) _)|exact HK.out)) (fun k_ hs_=>(fun e_=>(gt.out.1 k_ e_.symm).1) hs_))
            (case side3=>exact bH.out)
            (case side4=>exact Kd.C_kept_call bq.out (by repeat (first|(with_reducible first|exact HK.out|apply Kept.alloc|apply Kept.drewN|apply Kept.drew|refine Kept.setCell ?_ (.inr bQ.out) _)|exact HK.out)) (fun k_ hs_=>(fun e_=>(gt.out.1 k_ e_.symm).1) hs_))
            (case side5=>exact bF.out)
            (case side6=>exact Kd.R_tight rfl gt.out)
            rintro e w38 ⟨v232,rfl,ho0,hb,hkp⟩
            refine ⟨_,rfl,?_⟩
            have n0_:=zzA (Kd.R_mono (ok':=fun k_=>(P1_ k_∨w.heap.size≤k_)∧some k_ ≠ (.slice Ao36 y225.length co36:Value).ownBlock∧some k_ ≠ (v232:Value).ownBlock) (Kd.R_keptB (cA.out) hkp (fun k_ hk_ hs_=>(hk_.2) hs_)) (fun k_ hk_=>⟨hk_.1.1.1,hk_.1.1.2,fun e_=>Or.elim (ho0.1 k_ e_.symm) (fun hs_=>hk_.2.1 hs_) (fun hn_=>Nat.not_le.2 hk_.2.2 hn_)⟩))
            have n1_:=zzA (blk_kept (by (with_reducible repeat (first|refine aa ?_ _|refine ac ?_|refine a9 ?_ _));exact aD.out) hkp (fun hs_=>(fun e_=>(Kd.R_ne gt.out aD.out (by decide)) e_) hs_))
            have n2_:=zzA (Kd.R_mono (ok':=fun k_=>(P1_ k_∨w.heap.size≤k_)∧some k_ ≠ (.slice Ao19 l1.length gJ:Value).ownBlock∧some k_ ≠ (v232:Value).ownBlock) (Kd.R_keptB (cb.out) hkp (fun k_ hk_ hs_=>(hk_.2) hs_)) (fun k_ hk_=>⟨hk_.1.1.1,hk_.1.1.2,fun e_=>Or.elim (ho0.1 k_ e_.symm) (fun hs_=>hk_.2.1 hs_) (fun hn_=>Nat.not_le.2 hk_.2.2 hn_)⟩))
            have n3_:=zzA (Kd.R_mono (ok':=fun k_=>(P1_ k_∨w.heap.size≤k_)∧some k_ ≠ (.slice Ao19 l1.length gJ:Value).ownBlock∧some k_ ≠ (.slice Ao36 y225.length co36:Value).ownBlock) ho0 (fun k_ hk_=>⟨Or.elim hk_ (fun hs_=>(gt.out.1 k_ (hs_).symm).1) (fun hn_=>(.inr (Nat.le_trans (by first|exact HK.out.1|exact (show Kept w _ (fun k_=>P1_ k_) from by repeat (first|(with_reducible first|exact HK.out|apply Kept.alloc|apply Kept.drewN|apply Kept.drew|refine Kept.setCell ?_ (.inr bQ.out) _)|exact HK.out)).1) hn_))),Or.elim hk_ (fun hs_=>fun e_=>(((cA.out).1 k_ e_.symm).2) hs_) (fun hn_=>(Kd.fresh' (Kd.R_lt (by (with_reducible repeat (first|apply Kd.R_alloc|apply Kd.R_drewN|apply Kd.R_drew));exact cA.out)) k_ hn_)),Or.elim hk_ (fun hs_=>fun e_=>(((cb.out).1 k_ e_.symm).2) hs_) (fun hn_=>(Kd.fresh' (Kd.R_lt (by (with_reducible repeat (first|apply Kd.R_alloc|apply Kd.R_drewN|apply Kd.R_drew));exact cb.out)) k_ hn_))⟩))
            have n4_:=zzA (Kept.then_ (S:=(fun k_=>P1_ k_)) (by repeat (first|(with_reducible first|exact HK.out|apply Kept.alloc|apply Kept.drewN|apply Kept.drew|refine Kept.setCell ?_ (.inr bQ.out) _)|exact HK.out)) hkp (fun k_ hs_=>(fun e_=>(gt.out.1 k_ e_.symm).1) hs_))
            have n5_:=zzA (hb)
            clear cA
            clear aD
            clear cb
            clear HK
            clear HB
            clear gt
            have cA:=n0_
            have aD:=n1_
            have cb:=n2_
            have HO233:=n3_
            have HK:=n4_
            have HB:=n5_
            clear n0_ n1_ n2_ n3_ n4_ n5_
            (try clear hb)
            (try clear hkp)
            (try clear ho0)
            refine hK.out _ _ ⟨(a8 aD.out 0).trans rfl,(a8 aD.out 1).trans rfl,(hf224.out _ HK.out)⟩ (fun hHeld=>?_)
            clear hK K
            refine bx (a':=?_) ?_ ?_
            rotate_left
            ·show Act.put _ (some 44) _=_
             simp only [Act.put,zzB,zzC,zzD,av,aw]
             rfl
            refine bh (i:=11) (N:=some 33) (v:=?_) (a':=?_) #[true,true,true,true,true,true,true,true,true,true,true,true,false,false,false,false] rfl rfl (aG HT_.out (by kernel_rfl)) (fun _ _ _ h=>h) (Or.inl ⟨by rfl,?_⟩) ?_ ?_
            rotate_left
            ·intro w'
             go_simp
             with_reducible rfl
            rotate_left
            ·simp only [Act.put,zzB,zzC,zzD,av,aw]
             rfl
            refine bh (i:=12) (N:=some 45) (v:=?_) (a':=?_) #[true,true,true,true,true,true,true,true,true,true,true,true,true,false,false,false] rfl rfl (aG HT_.out (by kernel_rfl)) (fun _ _ _ h=>h) (Or.inl ⟨by rfl,?_⟩) ?_ ?_
            rotate_left
            ·intro w'
             go_simp
             with_reducible rfl
            rotate_left
            ·simp only [Act.put,zzB,zzC,zzD,av,aw]
             rfl
            refine bh (i:=13) (N:=some 46) (v:=?_) (a':=?_) #[true,true,true,true,true,true,true,true,true,true,true,true,true,true,false,false] rfl rfl (aG HT_.out (by kernel_rfl)) (fun _ _ _ h=>h) (Or.inl ⟨by rfl,?_⟩) ?_ ?_
            rotate_left
            ·intro w'
             go_simp
             with_reducible rfl
            rotate_left
            ·simp only [Act.put,zzB,zzC,zzD,av,aw]
             rfl
            refine bh (i:=14) (N:=some 8) (v:=?_) (a':=?_) #[true,true,true,true,true,true,true,true,true,true,true,true,true,true,true,false] rfl rfl (aG HT_.out (by kernel_rfl)) (fun _ _ _ h=>h) (Or.inl ⟨by rfl,?_⟩) ?_ ?_
            rotate_left
            ·intro w'
             go_simp
             with_reducible rfl
            rotate_left
            ·simp only [Act.put,zzB,zzC,zzD,av,aw]
             rfl
            refine bh (i:=15) (N:=some 9) (v:=?_) (a':=?_) #[true,true,true,true,true,true,true,true,true,true,true,true,true,true,true,true] rfl rfl (aG HT_.out (by kernel_rfl)) (fun _ _ _ h=>h) (Or.inl ⟨by rfl,?_⟩) ?_ ?_
            rotate_left
            ·intro w'
             go_simp
             with_reducible rfl
            rotate_left
            ·simp only [Act.put,zzB,zzC,zzD,av,aw]
             rfl
            refine gO (dm HT_.out (by kernel_rfl)) ?_
            try go_wp2
            go_ret2
            exact ⟨_,by first|rfl|(simp [ak,al] <;> rfl)|(simp [*,ak,al] <;> rfl),by (with_reducible repeat (first|apply Kd.R_alloc|apply Kd.R_drewN|apply Kd.R_drew));exact Kd.R_mono HO233.out (fun _ hk=>hk.1),by repeat (first|(with_reducible first|exact HB.out|apply a6|apply a4|apply a5|refine a7 ?_ cm.out)|exact HB.out),by repeat (first|(with_reducible first|exact HK.out|apply Kept.alloc|apply Kept.drewN|apply Kept.drew|refine Kept.setCell ?_ (.inr bQ.out) _)|exact HK.out)⟩
           ·replace c27:=Bool.eq_false_iff.mpr c27
            subst c27
            have H1:(fastiref15_solve.l0 k1 l1 (ao ai (l1.length:Int)) (wrap64 (x7_1+1)) ai ah)=some (r1,r2):=by rw [if_neg (show ¬ (false=true) by decide)] at H;exact H
            clear H
            have H:=H1
            clear H1
            have H':=zzA H
            clear H
            try go_wp2
            have n0_:=zzA (Kd.R_drew cA.out)
            have n1_:=zzA (ac aD.out)
            have n2_:=zzA (Kept.drew HK.out)
            have n3_:=zzA (a5 HB.out)
            clear cA
            clear aD
            clear HK
            clear HB
            have cA:=n0_
            have aD:=n1_
            have HK:=n2_
            have HB:=n3_
            clear n0_ n1_ n2_ n3_
            have p224:0≤(x7_1:Int):=zzF (by first|(with_reducible assumption)|assumption)
            have q224:x7_1 < ((ao ai (l1.length:Int)).length:Int):=zzF (by first|(with_reducible assumption)|assumption)
            obtain ⟨ad224,e224,lR⟩:=Kd.at_int (HS217_0.out _ HK.out) x7_1 p224 q224
            have hw224_0:=lR
            cases e224
            have hf224:=zzA (fun (W_:World) (hk_:Kept w W_ (fun k_=>P1_ k_))=>(by obtain ⟨ad_,e_,hx_⟩:=Kd.at_int (HS217_0.out W_ hk_) x7_1 p224 q224;cases e_;exact hx_:W_.cell? (ad224.add (x7_1).toNat)=some _))
            replace p224:=eq_true p224
            replace q224:=eq_true q224
            refine ff (n:=16) (S:=fun w'=>w'.cell? ⟨cf,0,none⟩=some (.slice (some ad217) ai.length ap)∧w'.cell? ⟨cf,1,none⟩=some (.slice au ah.length am)∧w'.cell? (ad224.add (x7_1).toNat)=some (.int .i64 (rd (ao ai (l1.length:Int)) x7_1))) (ds:=[]) #[false,false,false,false,false,false,false,false,false,false,false,false,false,false,false,false] (by kernel_rfl) rfl rfl ⟨(a8 aD.out 0).trans rfl,(a8 aD.out 1).trans rfl,(hf224.out _ HK.out)⟩ (fun hHeld=>?_);refine dy fastiref15_solve.tab9 fastiref15_solve.bits9 (fun HT_ HW_=>?_)
            generalize wr.drew=w39 at cA aD HK HB lR hHeld ⊢
            refine bh (i:=2) (N:=some 36) (v:=?_) (a':=?_) #[false,false,true,false,false,false,false,false,false,false,false,false,false,false,false,false] rfl rfl (aG HT_.out (by kernel_rfl)) (fun _ _ _ h=>h) (Or.inl ⟨by rfl,?_⟩) ?_ ?_
            rotate_left
            ·intro w'
             go_simp
             with_reducible rfl
            rotate_left
            ·simp only [Act.put,zzB,zzC,zzD,av,aw]
             rfl
            refine bh (i:=4) (N:=some 38) (v:=?_) (a':=?_) #[false,false,true,false,true,false,false,false,false,false,false,false,false,false,false,false] rfl rfl (aG HT_.out (by kernel_rfl)) (fun _ _ _ h=>h) (Or.inl ⟨by rfl,?_⟩) ?_ ?_
            rotate_left
            ·intro w'
             go_simp
             with_reducible rfl
            rotate_left
            ·simp only [Act.put,zzB,zzC,zzD,av,aw]
             rfl
            refine bh (i:=5) (N:=some 39) (v:=?_) (a':=?_) #[false,false,true,false,true,true,false,false,false,false,false,false,false,false,false,false] rfl rfl (aG HT_.out (by kernel_rfl)) (fun _ _ _ h=>h) (Or.inl ⟨by rfl,?_⟩) ?_ ?_
            rotate_left
            ·intro w'
             go_simp
             with_reducible rfl
            rotate_left
            ·simp only [Act.put,zzB,zzC,zzD,av,aw]
             rfl
            refine bh (i:=6) (N:=some 40) (v:=?_) (a':=?_) #[false,false,true,false,true,true,true,false,false,false,false,false,false,false,false,false] rfl rfl (aG HT_.out (by kernel_rfl)) (fun _ _ _ h=>h) (Or.inl ⟨by rfl,?_⟩) ?_ ?_
            rotate_left
            ·intro w'
             go_simp
             with_reducible rfl
            rotate_left
            ·simp only [Act.put,zzB,zzC,zzD,av,aw]
             rfl
            refine take_ (i:=0) (N:=some 34) (v:=?_) (a':=?_) #[true,false,true,false,true,true,true,false,false,false,false,false,false,false,false,false] rfl rfl (bI HT_.out HW_.out (by kernel_rfl)) (fun _ _ _ h=>h) (Or.inl ⟨by rfl,?_⟩) hHeld ?_ ?_
            rotate_left
            ·rintro w' ⟨s0,s1,s2⟩
             go_simp
             with_reducible rfl
            rotate_left
            ·simp only [Act.put,zzB,zzC,zzD,av,aw]
             rfl
            refine take_ (i:=7) (N:=some 41) (v:=?_) (a':=?_) #[true,false,true,false,true,true,true,true,false,false,false,false,false,false,false,false] rfl rfl (bI HT_.out HW_.out (by kernel_rfl)) (fun _ _ _ h=>h) (Or.inl ⟨by rfl,?_⟩) hHeld ?_ ?_
            rotate_left
            ·rintro w' ⟨s0,s1,s2⟩
             go_simp
             with_reducible rfl
            rotate_left
            ·simp only [Act.put,zzB,zzC,zzD,av,aw]
             rfl
            refine join_ (σ:=Value × Value × Value) 7 #[true,true,true,true,true,true,true,true,true,false,false,false,false,false,false,false] (fun s_=>[(35,s_.1),(37,s_.2.1),(42,s_.2.2)]) (fun s_ w'=>(w'.cell? ⟨cf,0,none⟩=some (.slice (some ad217) ai.length ap)∧w'.cell? ⟨cf,1,none⟩=some (.slice au ah.length am)∧w'.cell? (ad224.add (x7_1).toNat)=some (.int .i64 (rd (ao ai (l1.length:Int)) x7_1)))∧(Kd.R (Kd.int .i64) 3 w' w0.heap.size (fun k_=>(P1_ k_∨w.heap.size≤k_)∧some k_ ≠ (s_.2.2:Value).ownBlock∧some k_ ≠ (.slice Ao19 l1.length gJ:Value).ownBlock) s_.2.1 y221)∧(Kd.R (Kd.int .i64) 3 w' w0.heap.size (fun k_=>(P1_ k_∨w.heap.size≤k_)∧some k_ ≠ (s_.2.1:Value).ownBlock∧some k_ ≠ (.slice Ao19 l1.length gJ:Value).ownBlock) s_.2.2 y225)∧(Kd.R (Kd.int .i64) 3 w' w0.heap.size (fun k_=>(P1_ k_∨w.heap.size≤k_)∧some k_ ≠ (s_.2.1:Value).ownBlock∧some k_ ≠ (s_.2.2:Value).ownBlock) (.slice Ao19 l1.length gJ) l1)∧(w'.heap[cf]?=some (.cells #[.slice (some ad217) ai.length ap,.slice au ah.length am] 25 (0,0)))∧(Kept w w' (fun k_=>P1_ k_))∧(Below w0.heap.size w0 w')) ?_ ?_
            rotate_left
            ·intro hCont
             refine two_ (i:=1) (j:=8) (Ni:=some 35) (Nj:=some 42) #[true,true,true,false,true,true,true,true,false,false,false,false,false,false,false,false] #[true,false,true,false,true,true,true,true,true,false,false,false,false,false,false,false] rfl rfl rfl rfl (gE HT_.out (by kernel_rfl)) (by decide) (by decide) (fun K hK=>?_) (fun K hK=>?_)
             ·skip
              refine Kd.R_lit_step (Kd.int .i64) _ 3 ?hg (N:=35) ?hd (xs:=([]:List Int)) (inner:=[]) (ok:=fun _=>True) (okp:=fun _=>True) ?hr ?hp (fun _ hk=>hk) trivial (Below.refl _ _) (Nat.le_refl _) (by simp) ?_;(case hd=>rfl);(case hg=>rfl);(case hr=>first|(go_simp;done)|(go_simp;rfl));(case hp=>exact (Reps.none _ _))
              intro v219 w40 ho41 hb hg_ hnew_
              clear hg_ hnew_
              (first|rw [← Ny218.out] at ho41|(simp only [Int.reduceToNat] at ho41;rw [← Ny218.out] at ho41))
              have n0_:=zzA (Kd.R_elder' (by (with_reducible repeat (first|apply Kd.R_alloc|apply Kd.R_drewN|apply Kd.R_drew));exact cA.out) (Kd.R_base ho41) hb)
              have n1_:=zzA (Kd.R_lower (Kd.R_new' (Kd.R_newM (M:=fun k_=>(P1_ k_∨w.heap.size≤k_)) ho41 (by first|exact HK.out.1|exact (show Kept w _ (fun k_=>P1_ k_) from by repeat (first|(with_reducible first|exact HK.out|apply Kept.alloc|apply Kept.drewN|apply Kept.drew|refine Kept.setCell ?_ (.inr bQ.out) _)|exact HK.out)).1) (fun k_ h_=>.inr h_)) (Kd.R_lt (by (with_reducible repeat (first|apply Kd.R_alloc|apply Kd.R_drewN|apply Kd.R_drew));exact cA.out))) (ae (by repeat (first|(with_reducible first|exact HB.out|apply a6|apply a4|apply a5|refine a7 ?_ cm.out)|exact HB.out))))
              have n2_:=zzA (af (g:=cf) (o:=.cells #[.slice (some ad217) ai.length ap,.slice au ah.length am] 25 (0,0)) (by (with_reducible repeat (first|refine aa ?_ _|refine ac ?_|refine a9 ?_ _));exact aD.out) hb)
              have n3_:=zzA (Kept.below (S:=(fun k_=>P1_ k_)) (by repeat (first|(with_reducible first|exact HK.out|apply Kept.alloc|apply Kept.drewN|apply Kept.drew|refine Kept.setCell ?_ (.inr bQ.out) _)|exact HK.out)) hb)
              have n4_:=zzA (ag (by repeat (first|(with_reducible first|exact HB.out|apply a6|apply a4|apply a5|refine a7 ?_ cm.out)|exact HB.out)) hb)
              clear cA
              clear aD
              clear HK
              clear HB
              have cA:=n0_
              have d5:=n1_
              have aD:=n2_
              have HK:=n3_
              have HB:=n4_
              clear n0_ n1_ n2_ n3_ n4_
              clear hb ho41
              refine hK.out _ _ ⟨(a8 aD.out 0).trans rfl,(a8 aD.out 1).trans rfl,(hf224.out _ HK.out)⟩ (fun hHeld=>?_)
              clear hK K
              refine bx (a':=?_) ?_ ?_
              rotate_left
              ·show Act.put _ (some 35) _=_
               simp only [Act.put,zzB,zzC,zzD,av,aw]
               rfl
              refine two_ (i:=3) (j:=8) (Ni:=some 37) (Nj:=some 42) #[true,true,true,true,true,true,true,true,false,false,false,false,false,false,false,false] #[true,true,true,false,true,true,true,true,true,false,false,false,false,false,false,false] rfl rfl rfl rfl (gE HT_.out (by kernel_rfl)) (by decide) (by decide) (fun K hK=>?_) (fun K hK=>?_)
              ·skip
               refine Kd.R_append_rows_step (Kd.int .i64) (w0:=w0) w0.heap.size (by rfl) (.tmp 35) (.tmp 36) 26 3 (.int .i64 0) 8 rfl Try.underlying26 fa rfl (by decide) (by omega) v219 y218 l1 _ _ _ (fun k_=>(P1_ k_∨w.heap.size≤k_)∧some k_ ≠ (.slice Ao19 l1.length gJ:Value).ownBlock) (fun _=>False) rfl rfl ?aO ?aR (fun _ _ h=>h) (fun _ h=>h.elim) ?aF ?aB ?aS ?aL ?_
               (case aR=>repeat (first|exact (Kd.R_reads' cA.out).2.2|(with_reducible refine Kd.C_alloc ?_ _)|(with_reducible refine Kd.C_drewN ?_ _)|(with_reducible refine Kd.C_drew ?_)))
               (case aB=>exact (by repeat (first|(with_reducible first|exact HB.out|apply a6|apply a4|apply a5|refine a7 ?_ cm.out)|exact HB.out)))
               (case aF=>exact (fun k_ hk=>⟨(.inr (Nat.le_trans (by first|exact HK.out.1|exact (show Kept w _ (fun k_=>P1_ k_) from by repeat (first|(with_reducible first|exact HK.out|apply Kept.alloc|apply Kept.drewN|apply Kept.drew|refine Kept.setCell ?_ (.inr bQ.out) _)|exact HK.out)).1) hk)),Kd.fresh' (Kd.R_lt (by (with_reducible repeat (first|apply Kd.R_alloc|apply Kd.R_drewN|apply Kd.R_drew));exact cA.out)) k_ hk⟩))
               (case aO=>exact (by (with_reducible repeat (first|apply Kd.R_alloc|apply Kd.R_drewN|apply Kd.R_drew));exact Kd.R_mono d5.out (fun _ hk=>⟨hk.1.1,hk.2⟩)))
               (case aS=>exact (ae (by repeat (first|(with_reducible first|exact HB.out|apply a6|apply a4|apply a5|refine a7 ?_ cm.out)|exact HB.out))))
               (case aL=>have:=LMc23.out;omega)
               intro v222 w42 ho hb hg hat
               rw [← Ny221.out] at ho
               have n0_:=zzA (Kd.R_after (ok:=(fun k_=>(P1_ k_∨w.heap.size≤k_))) (by (with_reducible repeat (first|apply Kd.R_alloc|apply Kd.R_drewN|apply Kd.R_drew));exact cA.out) hg hat)
               have n1_:=zzA (aU (g:=cf) (o:=.cells #[.slice (some ad217) ai.length ap,.slice au ah.length am] 25 (0,0)) (by (with_reducible repeat (first|refine aa ?_ _|refine ac ?_|refine a9 ?_ _));exact aD.out) hg (Kd.R_ne d5.out aD.out (by decide)))
               have n2_:=zzA (hb)
               have n3_:=zzA (Kept.of_grown (S:=(fun k_=>P1_ k_)) hg (by repeat (first|(with_reducible first|exact HK.out|apply Kept.alloc|apply Kept.drewN|apply Kept.drew|refine Kept.setCell ?_ (.inr bQ.out) _)|exact HK.out)) (fun k_ e_=>(d5.out.1 k_ e_).1.1))
               have n4_:=zzA (ho)
               clear cA
               clear aD
               clear HB
               clear HK
               clear d5
               have cA:=n0_
               have aD:=n1_
               have HB:=n2_
               have HK:=n3_
               have dE:=n4_
               clear n0_ n1_ n2_ n3_ n4_
               clear ho hb hg hat
               refine hK.out _ _ ⟨(a8 aD.out 0).trans rfl,(a8 aD.out 1).trans rfl,(hf224.out _ HK.out)⟩ (fun hHeld=>?_)
               clear hK K
               refine bx (a':=?_) ?_ ?_
               rotate_left
               ·show Act.put _ (some 37) _=_
                simp only [Act.put,zzB,zzC,zzD,av,aw]
                rfl
               refine ep (i:=8) (N:=some 42) #[true,true,true,true,true,true,true,true,true,false,false,false,false,false,false,false] rfl rfl (bE HT_.out (by kernel_rfl)) (by decide) (fun K hK=>?_)
               refine Kd.R_lit_step (Kd.int .i64) _ 3 ?hg (N:=42) ?hd (xs:=([rd (ao ai (l1.length:Int)) x7_1]:List Int)) (inner:=[.int .i64 (rd (ao ai (l1.length:Int)) x7_1)]) (ok:=fun _=>True) (okp:=fun _=>True) ?hr ?hp (fun _ hk=>hk) trivial (Below.refl _ _) (Nat.le_refl _) (by simp) ?_;(case hd=>rfl);(case hg=>rfl);(case hr=>first|(go_simp;done)|(go_simp;rfl));(case hp=>exact (Reps.one (show Kd.M (Kd.int .i64) _ _ _ (rd (ao ai (l1.length:Int)) x7_1) [.int .i64 (rd (ao ai (l1.length:Int)) x7_1)] from rfl) (Reps.none _ _)))
               intro v226 w43 ho44 hb hg_ hnew_
               clear hg_ hnew_
               (first|rw [← Ny225.out] at ho44|(simp only [Int.reduceToNat] at ho44;rw [← Ny225.out] at ho44))
               have n0_:=zzA (Kd.R_elder' (by (with_reducible repeat (first|apply Kd.R_alloc|apply Kd.R_drewN|apply Kd.R_drew));exact cA.out) (Kd.R_base ho44) hb)
               have n1_:=zzA (Kd.R_elder' (by (with_reducible repeat (first|apply Kd.R_alloc|apply Kd.R_drewN|apply Kd.R_drew));exact dE.out) (Kd.R_base ho44) hb)
               have n2_:=zzA (Kd.R_lower (Kd.R_new' (Kd.R_new' (Kd.R_newM (M:=fun k_=>(P1_ k_∨w.heap.size≤k_)) ho44 (by first|exact HK.out.1|exact (show Kept w _ (fun k_=>P1_ k_) from by repeat (first|(with_reducible first|exact HK.out|apply Kept.alloc|apply Kept.drewN|apply Kept.drew|refine Kept.setCell ?_ (.inr bQ.out) _)|exact HK.out)).1) (fun k_ h_=>.inr h_)) (Kd.R_lt (by (with_reducible repeat (first|apply Kd.R_alloc|apply Kd.R_drewN|apply Kd.R_drew));exact cA.out))) (Kd.R_lt (by (with_reducible repeat (first|apply Kd.R_alloc|apply Kd.R_drewN|apply Kd.R_drew));exact dE.out))) (ae (by repeat (first|(with_reducible first|exact HB.out|apply a6|apply a4|apply a5|refine a7 ?_ cm.out)|exact HB.out))))
               have n3_:=zzA (af (g:=cf) (o:=.cells #[.slice (some ad217) ai.length ap,.slice au ah.length am] 25 (0,0)) (by (with_reducible repeat (first|refine aa ?_ _|refine ac ?_|refine a9 ?_ _));exact aD.out) hb)
               have n4_:=zzA (Kept.below (S:=(fun k_=>P1_ k_)) (by repeat (first|(with_reducible first|exact HK.out|apply Kept.alloc|apply Kept.drewN|apply Kept.drew|refine Kept.setCell ?_ (.inr bQ.out) _)|exact HK.out)) hb)
               have n5_:=zzA (ag (by repeat (first|(with_reducible first|exact HB.out|apply a6|apply a4|apply a5|refine a7 ?_ cm.out)|exact HB.out)) hb)
               clear cA
               clear dE
               clear aD
               clear HK
               clear HB
               have cA:=n0_
               have dE:=n1_
               have cb:=n2_
               have aD:=n3_
               have HK:=n4_
               have HB:=n5_
               clear n0_ n1_ n2_ n3_ n4_ n5_
               clear hb ho44
               refine hK.out _ _ ⟨(a8 aD.out 0).trans rfl,(a8 aD.out 1).trans rfl,(hf224.out _ HK.out)⟩ (fun hHeld=>?_)
               clear hK K
               refine bx (a':=?_) ?_ ?_
               rotate_left
               ·show Act.put _ (some 42) _=_
                simp only [Act.put,zzB,zzC,zzD,av,aw]
                rfl
               exact bx (by simp only [cZ,Act.put,zzB,zzC,zzD]) (hCont (v219,v222,v226) _ ⟨hHeld,(by (with_reducible repeat (first|apply Kd.R_alloc|apply Kd.R_drewN|apply Kd.R_drew));exact Kd.R_mono dE.out (fun _ hk=>⟨hk.1.1,⟨hk.2,hk.1.2⟩⟩)),(by (with_reducible repeat (first|apply Kd.R_alloc|apply Kd.R_drewN|apply Kd.R_drew));exact Kd.R_mono cb.out (fun _ hk=>⟨hk.1.1.1,⟨hk.2,hk.1.2⟩⟩)),(by (with_reducible repeat (first|apply Kd.R_alloc|apply Kd.R_drewN|apply Kd.R_drew));exact Kd.R_mono cA.out (fun _ hk=>⟨hk.1.1,⟨hk.1.2,hk.2⟩⟩)),(by (with_reducible repeat (first|refine aa ?_ _|refine ac ?_|refine a9 ?_ _));exact aD.out),(by repeat (first|(with_reducible first|exact HK.out|apply Kept.alloc|apply Kept.drewN|apply Kept.drew|refine Kept.setCell ?_ (.inr bQ.out) _)|exact HK.out)),(by repeat (first|(with_reducible first|exact HB.out|apply a6|apply a4|apply a5|refine a7 ?_ cm.out)|exact HB.out))⟩)
              ·skip
               refine Kd.R_lit_step (Kd.int .i64) _ 3 ?hg (N:=42) ?hd (xs:=([rd (ao ai (l1.length:Int)) x7_1]:List Int)) (inner:=[.int .i64 (rd (ao ai (l1.length:Int)) x7_1)]) (ok:=fun _=>True) (okp:=fun _=>True) ?hr ?hp (fun _ hk=>hk) trivial (Below.refl _ _) (Nat.le_refl _) (by simp) ?_;(case hd=>rfl);(case hg=>rfl);(case hr=>first|(go_simp;done)|(go_simp;rfl));(case hp=>exact (Reps.one (show Kd.M (Kd.int .i64) _ _ _ (rd (ao ai (l1.length:Int)) x7_1) [.int .i64 (rd (ao ai (l1.length:Int)) x7_1)] from rfl) (Reps.none _ _)))
               intro v226 w42 ho43 hb hg_ hnew_
               clear hg_ hnew_
               (first|rw [← Ny225.out] at ho43|(simp only [Int.reduceToNat] at ho43;rw [← Ny225.out] at ho43))
               have n0_:=zzA (Kd.R_elder' (by (with_reducible repeat (first|apply Kd.R_alloc|apply Kd.R_drewN|apply Kd.R_drew));exact cA.out) (Kd.R_base ho43) hb)
               have n1_:=zzA (Kd.R_elder' (by (with_reducible repeat (first|apply Kd.R_alloc|apply Kd.R_drewN|apply Kd.R_drew));exact d5.out) (Kd.R_base ho43) hb)
               have n2_:=zzA (Kd.R_lower (Kd.R_new' (Kd.R_new' (Kd.R_newM (M:=fun k_=>(P1_ k_∨w.heap.size≤k_)) ho43 (by first|exact HK.out.1|exact (show Kept w _ (fun k_=>P1_ k_) from by repeat (first|(with_reducible first|exact HK.out|apply Kept.alloc|apply Kept.drewN|apply Kept.drew|refine Kept.setCell ?_ (.inr bQ.out) _)|exact HK.out)).1) (fun k_ h_=>.inr h_)) (Kd.R_lt (by (with_reducible repeat (first|apply Kd.R_alloc|apply Kd.R_drewN|apply Kd.R_drew));exact cA.out))) (Kd.R_lt (by (with_reducible repeat (first|apply Kd.R_alloc|apply Kd.R_drewN|apply Kd.R_drew));exact d5.out))) (ae (by repeat (first|(with_reducible first|exact HB.out|apply a6|apply a4|apply a5|refine a7 ?_ cm.out)|exact HB.out))))
               have n3_:=zzA (af (g:=cf) (o:=.cells #[.slice (some ad217) ai.length ap,.slice au ah.length am] 25 (0,0)) (by (with_reducible repeat (first|refine aa ?_ _|refine ac ?_|refine a9 ?_ _));exact aD.out) hb)
               have n4_:=zzA (Kept.below (S:=(fun k_=>P1_ k_)) (by repeat (first|(with_reducible first|exact HK.out|apply Kept.alloc|apply Kept.drewN|apply Kept.drew|refine Kept.setCell ?_ (.inr bQ.out) _)|exact HK.out)) hb)
               have n5_:=zzA (ag (by repeat (first|(with_reducible first|exact HB.out|apply a6|apply a4|apply a5|refine a7 ?_ cm.out)|exact HB.out)) hb)
               clear cA
               clear d5
               clear aD
               clear HK
               clear HB
               have cA:=n0_
               have d5:=n1_
               have cb:=n2_
               have aD:=n3_
               have HK:=n4_
               have HB:=n5_
               clear n0_ n1_ n2_ n3_ n4_ n5_
               clear hb ho43
               refine hK.out _ _ ⟨(a8 aD.out 0).trans rfl,(a8 aD.out 1).trans rfl,(hf224.out _ HK.out)⟩ (fun hHeld=>?_)
               clear hK K
               refine bx (a':=?_) ?_ ?_
               rotate_left
               ·show Act.put _ (some 42) _=_
                simp only [Act.put,zzB,zzC,zzD,av,aw]
                rfl
               refine ep (i:=3) (N:=some 37) #[true,true,true,true,true,true,true,true,true,false,false,false,false,false,false,false] rfl rfl (bE HT_.out (by kernel_rfl)) (by decide) (fun K hK=>?_)
               refine Kd.R_append_rows_step (Kd.int .i64) (w0:=w0) w0.heap.size (by rfl) (.tmp 35) (.tmp 36) 26 3 (.int .i64 0) 8 rfl Try.underlying26 fa rfl (by decide) (by omega) v219 y218 l1 _ _ _ (fun k_=>(P1_ k_∨w.heap.size≤k_)∧some k_ ≠ (.slice Ao19 l1.length gJ:Value).ownBlock∧some k_ ≠ (v226:Value).ownBlock) (fun _=>False) rfl rfl ?aO ?aR (fun _ _ h=>h) (fun _ h=>h.elim) ?aF ?aB ?aS ?aL ?_
               (case aR=>repeat (first|exact (Kd.R_reads' cA.out).2.2|(with_reducible refine Kd.C_alloc ?_ _)|(with_reducible refine Kd.C_drewN ?_ _)|(with_reducible refine Kd.C_drew ?_)))
               (case aB=>exact (by repeat (first|(with_reducible first|exact HB.out|apply a6|apply a4|apply a5|refine a7 ?_ cm.out)|exact HB.out)))
               (case aF=>exact (fun k_ hk=>⟨(.inr (Nat.le_trans (by first|exact HK.out.1|exact (show Kept w _ (fun k_=>P1_ k_) from by repeat (first|(with_reducible first|exact HK.out|apply Kept.alloc|apply Kept.drewN|apply Kept.drew|refine Kept.setCell ?_ (.inr bQ.out) _)|exact HK.out)).1) hk)),Kd.fresh' (Kd.R_lt (by (with_reducible repeat (first|apply Kd.R_alloc|apply Kd.R_drewN|apply Kd.R_drew));exact cA.out)) k_ hk,Kd.fresh' (Kd.R_lt (by (with_reducible repeat (first|apply Kd.R_alloc|apply Kd.R_drewN|apply Kd.R_drew));exact cb.out)) k_ hk⟩))
               (case aO=>exact (by (with_reducible repeat (first|apply Kd.R_alloc|apply Kd.R_drewN|apply Kd.R_drew));exact Kd.R_mono d5.out (fun _ hk=>⟨hk.1.1.1,⟨hk.1.2,hk.2⟩⟩)))
               (case aS=>exact (ae (by repeat (first|(with_reducible first|exact HB.out|apply a6|apply a4|apply a5|refine a7 ?_ cm.out)|exact HB.out))))
               (case aL=>have:=LMc23.out;omega)
               intro v222 w44 ho hb hg hat
               rw [← Ny221.out] at ho
               have n0_:=zzA (Kd.R_after (ok:=(fun k_=>(P1_ k_∨w.heap.size≤k_)∧some k_ ≠ (v226:Value).ownBlock)) (by (with_reducible repeat (first|apply Kd.R_alloc|apply Kd.R_drewN|apply Kd.R_drew));exact Kd.R_mono cA.out (fun _ hk=>⟨⟨hk.1.1,hk.2⟩,hk.1.2⟩)) hg hat)
               have n1_:=zzA (aU (g:=cf) (o:=.cells #[.slice (some ad217) ai.length ap,.slice au ah.length am] 25 (0,0)) (by (with_reducible repeat (first|refine aa ?_ _|refine ac ?_|refine a9 ?_ _));exact aD.out) hg (Kd.R_ne d5.out aD.out (by decide)))
               have n2_:=zzA (Kd.R_after (ok:=(fun k_=>(P1_ k_∨w.heap.size≤k_)∧some k_ ≠ (.slice Ao19 l1.length gJ:Value).ownBlock)) (by (with_reducible repeat (first|apply Kd.R_alloc|apply Kd.R_drewN|apply Kd.R_drew));exact Kd.R_mono cb.out (fun _ hk=>⟨⟨hk.1.1.1,hk.1.2⟩,hk.2⟩)) hg hat)
               have n3_:=zzA (hb)
               have n4_:=zzA (Kept.of_grown (S:=(fun k_=>P1_ k_)) hg (by repeat (first|(with_reducible first|exact HK.out|apply Kept.alloc|apply Kept.drewN|apply Kept.drew|refine Kept.setCell ?_ (.inr bQ.out) _)|exact HK.out)) (fun k_ e_=>(d5.out.1 k_ e_).1.1.1))
               have n5_:=zzA (ho)
               clear cA
               clear aD
               clear cb
               clear HB
               clear HK
               clear d5
               have cA:=n0_
               have aD:=n1_
               have cb:=n2_
               have HB:=n3_
               have HK:=n4_
               have dE:=n5_
               clear n0_ n1_ n2_ n3_ n4_ n5_
               clear ho hb hg hat
               refine hK.out _ _ ⟨(a8 aD.out 0).trans rfl,(a8 aD.out 1).trans rfl,(hf224.out _ HK.out)⟩ (fun hHeld=>?_)
               clear hK K
               refine bx (a':=?_) ?_ ?_
               rotate_left
               ·show Act.put _ (some 37) _=_
                simp only [Act.put,zzB,zzC,zzD,av,aw]
                rfl
               exact bx (by simp only [cZ,Act.put,zzB,zzC,zzD]) (hCont (v219,v222,v226) _ ⟨hHeld,(by (with_reducible repeat (first|apply Kd.R_alloc|apply Kd.R_drewN|apply Kd.R_drew));exact Kd.R_mono dE.out (fun _ hk=>⟨hk.1,⟨hk.2.2,hk.2.1⟩⟩)),(by (with_reducible repeat (first|apply Kd.R_alloc|apply Kd.R_drewN|apply Kd.R_drew));exact Kd.R_mono cb.out (fun _ hk=>⟨hk.1.1,⟨hk.2,hk.1.2⟩⟩)),(by (with_reducible repeat (first|apply Kd.R_alloc|apply Kd.R_drewN|apply Kd.R_drew));exact Kd.R_mono cA.out (fun _ hk=>⟨hk.1.1,⟨hk.2,hk.1.2⟩⟩)),(by (with_reducible repeat (first|refine aa ?_ _|refine ac ?_|refine a9 ?_ _));exact aD.out),(by repeat (first|(with_reducible first|exact HK.out|apply Kept.alloc|apply Kept.drewN|apply Kept.drew|refine Kept.setCell ?_ (.inr bQ.out) _)|exact HK.out)),(by repeat (first|(with_reducible first|exact HB.out|apply a6|apply a4|apply a5|refine a7 ?_ cm.out)|exact HB.out))⟩)
             ·skip
              refine Kd.R_lit_step (Kd.int .i64) _ 3 ?hg (N:=42) ?hd (xs:=([rd (ao ai (l1.length:Int)) x7_1]:List Int)) (inner:=[.int .i64 (rd (ao ai (l1.length:Int)) x7_1)]) (ok:=fun _=>True) (okp:=fun _=>True) ?hr ?hp (fun _ hk=>hk) trivial (Below.refl _ _) (Nat.le_refl _) (by simp) ?_;(case hd=>rfl);(case hg=>rfl);(case hr=>first|(go_simp;done)|(go_simp;rfl));(case hp=>exact (Reps.one (show Kd.M (Kd.int .i64) _ _ _ (rd (ao ai (l1.length:Int)) x7_1) [.int .i64 (rd (ao ai (l1.length:Int)) x7_1)] from rfl) (Reps.none _ _)))
              intro v226 w40 ho41 hb hg_ hnew_
              clear hg_ hnew_
              (first|rw [← Ny225.out] at ho41|(simp only [Int.reduceToNat] at ho41;rw [← Ny225.out] at ho41))
              have n0_:=zzA (Kd.R_elder' (by (with_reducible repeat (first|apply Kd.R_alloc|apply Kd.R_drewN|apply Kd.R_drew));exact cA.out) (Kd.R_base ho41) hb)
              have n1_:=zzA (Kd.R_lower (Kd.R_new' (Kd.R_newM (M:=fun k_=>(P1_ k_∨w.heap.size≤k_)) ho41 (by first|exact HK.out.1|exact (show Kept w _ (fun k_=>P1_ k_) from by repeat (first|(with_reducible first|exact HK.out|apply Kept.alloc|apply Kept.drewN|apply Kept.drew|refine Kept.setCell ?_ (.inr bQ.out) _)|exact HK.out)).1) (fun k_ h_=>.inr h_)) (Kd.R_lt (by (with_reducible repeat (first|apply Kd.R_alloc|apply Kd.R_drewN|apply Kd.R_drew));exact cA.out))) (ae (by repeat (first|(with_reducible first|exact HB.out|apply a6|apply a4|apply a5|refine a7 ?_ cm.out)|exact HB.out))))
              have n2_:=zzA (af (g:=cf) (o:=.cells #[.slice (some ad217) ai.length ap,.slice au ah.length am] 25 (0,0)) (by (with_reducible repeat (first|refine aa ?_ _|refine ac ?_|refine a9 ?_ _));exact aD.out) hb)
              have n3_:=zzA (Kept.below (S:=(fun k_=>P1_ k_)) (by repeat (first|(with_reducible first|exact HK.out|apply Kept.alloc|apply Kept.drewN|apply Kept.drew|refine Kept.setCell ?_ (.inr bQ.out) _)|exact HK.out)) hb)
              have n4_:=zzA (ag (by repeat (first|(with_reducible first|exact HB.out|apply a6|apply a4|apply a5|refine a7 ?_ cm.out)|exact HB.out)) hb)
              clear cA
              clear aD
              clear HK
              clear HB
              have cA:=n0_
              have cb:=n1_
              have aD:=n2_
              have HK:=n3_
              have HB:=n4_
              clear n0_ n1_ n2_ n3_ n4_
              clear hb ho41
              refine hK.out _ _ ⟨(a8 aD.out 0).trans rfl,(a8 aD.out 1).trans rfl,(hf224.out _ HK.out)⟩ (fun hHeld=>?_)
              clear hK K
              refine bx (a':=?_) ?_ ?_
              rotate_left
              ·show Act.put _ (some 42) _=_
               simp only [Act.put,zzB,zzC,zzD,av,aw]
               rfl
              refine ep (i:=1) (N:=some 35) #[true,true,true,false,true,true,true,true,true,false,false,false,false,false,false,false] rfl rfl (bE HT_.out (by kernel_rfl)) (by decide) (fun K hK=>?_)
              refine Kd.R_lit_step (Kd.int .i64) _ 3 ?hg (N:=35) ?hd (xs:=([]:List Int)) (inner:=[]) (ok:=fun _=>True) (okp:=fun _=>True) ?hr ?hp (fun _ hk=>hk) trivial (Below.refl _ _) (Nat.le_refl _) (by simp) ?_;(case hd=>rfl);(case hg=>rfl);(case hr=>first|(go_simp;done)|(go_simp;rfl));(case hp=>exact (Reps.none _ _))
              intro v219 w42 ho43 hb hg_ hnew_
              clear hg_ hnew_
              (first|rw [← Ny218.out] at ho43|(simp only [Int.reduceToNat] at ho43;rw [← Ny218.out] at ho43))
              have n0_:=zzA (Kd.R_elder' (by (with_reducible repeat (first|apply Kd.R_alloc|apply Kd.R_drewN|apply Kd.R_drew));exact cA.out) (Kd.R_base ho43) hb)
              have n1_:=zzA (Kd.R_elder' (by (with_reducible repeat (first|apply Kd.R_alloc|apply Kd.R_drewN|apply Kd.R_drew));exact cb.out) (Kd.R_base ho43) hb)
              have n2_:=zzA (Kd.R_lower (Kd.R_new' (Kd.R_new' (Kd.R_newM (M:=fun k_=>(P1_ k_∨w.heap.size≤k_)) ho43 (by first|exact HK.out.1|exact (show Kept w _ (fun k_=>P1_ k_) from by repeat (first|(with_reducible first|exact HK.out|apply Kept.alloc|apply Kept.drewN|apply Kept.drew|refine Kept.setCell ?_ (.inr bQ.out) _)|exact HK.out)).1) (fun k_ h_=>.inr h_)) (Kd.R_lt (by (with_reducible repeat (first|apply Kd.R_alloc|apply Kd.R_drewN|apply Kd.R_drew));exact cA.out))) (Kd.R_lt (by (with_reducible repeat (first|apply Kd.R_alloc|apply Kd.R_drewN|apply Kd.R_drew));exact cb.out))) (ae (by repeat (first|(with_reducible first|exact HB.out|apply a6|apply a4|apply a5|refine a7 ?_ cm.out)|exact HB.out))))
              have n3_:=zzA (af (g:=cf) (o:=.cells #[.slice (some ad217) ai.length ap,.slice au ah.length am] 25 (0,0)) (by (with_reducible repeat (first|refine aa ?_ _|refine ac ?_|refine a9 ?_ _));exact aD.out) hb)
              have n4_:=zzA (Kept.below (S:=(fun k_=>P1_ k_)) (by repeat (first|(with_reducible first|exact HK.out|apply Kept.alloc|apply Kept.drewN|apply Kept.drew|refine Kept.setCell ?_ (.inr bQ.out) _)|exact HK.out)) hb)
              have n5_:=zzA (ag (by repeat (first|(with_reducible first|exact HB.out|apply a6|apply a4|apply a5|refine a7 ?_ cm.out)|exact HB.out)) hb)
              clear cA
              clear cb
              clear aD
              clear HK
              clear HB
              have cA:=n0_
              have cb:=n1_
              have d5:=n2_
              have aD:=n3_
              have HK:=n4_
              have HB:=n5_
              clear n0_ n1_ n2_ n3_ n4_ n5_
              clear hb ho43
              refine hK.out _ _ ⟨(a8 aD.out 0).trans rfl,(a8 aD.out 1).trans rfl,(hf224.out _ HK.out)⟩ (fun hHeld=>?_)
              clear hK K
              refine bx (a':=?_) ?_ ?_
              rotate_left
              ·show Act.put _ (some 35) _=_
               simp only [Act.put,zzB,zzC,zzD,av,aw]
               rfl
              refine ep (i:=3) (N:=some 37) #[true,true,true,true,true,true,true,true,true,false,false,false,false,false,false,false] rfl rfl (bE HT_.out (by kernel_rfl)) (by decide) (fun K hK=>?_)
              refine Kd.R_append_rows_step (Kd.int .i64) (w0:=w0) w0.heap.size (by rfl) (.tmp 35) (.tmp 36) 26 3 (.int .i64 0) 8 rfl Try.underlying26 fa rfl (by decide) (by omega) v219 y218 l1 _ _ _ (fun k_=>(P1_ k_∨w.heap.size≤k_)∧some k_ ≠ (.slice Ao19 l1.length gJ:Value).ownBlock∧some k_ ≠ (v226:Value).ownBlock) (fun _=>False) rfl rfl ?aO ?aR (fun _ _ h=>h) (fun _ h=>h.elim) ?aF ?aB ?aS ?aL ?_
              (case aR=>repeat (first|exact (Kd.R_reads' cA.out).2.2|(with_reducible refine Kd.C_alloc ?_ _)|(with_reducible refine Kd.C_drewN ?_ _)|(with_reducible refine Kd.C_drew ?_)))
              (case aB=>exact (by repeat (first|(with_reducible first|exact HB.out|apply a6|apply a4|apply a5|refine a7 ?_ cm.out)|exact HB.out)))
              (case aF=>exact (fun k_ hk=>⟨(.inr (Nat.le_trans (by first|exact HK.out.1|exact (show Kept w _ (fun k_=>P1_ k_) from by repeat (first|(with_reducible first|exact HK.out|apply Kept.alloc|apply Kept.drewN|apply Kept.drew|refine Kept.setCell ?_ (.inr bQ.out) _)|exact HK.out)).1) hk)),Kd.fresh' (Kd.R_lt (by (with_reducible repeat (first|apply Kd.R_alloc|apply Kd.R_drewN|apply Kd.R_drew));exact cA.out)) k_ hk,Kd.fresh' (Kd.R_lt (by (with_reducible repeat (first|apply Kd.R_alloc|apply Kd.R_drewN|apply Kd.R_drew));exact cb.out)) k_ hk⟩))
              (case aO=>exact (by (with_reducible repeat (first|apply Kd.R_alloc|apply Kd.R_drewN|apply Kd.R_drew));exact Kd.R_mono d5.out (fun _ hk=>⟨hk.1.1.1,⟨hk.1.2,hk.2⟩⟩)))
              (case aS=>exact (ae (by repeat (first|(with_reducible first|exact HB.out|apply a6|apply a4|apply a5|refine a7 ?_ cm.out)|exact HB.out))))
              (case aL=>have:=LMc23.out;omega)
              intro v222 w44 ho hb hg hat
              rw [← Ny221.out] at ho
              have n0_:=zzA (Kd.R_after (ok:=(fun k_=>(P1_ k_∨w.heap.size≤k_)∧some k_ ≠ (v226:Value).ownBlock)) (by (with_reducible repeat (first|apply Kd.R_alloc|apply Kd.R_drewN|apply Kd.R_drew));exact cA.out) hg hat)
              have n1_:=zzA (aU (g:=cf) (o:=.cells #[.slice (some ad217) ai.length ap,.slice au ah.length am] 25 (0,0)) (by (with_reducible repeat (first|refine aa ?_ _|refine ac ?_|refine a9 ?_ _));exact aD.out) hg (Kd.R_ne d5.out aD.out (by decide)))
              have n2_:=zzA (Kd.R_after (ok:=(fun k_=>(P1_ k_∨w.heap.size≤k_)∧some k_ ≠ (.slice Ao19 l1.length gJ:Value).ownBlock)) (by (with_reducible repeat (first|apply Kd.R_alloc|apply Kd.R_drewN|apply Kd.R_drew));exact Kd.R_mono cb.out (fun _ hk=>⟨⟨hk.1.1.1,hk.1.2⟩,hk.2⟩)) hg hat)
              have n3_:=zzA (hb)
              have n4_:=zzA (Kept.of_grown (S:=(fun k_=>P1_ k_)) hg (by repeat (first|(with_reducible first|exact HK.out|apply Kept.alloc|apply Kept.drewN|apply Kept.drew|refine Kept.setCell ?_ (.inr bQ.out) _)|exact HK.out)) (fun k_ e_=>(d5.out.1 k_ e_).1.1.1))
              have n5_:=zzA (ho)
              clear cA
              clear aD
              clear cb
              clear HB
              clear HK
              clear d5
              have cA:=n0_
              have aD:=n1_
              have cb:=n2_
              have HB:=n3_
              have HK:=n4_
              have dE:=n5_
              clear n0_ n1_ n2_ n3_ n4_ n5_
              clear ho hb hg hat
              refine hK.out _ _ ⟨(a8 aD.out 0).trans rfl,(a8 aD.out 1).trans rfl,(hf224.out _ HK.out)⟩ (fun hHeld=>?_)
              clear hK K
              refine bx (a':=?_) ?_ ?_
              rotate_left
              ·show Act.put _ (some 37) _=_
               simp only [Act.put,zzB,zzC,zzD,av,aw]
               rfl
              exact bx (by simp only [cZ,Act.put,zzB,zzC,zzD]) (hCont (v219,v222,v226) _ ⟨hHeld,(by (with_reducible repeat (first|apply Kd.R_alloc|apply Kd.R_drewN|apply Kd.R_drew));exact Kd.R_mono dE.out (fun _ hk=>⟨hk.1,⟨hk.2.2,hk.2.1⟩⟩)),(by (with_reducible repeat (first|apply Kd.R_alloc|apply Kd.R_drewN|apply Kd.R_drew));exact Kd.R_mono cb.out (fun _ hk=>⟨hk.1.1,⟨hk.2,hk.1.2⟩⟩)),(by (with_reducible repeat (first|apply Kd.R_alloc|apply Kd.R_drewN|apply Kd.R_drew));exact Kd.R_mono cA.out (fun _ hk=>⟨hk.1.1,⟨hk.2,hk.1.2⟩⟩)),(by (with_reducible repeat (first|refine aa ?_ _|refine ac ?_|refine a9 ?_ _));exact aD.out),(by repeat (first|(with_reducible first|exact HK.out|apply Kept.alloc|apply Kept.drewN|apply Kept.drew|refine Kept.setCell ?_ (.inr bQ.out) _)|exact HK.out)),(by repeat (first|(with_reducible first|exact HB.out|apply a6|apply a4|apply a5|refine a7 ?_ cm.out)|exact HB.out))⟩)
            rintro ⟨v219,v222,v226⟩ w45 ⟨hS_,h0_,h1_,h2_,h3_,h4_,h5_⟩
            have n0_:Aside0 (Kd.R (Kd.int .i64) 3 w45 w0.heap.size (fun k_=>(P1_ k_∨w.heap.size≤k_)∧some k_ ≠ (v226:Value).ownBlock∧some k_ ≠ (.slice Ao19 l1.length gJ:Value).ownBlock) v222 y221):=⟨h0_⟩
            have n1_:Aside0 (Kd.R (Kd.int .i64) 3 w45 w0.heap.size (fun k_=>(P1_ k_∨w.heap.size≤k_)∧some k_ ≠ (v222:Value).ownBlock∧some k_ ≠ (.slice Ao19 l1.length gJ:Value).ownBlock) v226 y225):=⟨h1_⟩
            have n2_:Aside0 (Kd.R (Kd.int .i64) 3 w45 w0.heap.size (fun k_=>(P1_ k_∨w.heap.size≤k_)∧some k_ ≠ (v222:Value).ownBlock∧some k_ ≠ (v226:Value).ownBlock) (.slice Ao19 l1.length gJ) l1):=⟨h2_⟩
            have n3_:Aside0 (w45.heap[cf]?=some (.cells #[.slice (some ad217) ai.length ap,.slice au ah.length am] 25 (0,0))):=⟨h3_⟩
            have n4_:Aside0 (Kept w w45 (fun k_=>P1_ k_)):=⟨h4_⟩
            have n5_:Aside0 (Below w0.heap.size w0 w45):=⟨h5_⟩
            clear cA
            clear aD
            clear HK
            clear HB
            clear h0_ h1_ h2_ h3_ h4_ h5_
            have dE:=n0_
            have cb:=n1_
            have cA:=n2_
            have aD:=n3_
            have HK:=n4_
            have HB:=n5_
            clear n0_ n1_ n2_ n3_ n4_ n5_
            have hHeld:w45.cell? ⟨cf,0,none⟩=some (.slice (some ad217) ai.length ap)∧w45.cell? ⟨cf,1,none⟩=some (.slice au ah.length am)∧w45.cell? (ad224.add (x7_1).toNat)=some (.int .i64 (rd (ao ai (l1.length:Int)) x7_1)):=hS_
            obtain ⟨Ao47,co47,eo47⟩:=Kd.R_slice cb.out
            (first|subst eo47|(injection eo47 with f1_ f2_ f3_;have f4_:=f1_.symm;have f5_:=f3_.symm;clear f1_ f2_ f3_;subst f4_;subst f5_))
            refine bx (a':=?_) ?_ ?_
            rotate_left
            ·simp only [cZ,Act.put,zzB,zzC,zzD]
             rfl
            refine ep (i:=9) (N:=some 43) #[true,true,true,true,true,true,true,true,true,true,false,false,false,false,false,false] rfl rfl (bE HT_.out (by kernel_rfl)) (by decide) (fun K hK=>?_)
            refine Kd.R_append_rows_step (Kd.int .i64) (w0:=w0) w0.heap.size (by rfl) (.tmp 37) (.tmp 42) 26 3 (.int .i64 0) 8 rfl Try.underlying26 fa rfl (by decide) (by omega) v222 y221 y225 _ _ _ (fun k_=>(P1_ k_∨w.heap.size≤k_)∧some k_ ≠ (.slice Ao19 l1.length gJ:Value).ownBlock∧some k_ ≠ (.slice Ao47 y225.length co47:Value).ownBlock) (fun _=>False) rfl rfl ?aO ?aR (fun _ _ h=>h) (fun _ h=>h.elim) ?aF ?aB ?aS ?aL ?_
            (case aR=>repeat (first|exact (Kd.R_reads' cb.out).2.2|(with_reducible refine Kd.C_alloc ?_ _)|(with_reducible refine Kd.C_drewN ?_ _)|(with_reducible refine Kd.C_drew ?_)))
            (case aB=>exact (by repeat (first|(with_reducible first|exact HB.out|apply a6|apply a4|apply a5|refine a7 ?_ cm.out)|exact HB.out)))
            (case aF=>exact (fun k_ hk=>⟨(.inr (Nat.le_trans (by first|exact HK.out.1|exact (show Kept w _ (fun k_=>P1_ k_) from by repeat (first|(with_reducible first|exact HK.out|apply Kept.alloc|apply Kept.drewN|apply Kept.drew|refine Kept.setCell ?_ (.inr bQ.out) _)|exact HK.out)).1) hk)),Kd.fresh' (Kd.R_lt (by (with_reducible repeat (first|apply Kd.R_alloc|apply Kd.R_drewN|apply Kd.R_drew));exact cA.out)) k_ hk,Kd.fresh' (Kd.R_lt (by (with_reducible repeat (first|apply Kd.R_alloc|apply Kd.R_drewN|apply Kd.R_drew));exact cb.out)) k_ hk⟩))
            (case aO=>exact (by (with_reducible repeat (first|apply Kd.R_alloc|apply Kd.R_drewN|apply Kd.R_drew));exact Kd.R_mono dE.out (fun _ hk=>⟨hk.1,⟨hk.2.2,hk.2.1⟩⟩)))
            (case aS=>exact (ae (by repeat (first|(with_reducible first|exact HB.out|apply a6|apply a4|apply a5|refine a7 ?_ cm.out)|exact HB.out))))
            (case aL=>have:=LMc25.out;omega)
            intro v229 w46 ho hb hg hat
            rw [← Ny228.out] at ho
            have n0_:=zzA (Kd.R_after (ok:=(fun k_=>(P1_ k_∨w.heap.size≤k_)∧some k_ ≠ (.slice Ao47 y225.length co47:Value).ownBlock)) (by (with_reducible repeat (first|apply Kd.R_alloc|apply Kd.R_drewN|apply Kd.R_drew));exact Kd.R_mono cA.out (fun _ hk=>⟨⟨hk.1,hk.2.2⟩,hk.2.1⟩)) hg hat)
            have n1_:=zzA (aU (g:=cf) (o:=.cells #[.slice (some ad217) ai.length ap,.slice au ah.length am] 25 (0,0)) (by (with_reducible repeat (first|refine aa ?_ _|refine ac ?_|refine a9 ?_ _));exact aD.out) hg (Kd.R_ne dE.out aD.out (by decide)))
            have n2_:=zzA (Kd.R_after (ok:=(fun k_=>(P1_ k_∨w.heap.size≤k_)∧some k_ ≠ (.slice Ao19 l1.length gJ:Value).ownBlock)) (by (with_reducible repeat (first|apply Kd.R_alloc|apply Kd.R_drewN|apply Kd.R_drew));exact Kd.R_mono cb.out (fun _ hk=>⟨⟨hk.1,hk.2.2⟩,hk.2.1⟩)) hg hat)
            have n3_:=zzA (hb)
            have n4_:=zzA (Kept.of_grown (S:=(fun k_=>P1_ k_)) hg (by repeat (first|(with_reducible first|exact HK.out|apply Kept.alloc|apply Kept.drewN|apply Kept.drew|refine Kept.setCell ?_ (.inr bQ.out) _)|exact HK.out)) (fun k_ e_=>(dE.out.1 k_ e_).1))
            have n5_:=zzA (ho)
            clear cA
            clear aD
            clear cb
            clear HB
            clear HK
            clear dE
            have cA:=n0_
            have aD:=n1_
            have cb:=n2_
            have HB:=n3_
            have HK:=n4_
            have gt:=n5_
            clear n0_ n1_ n2_ n3_ n4_ n5_
            clear ho hb hg hat
            obtain ⟨Ao48,co48,eo48⟩:=Kd.R_slice gt.out
            (first|subst eo48|(injection eo48 with f1_ f2_ f3_;have f4_:=f1_.symm;have f5_:=f3_.symm;clear f1_ f2_ f3_;subst f4_;subst f5_))
            refine hK.out _ _ ⟨(a8 aD.out 0).trans rfl,(a8 aD.out 1).trans rfl,(hf224.out _ HK.out)⟩ (fun hHeld=>?_)
            clear hK K
            refine bx (a':=?_) ?_ ?_
            rotate_left
            ·show Act.put _ (some 43) _=_
             simp only [Act.put,zzB,zzC,zzD,av,aw]
             rfl
            refine ep (i:=10) (N:=some 44) #[true,true,true,true,true,true,true,true,true,true,true,false,false,false,false,false] rfl rfl (bE HT_.out (by kernel_rfl)) (by decide) (fun K hK=>?_)
            refine jH Try.func36 (by kernel_rfl) rfl #[.agg #[.slice (some ad217) ai.length ap,.slice au ah.length am],.slice Ao48 y228.length co48] (by rfl) rfl rfl (by (try simp only [List.map_toArray,List.map_cons,List.map_nil]);first|done|rfl|(simp only [List.length_drop,List.length_take];rfl)) ?_
            with_reducible refine (ih k1 (by have:=HK1.out;omega) _ _ ai _ _ ah (fun k_=>some k_=(.slice Ao48 y228.length co48:Value).ownBlock) (.slice Ao48 y228.length co48) y228 t231 false w0 _ ?side1 ?side2 ?side3 ?side4 ?side5 ?side6 A26.out).mono ?_
            (case side1=>repeat (first|(with_reducible first|exact HB.out|apply a6|apply a4|apply a5|refine a7 ?_ cm.out)|exact HB.out))
            (case side2=>exact Kd.C_kept_call bz.out (by repeat (first|(with_reducible first|exact HK.out|apply Kept.alloc|apply Kept.drewN|apply Kept.drew|refine Kept.setCell ?_ (.inr bQ.out) _)|exact HK.out)) (fun k_ hs_=>(fun e_=>(gt.out.1 k_ e_.symm).1) hs_))
            (case side3=>exact bH.out)
            (case side4=>exact Kd.C_kept_call bq.out (by repeat (first|(with_reducible first|exact HK.out|apply Kept.alloc|apply Kept.drewN|apply Kept.drew|refine Kept.setCell ?_ (.inr bQ.out) _)|exact HK.out)) (fun k_ hs_=>(fun e_=>(gt.out.1 k_ e_.symm).1) hs_))
            (case side5=>exact bF.out)
            (case side6=>exact Kd.R_tight rfl gt.out)
            rintro e w49 ⟨v232,rfl,ho0,hb,hkp⟩
            refine ⟨_,rfl,?_⟩
            have n0_:=zzA (Kd.R_mono (ok':=fun k_=>(P1_ k_∨w.heap.size≤k_)∧some k_ ≠ (.slice Ao47 y225.length co47:Value).ownBlock∧some k_ ≠ (v232:Value).ownBlock) (Kd.R_keptB (cA.out) hkp (fun k_ hk_ hs_=>(hk_.2) hs_)) (fun k_ hk_=>⟨hk_.1.1.1,hk_.1.1.2,fun e_=>Or.elim (ho0.1 k_ e_.symm) (fun hs_=>hk_.2.1 hs_) (fun hn_=>Nat.not_le.2 hk_.2.2 hn_)⟩))
            have n1_:=zzA (blk_kept (by (with_reducible repeat (first|refine aa ?_ _|refine ac ?_|refine a9 ?_ _));exact aD.out) hkp (fun hs_=>(fun e_=>(Kd.R_ne gt.out aD.out (by decide)) e_) hs_))
            have n2_:=zzA (Kd.R_mono (ok':=fun k_=>(P1_ k_∨w.heap.size≤k_)∧some k_ ≠ (.slice Ao19 l1.length gJ:Value).ownBlock∧some k_ ≠ (v232:Value).ownBlock) (Kd.R_keptB (cb.out) hkp (fun k_ hk_ hs_=>(hk_.2) hs_)) (fun k_ hk_=>⟨hk_.1.1.1,hk_.1.1.2,fun e_=>Or.elim (ho0.1 k_ e_.symm) (fun hs_=>hk_.2.1 hs_) (fun hn_=>Nat.not_le.2 hk_.2.2 hn_)⟩))
            have n3_:=zzA (Kd.R_mono (ok':=fun k_=>(P1_ k_∨w.heap.size≤k_)∧some k_ ≠ (.slice Ao19 l1.length gJ:Value).ownBlock∧some k_ ≠ (.slice Ao47 y225.length co47:Value).ownBlock) ho0 (fun k_ hk_=>⟨Or.elim hk_ (fun hs_=>(gt.out.1 k_ (hs_).symm).1) (fun hn_=>(.inr (Nat.le_trans (by first|exact HK.out.1|exact (show Kept w _ (fun k_=>P1_ k_) from by repeat (first|(with_reducible first|exact HK.out|apply Kept.alloc|apply Kept.drewN|apply Kept.drew|refine Kept.setCell ?_ (.inr bQ.out) _)|exact HK.out)).1) hn_))),Or.elim hk_ (fun hs_=>fun e_=>(((cA.out).1 k_ e_.symm).2) hs_) (fun hn_=>(Kd.fresh' (Kd.R_lt (by (with_reducible repeat (first|apply Kd.R_alloc|apply Kd.R_drewN|apply Kd.R_drew));exact cA.out)) k_ hn_)),Or.elim hk_ (fun hs_=>fun e_=>(((cb.out).1 k_ e_.symm).2) hs_) (fun hn_=>(Kd.fresh' (Kd.R_lt (by (with_reducible repeat (first|apply Kd.R_alloc|apply Kd.R_drewN|apply Kd.R_drew));exact cb.out)) k_ hn_))⟩))
            have n4_:=zzA (Kept.then_ (S:=(fun k_=>P1_ k_)) (by repeat (first|(with_reducible first|exact HK.out|apply Kept.alloc|apply Kept.drewN|apply Kept.drew|refine Kept.setCell ?_ (.inr bQ.out) _)|exact HK.out)) hkp (fun k_ hs_=>(fun e_=>(gt.out.1 k_ e_.symm).1) hs_))
            have n5_:=zzA (hb)
            clear cA
            clear aD
            clear cb
            clear HK
            clear HB
            clear gt
            have cA:=n0_
            have aD:=n1_
            have cb:=n2_
            have HO233:=n3_
            have HK:=n4_
            have HB:=n5_
            clear n0_ n1_ n2_ n3_ n4_ n5_
            (try clear hb)
            (try clear hkp)
            (try clear ho0)
            refine hK.out _ _ ⟨(a8 aD.out 0).trans rfl,(a8 aD.out 1).trans rfl,(hf224.out _ HK.out)⟩ (fun hHeld=>?_)
            clear hK K
            refine bx (a':=?_) ?_ ?_
            rotate_left
            ·show Act.put _ (some 44) _=_
             simp only [Act.put,zzB,zzC,zzD,av,aw]
             rfl
            refine bh (i:=11) (N:=some 33) (v:=?_) (a':=?_) #[true,true,true,true,true,true,true,true,true,true,true,true,false,false,false,false] rfl rfl (aG HT_.out (by kernel_rfl)) (fun _ _ _ h=>h) (Or.inl ⟨by rfl,?_⟩) ?_ ?_
            rotate_left
            ·intro w'
             go_simp
             with_reducible rfl
            rotate_left
            ·simp only [Act.put,zzB,zzC,zzD,av,aw]
             rfl
            refine bh (i:=12) (N:=some 45) (v:=?_) (a':=?_) #[true,true,true,true,true,true,true,true,true,true,true,true,true,false,false,false] rfl rfl (aG HT_.out (by kernel_rfl)) (fun _ _ _ h=>h) (Or.inl ⟨by rfl,?_⟩) ?_ ?_
            rotate_left
            ·intro w'
             go_simp
             with_reducible rfl
            rotate_left
            ·simp only [Act.put,zzB,zzC,zzD,av,aw]
             rfl
            refine bh (i:=13) (N:=some 46) (v:=?_) (a':=?_) #[true,true,true,true,true,true,true,true,true,true,true,true,true,true,false,false] rfl rfl (aG HT_.out (by kernel_rfl)) (fun _ _ _ h=>h) (Or.inl ⟨by rfl,?_⟩) ?_ ?_
            rotate_left
            ·intro w'
             go_simp
             with_reducible rfl
            rotate_left
            ·simp only [Act.put,zzB,zzC,zzD,av,aw]
             rfl
            refine bh (i:=14) (N:=some 8) (v:=?_) (a':=?_) #[true,true,true,true,true,true,true,true,true,true,true,true,true,true,true,false] rfl rfl (aG HT_.out (by kernel_rfl)) (fun _ _ _ h=>h) (Or.inl ⟨by rfl,?_⟩) ?_ ?_
            rotate_left
            ·intro w'
             go_simp
             with_reducible rfl
            rotate_left
            ·simp only [Act.put,zzB,zzC,zzD,av,aw]
             rfl
            refine bh (i:=15) (N:=some 9) (v:=?_) (a':=?_) #[true,true,true,true,true,true,true,true,true,true,true,true,true,true,true,true] rfl rfl (aG HT_.out (by kernel_rfl)) (fun _ _ _ h=>h) (Or.inl ⟨by rfl,?_⟩) ?_ ?_
            rotate_left
            ·intro w'
             go_simp
             with_reducible rfl
            rotate_left
            ·simp only [Act.put,zzB,zzC,zzD,av,aw]
             rfl
            refine gO (dm HT_.out (by kernel_rfl)) ?_
            try go_wp2
            go_roundg k1
            case measure=>have:=HK1.out;omega
            case rel=>exact ⟨(wrap64 (x7_1+1)),(by first|rfl|(simp;done)|(simp [*];done)),H',⟨by have:=HK1.out;omega⟩,⟨by (with_reducible repeat (first|apply Kd.R_alloc|apply Kd.R_drewN|apply Kd.R_drew));exact Kd.R_mono cA.out (fun _ hk=>hk.1)⟩,⟨by (with_reducible repeat (first|refine aa ?_ _|refine ac ?_|refine a9 ?_ _));exact aD.out⟩,⟨by repeat (first|(with_reducible first|exact HK.out|apply Kept.alloc|apply Kept.drewN|apply Kept.drew|refine Kept.setCell ?_ (.inr bQ.out) _)|exact HK.out)⟩,⟨by repeat (first|(with_reducible first|exact HB.out|apply a6|apply a4|apply a5|refine a7 ?_ cm.out)|exact HB.out)⟩⟩
          ·rw [if_neg c25] at H
           exact absurd H (by simp)
         ·rw [if_neg c24] at H
          exact absurd H (by simp)
        ·rw [if_neg c23] at H
         exact absurd H (by simp)
       ·rw [if_neg c22] at H
        have c22b0:decide (x7_1 < ((ao ai (l1.length:Int)).length:Int))=false:=zzH c22
        clear c22
        simp only [Option.some.injEq,Prod.mk.injEq] at H
        obtain ⟨rfl,rfl⟩:=H
        go_wp2
        go_ret2
        exact ⟨_,by first|rfl|(simp [ak,al] <;> rfl)|(simp [*,ak,al] <;> rfl),by first|exact Kd.R_nil _ _ _ _ _|exact Kd.N_nil _ _ _ _ _|exact Kd.V_nil _ _ _ _ _|exact Kd.Q_nil _ _ _ _ _|exact Kd.S_nil _ _ _ _ _,by repeat (first|(with_reducible first|exact HB.out|apply a6|apply a4|apply a5|refine a7 ?_ cm.out)|exact HB.out),by repeat (first|(with_reducible first|exact HK.out|apply Kept.alloc|apply Kept.drewN|apply Kept.drew|refine Kept.setCell ?_ (.inr bQ.out) _)|exact HK.out)⟩
    ·rw [if_neg c16] at H
     exact absurd H (by simp)
   ·rw [if_neg c15] at H
    exact absurd H (by simp)
def fastiref15_Solve.f (k:Nat) (ai:List (List Int)) (ah:List (S49)):Option (List Int × Bool × Int):=(fastiref15_Check.f k ai ah).bind fun t236=>(if t236=0 then ((fastiref15_solve.f k ai ah ([]:List Int)).bind fun bt237=>(some (bt237.1,bt237.2,0))) else (some (([]:List Int),false,t236)))
set_option maxHeartbeats 8000000 in
set_option maxRecDepth 100000 in
theorem fastiref15_Solve.calls (k:Nat) (ax:Option Addr) (ap:Nat) (ai:List (List Int)) (au:Option Addr) (am:Nat) (ah:List (S49)) (r1:List Int) (r2:Bool) (r3:Int) (w:World) (bV:Kd.C (Kd.slice 3 (Kd.int .i64)) w ax ai.length ai) (bX:ai.length≤ap) (bP:Kd.C k49 w au ah.length ah) (bU:ah.length≤am) (h:fastiref15_Solve.f k ai ah=some (r1,r2,r3)) :
  Calls Try.prog 16 #[.agg #[.slice ax ai.length ap,.slice au ah.length am]] w fun e w'=>∃ v0_:Value,e=.returned (.tuple #[v0_,.bool r2,.int .i64 r3])∧Kd.R (Kd.int .i64) 3 w' w.heap.size (fun _=>True) v0_ r1∧Below w.heap.size w w':=by
 have hu25:=Try.underlying25
 have bz:=zzA bV
 have bH:=zzA bX
 clear bV bX
 have bq:=zzA bP
 have bF:=zzA bU
 clear bP bU
 have HB:=zzA (Below.refl w.heap.size w)
 have H:((fastiref15_Check.f k ai ah).bind fun t236=>(if t236=0 then ((fastiref15_solve.f k ai ah ([]:List Int)).bind fun bt237=>(some (bt237.1,bt237.2,0))) else (some (([]:List Int),false,t236))))=some (r1,r2,r3):=h
 clear h
 replace H:=Option.bind_eq_some_iff.mp H
 obtain ⟨t236,A20,H⟩:=H
 replace H:(if t236=0 then ((fastiref15_solve.f k ai ah ([]:List Int)).bind fun bt237=>(some (bt237.1,bt237.2,0))) else (some (([]:List Int),false,t236)))=some (r1,r2,r3):=H
 have A2:=zzA A20
 clear A20
 by_cases c3:t236=0
 ·rw [if_pos c3] at H
  have kA:(t236 == 0)=true:=beq_iff_eq.mpr c3
  have c3b1:(t236 != 0)=false:=bne_eq_false_iff_eq.mpr c3
  clear c3
  replace H:=Option.bind_eq_some_iff.mp H
  obtain ⟨⟨t237,t240⟩,A40,H⟩:=H
  replace H:(some (t237,t240,0))=some (r1,r2,r3):=H
  have A4:=zzA A40
  clear A40
  simp only [Option.some.injEq,Prod.mk.injEq] at H
  obtain ⟨rfl,rfl,rfl⟩:=H
  go_enter Try.func16,Try.ntmps16
  go_wp2_with (first|((with_reducible refine ay (N:=1) rfl ?_);refine aq ?hg (N:=1) ?hd (cs:=#[.slice ax ai.length ap,.slice au ah.length am]) (t:=25) ?hr ?_;(case hd=>rfl);(case hg=>rfl);(case hr=>first|(go_simp;done)|(go_simp;rfl));intro ju hg w5 hbox hb;have n0_:=zzA (ag (by repeat (first|(with_reducible first|exact HB.out|apply a6|apply a4|apply a5)|exact HB.out)) hb);have n1_:=zzA (hbox);have n2_:=zzA ((by rw [hg];exact (ae (by repeat (first|(with_reducible first|exact HB.out|apply a6|apply a4|apply a5)|exact HB.out))):w.heap.size≤ju));have n3_:=zzA ((by rw [hg];exact (ae (by repeat (first|(with_reducible first|exact HB.out|apply a6|apply a4|apply a5)|exact HB.out))):w.heap.size≤ju));clear HB;have HB:=n0_;have fd:=n1_;have GW235:=n2_;have GE235:=n3_;clear n0_ n1_ n2_ n3_;clear hb hbox hg;have ez:w5.cell? ⟨ju,0,none⟩=some (.slice ax ai.length ap):=(a8 fd.out 0).trans rfl;have eA:w5.cell? ⟨ju,1,none⟩=some (.slice au ah.length am):=(a8 fd.out 1).trans rfl;have eB:=ab fd.out 0;have eC:=ab fd.out 1)|((with_reducible refine ar (f:=18) rfl ?_);refine bi (some 9) rfl rfl Try.func18 (by kernel_rfl) rfl #[.agg #[.slice ax ai.length ap,.slice au ah.length am]] rfl (by (try simp only [List.map_toArray,List.map_cons,List.map_nil]);first|done|rfl|(simp only [List.length_drop,List.length_take];rfl)) ?_;(with_reducible refine (fastiref15_Check.calls k _ _ ai _ _ ah t236 _ ?side1 ?side2 ?side3 ?side4 A2.out).mono ?_);(case side1=>repeat (first|exact (zzI bz.out HB.out)|(with_reducible refine Kd.C_alloc ?_ _)|(with_reducible refine Kd.C_drewN ?_ _)|(with_reducible refine Kd.C_drew ?_)));(case side2=>exact bH.out);(case side3=>repeat (first|exact (zzI bq.out HB.out)|(with_reducible refine Kd.C_alloc ?_ _)|(with_reducible refine Kd.C_drewN ?_ _)|(with_reducible refine Kd.C_drew ?_)));(case side4=>exact bF.out);rintro e w7 ⟨rfl,hb⟩;refine ⟨_,rfl,?_⟩;have n0_:=zzA (af (g:=ju) (o:=.cells #[.slice ax ai.length ap,.slice au ah.length am] 25 (0,0)) (by (with_reducible repeat (first|refine aa ?_ _|refine ac ?_|refine a9 ?_ _));exact fd.out) hb);have n1_:=zzA (ag (by repeat (first|(with_reducible first|exact HB.out|apply a6|apply a4|apply a5|refine a7 ?_ GE235.out)|exact HB.out)) hb);clear fd;clear HB;have fd:=n0_;have HB:=n1_;clear n0_ n1_;(try clear hb);(try clear hb2);(try clear hk);(try clear hi);have eD:w7.cell? ⟨ju,0,none⟩=some (.slice ax ai.length ap):=(a8 fd.out 0).trans rfl;have eE:w7.cell? ⟨ju,1,none⟩=some (.slice au ah.length am):=(a8 fd.out 1).trans rfl;have eF:=ab fd.out 0;have eG:=ab fd.out 1)|((with_reducible refine ar (f:=36) rfl ?_);refine bi (some 15) rfl rfl Try.func36 (by kernel_rfl) rfl #[.agg #[.slice ax ai.length ap,.slice au ah.length am],.slice none 0 0] rfl (by (try simp only [List.map_toArray,List.map_cons,List.map_nil]);first|done|rfl|(simp only [List.length_drop,List.length_take];rfl)) ?_;(refine (fastiref15_solve.calls k _ _ ai _ _ ah (fun k_=>some k_=(.slice none 0 0:Value).ownBlock) (.slice none 0 0) ([]:List Int) t237 t240 w _ ?side1 ?side2 ?side3 ?side4 ?side5 ?side6 A4.out).mono ?_);(case side1=>repeat (first|(with_reducible first|exact HB.out|apply a6|apply a4|apply a5|refine a7 ?_ GE235.out)|exact HB.out));(case side2=>exact Kd.C_kept_came (Kd.heap_slice 3 (Kd.heap_int .i64)) bz.out (by repeat (first|(with_reducible first|exact HB.out|apply a6|apply a4|apply a5|refine a7 ?_ GE235.out)|exact HB.out)) (fun k_ hs_=>(fun e_=>by simp [Value.ownBlock] at e_) hs_));(case side3=>exact bH.out);(case side4=>exact Kd.C_kept_came k49_heap bq.out (by repeat (first|(with_reducible first|exact HB.out|apply a6|apply a4|apply a5|refine a7 ?_ GE235.out)|exact HB.out)) (fun k_ hs_=>(fun e_=>by simp [Value.ownBlock] at e_) hs_));(case side5=>exact bF.out);(case side6=>exact Kd.R_nil _ _ _ _ _);rintro e w9 ⟨v238,rfl,ho0,hb,hkp⟩;refine ⟨_,rfl,?_⟩;have n0_:=zzA (blk_kept (by (with_reducible repeat (first|refine aa ?_ _|refine ac ?_|refine a9 ?_ _));exact fd.out) hkp (fun hs_=>(fun e_=>by simp [Value.ownBlock] at e_) hs_));have n1_:=zzA (Kd.R_mono (ok':=fun k_=>True) ho0 (fun k_ hk_=>trivial));have n2_:=zzA (hb);clear fd;clear HB;have fd:=n0_;have HO239:=n1_;have HB:=n2_;clear n0_ n1_ n2_;(try clear hb);(try clear hkp);(try clear ho0)))
  go_ret3
  exact ⟨_,by first|rfl|(simp [ak,al] <;> rfl)|(simp [*,ak,al] <;> rfl),by (with_reducible repeat (first|apply Kd.R_alloc|apply Kd.R_drewN|apply Kd.R_drew));exact HO239.out,by repeat (first|(with_reducible first|exact HB.out|apply a6|apply a4|apply a5|refine a7 ?_ GE235.out)|exact HB.out)⟩
 ·rw [if_neg c3] at H
  have kA:(t236 == 0)=false:=beq_eq_false_iff_ne.mpr c3
  have c3b1:(t236 != 0)=true:=bne_iff_ne.mpr c3
  simp only [Option.some.injEq,Prod.mk.injEq] at H
  obtain ⟨rfl,rfl,rfl⟩:=H
  go_enter Try.func16,Try.ntmps16
  go_wp2_with (first|((with_reducible refine ay (N:=1) rfl ?_);refine aq ?hg (N:=1) ?hd (cs:=#[.slice ax ai.length ap,.slice au ah.length am]) (t:=25) ?hr ?_;(case hd=>rfl);(case hg=>rfl);(case hr=>first|(go_simp;done)|(go_simp;rfl));intro ju hg w10 hbox hb;have n0_:=zzA (ag (by repeat (first|(with_reducible first|exact HB.out|apply a6|apply a4|apply a5)|exact HB.out)) hb);have n1_:=zzA (hbox);have n2_:=zzA ((by rw [hg];exact (ae (by repeat (first|(with_reducible first|exact HB.out|apply a6|apply a4|apply a5)|exact HB.out))):w.heap.size≤ju));have n3_:=zzA ((by rw [hg];exact (ae (by repeat (first|(with_reducible first|exact HB.out|apply a6|apply a4|apply a5)|exact HB.out))):w.heap.size≤ju));clear HB;have HB:=n0_;have fd:=n1_;have GW235:=n2_;have GE235:=n3_;clear n0_ n1_ n2_ n3_;clear hb hbox hg;have cJ:w10.cell? ⟨ju,0,none⟩=some (.slice ax ai.length ap):=(a8 fd.out 0).trans rfl;have cK:w10.cell? ⟨ju,1,none⟩=some (.slice au ah.length am):=(a8 fd.out 1).trans rfl;have cL:=ab fd.out 0;have cM:=ab fd.out 1)|((with_reducible refine ar (f:=18) rfl ?_);refine bi (some 9) rfl rfl Try.func18 (by kernel_rfl) rfl #[.agg #[.slice ax ai.length ap,.slice au ah.length am]] rfl (by (try simp only [List.map_toArray,List.map_cons,List.map_nil]);first|done|rfl|(simp only [List.length_drop,List.length_take];rfl)) ?_;(with_reducible refine (fastiref15_Check.calls k _ _ ai _ _ ah t236 _ ?side1 ?side2 ?side3 ?side4 A2.out).mono ?_);(case side1=>repeat (first|exact (zzI bz.out HB.out)|(with_reducible refine Kd.C_alloc ?_ _)|(with_reducible refine Kd.C_drewN ?_ _)|(with_reducible refine Kd.C_drew ?_)));(case side2=>exact bH.out);(case side3=>repeat (first|exact (zzI bq.out HB.out)|(with_reducible refine Kd.C_alloc ?_ _)|(with_reducible refine Kd.C_drewN ?_ _)|(with_reducible refine Kd.C_drew ?_)));(case side4=>exact bF.out);rintro e w12 ⟨rfl,hb⟩;refine ⟨_,rfl,?_⟩;have n0_:=zzA (af (g:=ju) (o:=.cells #[.slice ax ai.length ap,.slice au ah.length am] 25 (0,0)) (by (with_reducible repeat (first|refine aa ?_ _|refine ac ?_|refine a9 ?_ _));exact fd.out) hb);have n1_:=zzA (ag (by repeat (first|(with_reducible first|exact HB.out|apply a6|apply a4|apply a5|refine a7 ?_ GE235.out)|exact HB.out)) hb);clear fd;clear HB;have fd:=n0_;have HB:=n1_;clear n0_ n1_;(try clear hb);(try clear hb2);(try clear hk);(try clear hi)))
  go_ret3
  exact ⟨_,by first|rfl|(simp [ak,al] <;> rfl)|(simp [*,ak,al] <;> rfl),by first|exact Kd.R_nil _ _ _ _ _|exact Kd.N_nil _ _ _ _ _|exact Kd.V_nil _ _ _ _ _|exact Kd.Q_nil _ _ _ _ _|exact Kd.S_nil _ _ _ _ _,by repeat (first|(with_reducible first|exact HB.out|apply a6|apply a4|apply a5|refine a7 ?_ GE235.out)|exact HB.out)⟩
mutual
def fastiref15_refute.l0:Nat→List Int→List Int→Int→List (List Int)→List (S49)→Int→List (S39)→Option (Int × (List (S39)))
 | 0,_,_,_,_,_,_,_=>none
 | k+1,x1,x7,x8,x267000,x267001,x270000,x270001=>if x8 < (x7.length:Int) then ((some (([]:List Int):List Int)).bind fun y271=>(if y271.length+x1.length < 17592186044416 then ((some (y271 ++ x1:List Int)).bind fun y274=>(if 0≤x8 then ((some (([rd x7 x8]:List Int):List Int)).bind fun y278=>(if y274.length+y278.length < 17592186044416 then ((fastiref15_refute.f k x267000 x267001 (y274 ++ y278)).bind fun iS=>((some (([(⟨iS.1,iS.2⟩ : S39)]:List (S39)):List (S39))).bind fun y288=>(if x270001.length+y288.length < 4398046511104 then (fastiref15_refute.l0 k x1 x7 (wrap64 (x8+1)) x267000 x267001 x270000 (x270001 ++ y288)) else (none)))) else (none))) else (none))) else (none))) else (some (x270000,x270001))
def fastiref15_refute.f:Nat→List (List Int)→List (S49)→List Int→Option (Int × (List (S39)))
 | 0,_,_,_=>none
 | k+1,ai,ah,l1=>(fastiref15_first.f k ai ah l1).bind fun t268=>(if t268 ≥ 0 then (some (t268,([]:List (S39)))) else (if 0≤(l1.length:Int) then (if (l1.length:Int) < (ai.length:Int) then (fastiref15_refute.l0 k l1 (ao ai (l1.length:Int)) 0 ai ah (-1) ([]:List (S39))) else (none)) else (none)))
end
def fastiref15_refute.T9:Bool × List (List Nat × List Nat):=(true,[([],[]),([0],[0]),([],[]),([],[]),([],[]),([3,4],[3,4]),([],[]),([],[]),([6,7],[6,7]),([8],[8]),([9],[9]),([5,10,5],[5,10]),([2,11,11],[2,11]),([12],[12]),([1,13,12],[1,13]),([0,1,2,3,4,5,6,7,8,9,10,11,12,13,14],[]),([15,14,14,0,1,2,3,4,5,6,7,8,9,10,11,12,13,14],[14,15])])
def fastiref15_refute.B9:List Nat:=[0,1,0,0,0,24,0,0,192,448,960,2040,4092,8188,16383,32767,65535]
theorem fastiref15_refute.tab9:fU .any (gP Try.f42 9)=fastiref15_refute.T9:=by kernel_rfl
theorem fastiref15_refute.bits9:fC fastiref15_refute.T9.2 fastiref15_refute.B9=true:=by kernel_rfl
set_option maxHeartbeats 8000000 in
set_option maxRecDepth 100000 in
theorem fastiref15_refute.calls (k:Nat):∀ (ax:Option Addr) (ap:Nat) (ai:List (List Int)) (au:Option Addr) (am:Nat) (ah:List (S49)) (A1:Option Addr) (c1:Nat) (l1:List Int) (r1:Int) (r2:List (S39)) (w:World) (bV:Kd.C (Kd.slice 3 (Kd.int .i64)) w ax ai.length ai) (bX:ai.length≤ap) (bP:Kd.C k49 w au ah.length ah) (bU:ah.length≤am) (hr1:Kd.C (Kd.int .i64) w A1 l1.length l1) (hc1:l1.length≤c1) (h:fastiref15_refute.f k ai ah l1=some (r1,r2)),
  Calls Try.prog 42 #[.agg #[.slice ax ai.length ap,.slice au ah.length am],.slice A1 l1.length c1] w fun e w'=>∃ v1_:Value,e=.returned (.agg #[.int .i64 r1,v1_])∧Kd.N k39 39 w' w.heap.size (fun k_=>(w.heap.size≤k_)) v1_ r2∧Below w.heap.size w w':=by
 induction k using Nat.strongRecOn with
 | _ k ih =>
 intro ax ap ai au am ah A1 c1 l1 r1 r2 w bV bX bP bU hr1 hc1 h
 cases k with
 | zero=>exact absurd h (by simp [fastiref15_refute.f])
 | succ k =>
 simp only [fastiref15_refute.f] at h
 have hu25:=Try.underlying25
 have hu39:=Try.underlying39
 have bz:=zzA bV
 have bH:=zzA bX
 clear bV bX
 have bq:=zzA bP
 have bF:=zzA bU
 clear bP bU
 have HR1:=zzA hr1
 have HC1:=zzA hc1
 clear hr1 hc1
 have HB:=zzA (Below.refl w.heap.size w)
 have H:((fastiref15_first.f k ai ah l1).bind fun t268=>(if t268 ≥ 0 then (some (t268,([]:List (S39)))) else (if 0≤(l1.length:Int) then (if (l1.length:Int) < (ai.length:Int) then (fastiref15_refute.l0 k l1 (ao ai (l1.length:Int)) 0 ai ah (-1) ([]:List (S39))) else (none)) else (none))))=some (r1,r2):=h
 clear h
 replace H:=Option.bind_eq_some_iff.mp H
 obtain ⟨t268,A30,H⟩:=H
 replace H:(if t268 ≥ 0 then (some (t268,([]:List (S39)))) else (if 0≤(l1.length:Int) then (if (l1.length:Int) < (ai.length:Int) then (fastiref15_refute.l0 k l1 (ao ai (l1.length:Int)) 0 ai ah (-1) ([]:List (S39))) else (none)) else (none)))=some (r1,r2):=H
 have A3:=zzA A30
 clear A30
 by_cases c4:t268 ≥ 0
 ·rw [if_pos c4] at H
  have f8:decide (0≤t268)=true:=zzG c4
  clear c4
  simp only [Option.some.injEq,Prod.mk.injEq] at H
  obtain ⟨rfl,rfl⟩:=H
  go_enter Try.func42,Try.ntmps42
  go_wp2_with (first|((with_reducible refine ay (N:=2) rfl ?_);refine aq ?hg (N:=2) ?hd (cs:=#[.slice ax ai.length ap,.slice au ah.length am]) (t:=25) ?hr ?_;(case hd=>rfl);(case hg=>rfl);(case hr=>first|(go_simp;done)|(go_simp;rfl));intro bO hg w5 hbox hb;have n0_:=zzA (ag (by repeat (first|(with_reducible first|exact HB.out|apply a6|apply a4|apply a5)|exact HB.out)) hb);have n1_:=zzA (hbox);have n2_:=zzA ((by rw [hg];exact (ae (by repeat (first|(with_reducible first|exact HB.out|apply a6|apply a4|apply a5)|exact HB.out))):w.heap.size≤bO));have n3_:=zzA ((by rw [hg];exact (ae (by repeat (first|(with_reducible first|exact HB.out|apply a6|apply a4|apply a5)|exact HB.out))):w.heap.size≤bO));clear HB;have HB:=n0_;have aZ:=n1_;have GW266:=n2_;have cn:=n3_;clear n0_ n1_ n2_ n3_;clear hb hbox hg)|((with_reducible refine ay (N:=4) rfl ?_);refine aq ?hg (N:=4) ?hd (cs:=#[.int .i64 0,.slice none 0 0]) (t:=39) ?hr ?_;(case hd=>rfl);(case hg=>rfl);(case hr=>first|(go_simp;done)|(go_simp;rfl));intro bY hg w6 hbox hb;have n0_:=zzA (af (g:=bO) (o:=.cells #[.slice ax ai.length ap,.slice au ah.length am] 25 (0,0)) (by (with_reducible repeat (first|refine aa ?_ _|refine ac ?_|refine a9 ?_ _));exact aZ.out) hb);have n1_:=zzA (ag (by repeat (first|(with_reducible first|exact HB.out|apply a6|apply a4|apply a5|refine a7 ?_ cn.out)|exact HB.out)) hb);have n2_:=zzA (hbox);have n3_:=zzA ((by rw [hg];exact (ae (by repeat (first|(with_reducible first|exact HB.out|apply a6|apply a4|apply a5|refine a7 ?_ cn.out)|exact HB.out))):w.heap.size≤bY));have n4_:=zzA ((by rw [hg];exact (ae (by repeat (first|(with_reducible first|exact HB.out|apply a6|apply a4|apply a5|refine a7 ?_ cn.out)|exact HB.out))):w.heap.size≤bY));have n5_:=zzA ((by rw [hg];exact Nat.ne_of_lt (aJ (g:=bO) (o:=.cells #[.slice ax ai.length ap,.slice au ah.length am] 25 (0,0)) (by (with_reducible repeat (first|refine aa ?_ _|refine ac ?_|refine a9 ?_ _));exact aZ.out)):bO ≠ bY));have n6_:=zzA ((by rw [hg];exact Nat.ne_of_gt (aJ (g:=bO) (o:=.cells #[.slice ax ai.length ap,.slice au ah.length am] 25 (0,0)) (by (with_reducible repeat (first|refine aa ?_ _|refine ac ?_|refine a9 ?_ _));exact aZ.out)):bY ≠ bO));clear aZ;clear HB;have aZ:=n0_;have HB:=n1_;have bG:=n2_;have GW267:=n3_;have cD:=n4_;have NB266_267:=n5_;have NB267_266:=n6_;clear n0_ n1_ n2_ n3_ n4_ n5_ n6_;clear hb hbox hg;have hnb7:=NB266_267.out;have hnc7:=NB267_266.out;have eD:w6.cell? ⟨bO,0,none⟩=some (.slice ax ai.length ap):=(a8 aZ.out 0).trans rfl;have eE:w6.cell? ⟨bO,1,none⟩=some (.slice au ah.length am):=(a8 aZ.out 1).trans rfl;have eF:=ab aZ.out 0;have eG:=ab aZ.out 1)|((with_reducible refine ar (f:=54) rfl ?_);refine bi (some 11) rfl rfl Try.func54 (by kernel_rfl) rfl #[.agg #[.slice ax ai.length ap,.slice au ah.length am],.slice A1 l1.length c1] rfl (by (try simp only [List.map_toArray,List.map_cons,List.map_nil]);first|done|rfl|(simp only [List.length_drop,List.length_take];rfl)) ?_;(with_reducible refine (fastiref15_first.calls k _ _ ai _ _ ah _ _ l1 t268 _ ?side1 ?side2 ?side3 ?side4 ?side5 ?side6 A3.out).mono ?_);(case side1=>repeat (first|exact (zzI bz.out HB.out)|(with_reducible refine Kd.C_alloc ?_ _)|(with_reducible refine Kd.C_drewN ?_ _)|(with_reducible refine Kd.C_drew ?_)));(case side2=>exact bH.out);(case side3=>repeat (first|exact (zzI bq.out HB.out)|(with_reducible refine Kd.C_alloc ?_ _)|(with_reducible refine Kd.C_drewN ?_ _)|(with_reducible refine Kd.C_drew ?_)));(case side4=>exact bF.out);(case side5=>repeat (first|exact (zzI HR1.out HB.out)|(with_reducible refine Kd.C_alloc ?_ _)|(with_reducible refine Kd.C_drewN ?_ _)|(with_reducible refine Kd.C_drew ?_)));(case side6=>exact HC1.out);rintro e w9 ⟨rfl,hb⟩;refine ⟨_,rfl,?_⟩;have n0_:=zzA (af (g:=bO) (o:=.cells #[.slice ax ai.length ap,.slice au ah.length am] 25 (0,0)) (by (with_reducible repeat (first|refine aa ?_ _|refine ac ?_|refine a9 ?_ _));exact aZ.out) hb);have n1_:=zzA (af (g:=bY) (o:=.cells #[.int .i64 0,.slice none 0 0] 39 (0,0)) (by (with_reducible repeat (first|refine aa ?_ _|refine ac ?_|refine a9 ?_ _));exact bG.out) hb);have n2_:=zzA (ag (by repeat (first|(with_reducible first|exact HB.out|apply a6|apply a4|apply a5|refine a7 ?_ cn.out|refine a7 ?_ cD.out)|exact HB.out)) hb);clear aZ;clear bG;clear HB;have aZ:=n0_;have bG:=n1_;have HB:=n2_;clear n0_ n1_ n2_;(try clear hb);(try clear hb2);(try clear hk);(try clear hi);have ef:w9.cell? ⟨bY,0,none⟩=some (.int .i64 0):=(a8 bG.out 0).trans rfl;have eh:w9.cell? ⟨bY,1,none⟩=some (.slice none 0 0):=(a8 bG.out 1).trans rfl;have ei:=ab bG.out 0;have ej:=ab bG.out 1))
  refine bodyPost_ret (results_cell_row rfl _ _ bY 39 #[.int .i64 t268,.slice none 0 0] (0,0) _ rfl (by (with_reducible repeat (first|refine aa ?_ _|refine ac ?_|refine a9 ?_ _));refine aN (cs:=#[.int .i64 t268,.slice none 0 0]) ?_ 1 _ rfl;(with_reducible repeat (first|refine aa ?_ _|refine ac ?_|refine a9 ?_ _));refine aN (cs:=#[.int .i64 0,.slice none 0 0]) ?_ 0 _ rfl;(with_reducible repeat (first|refine aa ?_ _|refine ac ?_|refine a9 ?_ _));exact bG.out) Try.underlying39 rfl (by kernel_rfl)) rfl ?_
  exact ⟨_,by first|rfl|(simp [ak,al] <;> rfl)|(simp [*,ak,al] <;> rfl),by first|exact Kd.R_nil _ _ _ _ _|exact Kd.N_nil _ _ _ _ _|exact Kd.V_nil _ _ _ _ _|exact Kd.Q_nil _ _ _ _ _|exact Kd.S_nil _ _ _ _ _,by repeat (first|(with_reducible first|exact HB.out|apply a6|apply a4|apply a5|refine a7 ?_ cn.out|refine a7 ?_ cD.out)|exact HB.out)⟩
 ·rw [if_neg c4] at H
  have f8:decide (0≤t268)=false:=zzH c4
  clear c4
  by_cases c11:0≤(l1.length:Int)
  ·rw [if_pos c11] at H
   have c11b0:decide (0≤(l1.length:Int))=true:=zzG c11
   have c11b1:decide (0≤l1.length)=true:=zzG (by omega)
   clear c11
   by_cases c12:(l1.length:Int) < (ai.length:Int)
   ·rw [if_pos c12] at H
    have c12b0:decide ((l1.length:Int) < (ai.length:Int))=true:=zzG c12
    have c12b1:decide (l1.length < ai.length)=true:=zzG (Int.ofNat_lt.mp c12)
    clear c12
    have H':=zzA H
    clear H
    go_enter Try.func42,Try.ntmps42
    go_wp2_with (first|((with_reducible refine ay (N:=2) rfl ?_);refine aq ?hg (N:=2) ?hd (cs:=#[.slice ax ai.length ap,.slice au ah.length am]) (t:=25) ?hr ?_;(case hd=>rfl);(case hg=>rfl);(case hr=>first|(go_simp;done)|(go_simp;rfl));intro bO hg w13 hbox hb;have n0_:=zzA (ag (by repeat (first|(with_reducible first|exact HB.out|apply a6|apply a4|apply a5)|exact HB.out)) hb);have n1_:=zzA (hbox);have n2_:=zzA ((by rw [hg];exact (ae (by repeat (first|(with_reducible first|exact HB.out|apply a6|apply a4|apply a5)|exact HB.out))):w.heap.size≤bO));have n3_:=zzA ((by rw [hg];exact (ae (by repeat (first|(with_reducible first|exact HB.out|apply a6|apply a4|apply a5)|exact HB.out))):w.heap.size≤bO));clear HB;have HB:=n0_;have aZ:=n1_;have GW266:=n2_;have cn:=n3_;clear n0_ n1_ n2_ n3_;clear hb hbox hg)|((with_reducible refine ay (N:=4) rfl ?_);refine aq ?hg (N:=4) ?hd (cs:=#[.int .i64 0,.slice none 0 0]) (t:=39) ?hr ?_;(case hd=>rfl);(case hg=>rfl);(case hr=>first|(go_simp;done)|(go_simp;rfl));intro bY hg w14 hbox hb;have n0_:=zzA (af (g:=bO) (o:=.cells #[.slice ax ai.length ap,.slice au ah.length am] 25 (0,0)) (by (with_reducible repeat (first|refine aa ?_ _|refine ac ?_|refine a9 ?_ _));exact aZ.out) hb);have n1_:=zzA (ag (by repeat (first|(with_reducible first|exact HB.out|apply a6|apply a4|apply a5|refine a7 ?_ cn.out)|exact HB.out)) hb);have n2_:=zzA (hbox);have n3_:=zzA ((by rw [hg];exact (ae (by repeat (first|(with_reducible first|exact HB.out|apply a6|apply a4|apply a5|refine a7 ?_ cn.out)|exact HB.out))):w.heap.size≤bY));have n4_:=zzA ((by rw [hg];exact (ae (by repeat (first|(with_reducible first|exact HB.out|apply a6|apply a4|apply a5|refine a7 ?_ cn.out)|exact HB.out))):w.heap.size≤bY));have n5_:=zzA ((by rw [hg];exact Nat.ne_of_lt (aJ (g:=bO) (o:=.cells #[.slice ax ai.length ap,.slice au ah.length am] 25 (0,0)) (by (with_reducible repeat (first|refine aa ?_ _|refine ac ?_|refine a9 ?_ _));exact aZ.out)):bO ≠ bY));have n6_:=zzA ((by rw [hg];exact Nat.ne_of_gt (aJ (g:=bO) (o:=.cells #[.slice ax ai.length ap,.slice au ah.length am] 25 (0,0)) (by (with_reducible repeat (first|refine aa ?_ _|refine ac ?_|refine a9 ?_ _));exact aZ.out)):bY ≠ bO));clear aZ;clear HB;have aZ:=n0_;have HB:=n1_;have bG:=n2_;have GW267:=n3_;have cD:=n4_;have NB266_267:=n5_;have NB267_266:=n6_;clear n0_ n1_ n2_ n3_ n4_ n5_ n6_;clear hb hbox hg;have hnb15:=NB266_267.out;have hnc15:=NB267_266.out;have eH:w14.cell? ⟨bO,0,none⟩=some (.slice ax ai.length ap):=(a8 aZ.out 0).trans rfl;have eI:w14.cell? ⟨bO,1,none⟩=some (.slice au ah.length am):=(a8 aZ.out 1).trans rfl;have eJ:=ab aZ.out 0;have eK:=ab aZ.out 1)|((with_reducible refine ar (f:=54) rfl ?_);refine bi (some 11) rfl rfl Try.func54 (by kernel_rfl) rfl #[.agg #[.slice ax ai.length ap,.slice au ah.length am],.slice A1 l1.length c1] rfl (by (try simp only [List.map_toArray,List.map_cons,List.map_nil]);first|done|rfl|(simp only [List.length_drop,List.length_take];rfl)) ?_;(with_reducible refine (fastiref15_first.calls k _ _ ai _ _ ah _ _ l1 t268 _ ?side1 ?side2 ?side3 ?side4 ?side5 ?side6 A3.out).mono ?_);(case side1=>repeat (first|exact (zzI bz.out HB.out)|(with_reducible refine Kd.C_alloc ?_ _)|(with_reducible refine Kd.C_drewN ?_ _)|(with_reducible refine Kd.C_drew ?_)));(case side2=>exact bH.out);(case side3=>repeat (first|exact (zzI bq.out HB.out)|(with_reducible refine Kd.C_alloc ?_ _)|(with_reducible refine Kd.C_drewN ?_ _)|(with_reducible refine Kd.C_drew ?_)));(case side4=>exact bF.out);(case side5=>repeat (first|exact (zzI HR1.out HB.out)|(with_reducible refine Kd.C_alloc ?_ _)|(with_reducible refine Kd.C_drewN ?_ _)|(with_reducible refine Kd.C_drew ?_)));(case side6=>exact HC1.out);rintro e w17 ⟨rfl,hb⟩;refine ⟨_,rfl,?_⟩;have n0_:=zzA (af (g:=bO) (o:=.cells #[.slice ax ai.length ap,.slice au ah.length am] 25 (0,0)) (by (with_reducible repeat (first|refine aa ?_ _|refine ac ?_|refine a9 ?_ _));exact aZ.out) hb);have n1_:=zzA (af (g:=bY) (o:=.cells #[.int .i64 0,.slice none 0 0] 39 (0,0)) (by (with_reducible repeat (first|refine aa ?_ _|refine ac ?_|refine a9 ?_ _));exact bG.out) hb);have n2_:=zzA (ag (by repeat (first|(with_reducible first|exact HB.out|apply a6|apply a4|apply a5|refine a7 ?_ cn.out|refine a7 ?_ cD.out)|exact HB.out)) hb);clear aZ;clear bG;clear HB;have aZ:=n0_;have bG:=n1_;have HB:=n2_;clear n0_ n1_ n2_;(try clear hb);(try clear hb2);(try clear hk);(try clear hi))|((with_reducible refine ay (N:=6) rfl ?_);refine aq ?hg (N:=6) ?hd (cs:=#[.int .i64 0,.slice none 0 0]) (t:=39) ?hr ?_;(case hd=>rfl);(case hg=>rfl);(case hr=>first|(go_simp;done)|(go_simp;rfl));intro ce hg w18 hbox hb;have n0_:=zzA (af (g:=bO) (o:=.cells #[.slice ax ai.length ap,.slice au ah.length am] 25 (0,0)) (by (with_reducible repeat (first|refine aa ?_ _|refine ac ?_|refine a9 ?_ _));exact aZ.out) hb);have n1_:=zzA (af (g:=bY) (o:=.cells #[.int .i64 0,.slice none 0 0] 39 (0,0)) (by (with_reducible repeat (first|refine aa ?_ _|refine ac ?_|refine a9 ?_ _));exact bG.out) hb);have n2_:=zzA (ag (by repeat (first|(with_reducible first|exact HB.out|apply a6|apply a4|apply a5|refine a7 ?_ cn.out|refine a7 ?_ cD.out)|exact HB.out)) hb);have n3_:=zzA (hbox);have n4_:=zzA ((by rw [hg];exact (ae (by repeat (first|(with_reducible first|exact HB.out|apply a6|apply a4|apply a5|refine a7 ?_ cn.out|refine a7 ?_ cD.out)|exact HB.out))):w.heap.size≤ce));have n5_:=zzA ((by rw [hg];exact (ae (by repeat (first|(with_reducible first|exact HB.out|apply a6|apply a4|apply a5|refine a7 ?_ cn.out|refine a7 ?_ cD.out)|exact HB.out))):w.heap.size≤ce));have n6_:=zzA ((by rw [hg];exact Nat.ne_of_lt (aJ (g:=bO) (o:=.cells #[.slice ax ai.length ap,.slice au ah.length am] 25 (0,0)) (by (with_reducible repeat (first|refine aa ?_ _|refine ac ?_|refine a9 ?_ _));exact aZ.out)):bO ≠ ce));have n7_:=zzA ((by rw [hg];exact Nat.ne_of_gt (aJ (g:=bO) (o:=.cells #[.slice ax ai.length ap,.slice au ah.length am] 25 (0,0)) (by (with_reducible repeat (first|refine aa ?_ _|refine ac ?_|refine a9 ?_ _));exact aZ.out)):ce ≠ bO));have n8_:=zzA ((by rw [hg];exact Nat.ne_of_lt (aJ (g:=bY) (o:=.cells #[.int .i64 0,.slice none 0 0] 39 (0,0)) (by (with_reducible repeat (first|refine aa ?_ _|refine ac ?_|refine a9 ?_ _));exact bG.out)):bY ≠ ce));have n9_:=zzA ((by rw [hg];exact Nat.ne_of_gt (aJ (g:=bY) (o:=.cells #[.int .i64 0,.slice none 0 0] 39 (0,0)) (by (with_reducible repeat (first|refine aa ?_ _|refine ac ?_|refine a9 ?_ _));exact bG.out)):ce ≠ bY));clear aZ;clear bG;clear HB;have aZ:=n0_;have bG:=n1_;have HB:=n2_;have br:=n3_;have GW269:=n4_;have cR:=n5_;have NB266_269:=n6_;have NB269_266:=n7_;have NB267_269:=n8_;have NB269_267:=n9_;clear n0_ n1_ n2_ n3_ n4_ n5_ n6_ n7_ n8_ n9_;clear hb hbox hg;have hnb19:=NB269_266.out;have hnc19:=NB266_269.out;have hnb20:=NB269_267.out;have hnc20:=NB267_269.out;have hcz21_0:w18.cell? ⟨ce,0,none⟩=some (.int .i64 0):=(a8 br.out 0).trans rfl;have hcz21_1:w18.cell? ⟨ce,1,none⟩=some (.slice none 0 0):=(a8 br.out 1).trans rfl;have hfz21_0:=ab br.out 0;have hfz21_1:=ab br.out 1;have hcz22_0:w18.cell? ⟨bO,0,none⟩=some (.slice ax ai.length ap):=(a8 aZ.out 0).trans rfl;have hcz22_1:w18.cell? ⟨bO,1,none⟩=some (.slice au ah.length am):=(a8 aZ.out 1).trans rfl;have hfz22_0:=ab aZ.out 0;have hfz22_1:=ab aZ.out 1;have p270:0≤((l1.length:Int):Int):=zzF (by first|(with_reducible assumption)|assumption);have q270:(l1.length:Int) < (ai.length:Int):=zzF (by first|(with_reducible assumption)|assumption);obtain ⟨ad270,A270_0,c270_0,e270,eX,hl270_0,hi270_0⟩:=et bz.out (l1.length:Int) p270 q270;cases e270;have hn270_0:ad270.block ≠ ce:=Nat.ne_of_lt (Nat.lt_of_lt_of_le (by have:=zzE _ _ eX;first|rwa [add_block] at this|exact this) GW269.out);have hn270_1:ad270.block ≠ ce:=Nat.ne_of_lt (Nat.lt_of_lt_of_le (by have:=zzE _ _ eX;first|rwa [add_block] at this|exact this) GW269.out);replace eX:=(HB.out.cell (zzE w _ eX)).trans eX;have HR270_0:=zzA hi270_0;have HC270_0:=zzA hl270_0;clear hi270_0 hl270_0;replace eX:=(cell_far (p:=⟨ce,0,none⟩) (by first|(rw [add_block];exact hn270_0)|(show (Addr.add _ _).block ≠ _;rw [add_block];exact hn270_0)|exact hn270_0) (.int .i64 (-1))).trans eX;replace eX:=(cell_far (p:=⟨ce,1,none⟩) (by first|(rw [add_block];exact hn270_1)|(show (Addr.add _ _).block ≠ _;rw [add_block];exact hn270_1)|exact hn270_1) (.slice none 0 0)).trans eX;clear hn270_0;clear hn270_1;(try simp only [Go.IntWalk.toNatUp] at eX);replace p270:=eq_true p270;replace q270:=eq_true q270))
    go_loopg [8] k (fun kq v8 w'=>∃ (x8_1:Int) (x270001_1:List (S39)) (u270001:Value),v8=.int .i64 x8_1∧Aside0 (fastiref15_refute.l0 kq l1 (ao ai (l1.length:Int)) x8_1 ai ah (-1) x270001_1=some (r1,r2))∧Aside0 (kq≤k)∧Aside0 (Kd.N k39 39 w' w.heap.size (fun k_=>(w.heap.size≤k_)∧k_ ≠ bO∧k_ ≠ bY∧k_ ≠ ce) u270001 x270001_1)∧Aside0 (w'.heap[bO]?=some (.cells #[(.slice (some ad270) ai.length ap),(.slice au ah.length am)] 25 (0,0)))∧Aside0 (w'.heap[bY]?=some (.cells #[.int .i64 0,(.slice none 0 0)] 39 (0,0)))∧Aside0 (w'.heap[ce]?=some (.cells #[.int .i64 (-1),u270001] 39 (0,0)))∧Aside0 (Below w.heap.size w w'))
    case atStart=>exact ⟨(0),(([]:List (S39))),(.slice none 0 0),(by first|rfl|(simp;done)|(simp [*];done)),H',⟨Nat.le_refl _⟩,⟨by first|exact Kd.R_nil _ _ _ _ _|exact Kd.N_nil _ _ _ _ _|exact Kd.V_nil _ _ _ _ _|exact Kd.Q_nil _ _ _ _ _|exact Kd.S_nil _ _ _ _ _⟩,⟨by (with_reducible repeat (first|refine aa ?_ _|refine ac ?_|refine a9 ?_ _));refine aV ?_ NB266_269.out _;(with_reducible repeat (first|refine aa ?_ _|refine ac ?_|refine a9 ?_ _));refine aV ?_ NB266_269.out _;(with_reducible repeat (first|refine aa ?_ _|refine ac ?_|refine a9 ?_ _));exact aZ.out⟩,⟨by (with_reducible repeat (first|refine aa ?_ _|refine ac ?_|refine a9 ?_ _));refine aV ?_ NB267_269.out _;(with_reducible repeat (first|refine aa ?_ _|refine ac ?_|refine a9 ?_ _));refine aV ?_ NB267_269.out _;(with_reducible repeat (first|refine aa ?_ _|refine ac ?_|refine a9 ?_ _));exact bG.out⟩,⟨by (with_reducible repeat (first|refine aa ?_ _|refine ac ?_|refine a9 ?_ _));refine aN (cs:=#[.int .i64 (-1),.slice none 0 0]) ?_ 1 _ rfl;(with_reducible repeat (first|refine aa ?_ _|refine ac ?_|refine a9 ?_ _));refine aN (cs:=#[.int .i64 0,.slice none 0 0]) ?_ 0 _ rfl;(with_reducible repeat (first|refine aa ?_ _|refine ac ?_|refine a9 ?_ _));exact br.out⟩,⟨by repeat (first|(with_reducible first|exact HB.out|apply a6|apply a4|apply a5|refine a7 ?_ cn.out|refine a7 ?_ cD.out|refine a7 ?_ cR.out)|exact HB.out)⟩⟩
    case round =>
     clear H'
     try clear c1;try clear c2;try clear p2;try clear q2;try clear hx2;try clear c4;try clear f8;try clear c5;try clear c7;try clear c11;try clear c11b0;try clear c11b1;try clear c12;try clear c12b0;try clear c12b1;try clear c15;try clear c19;try clear c20;try clear ef;try clear eh;try clear eH;try clear eI;try clear hcz21_0;try clear hcz21_1;try clear hcz22_0;try clear hcz22_1;try clear eD;try clear eE;try clear ei;try clear ej;try clear eJ;try clear eK;try clear hfz21_0;try clear hfz21_1;try clear hfz22_0;try clear hfz22_1;try clear eF;try clear eG;try clear eX;try clear p270;try clear q270
     obtain ⟨x8_1,x270001_1,u270001,rfl,HA,HK1,aE,aZ,bG,br,HB⟩:=hrel
     cases gk with
     | zero=>exact absurd HA.out (by simp [fastiref15_refute.l0])
     | succ k1 =>
      have H:=HA.out
      clear HA
      simp only [fastiref15_refute.l0] at H
      by_cases c23:x8_1 < ((ao ai (l1.length:Int)).length:Int)
      ·rw [if_pos c23] at H
       have c23b0:decide (x8_1 < ((ao ai (l1.length:Int)).length:Int))=true:=zzG c23
       clear c23
       obtain ⟨y271,hy271⟩ : ∃ y_:List Int,y_=(([]:List Int)):=⟨_,rfl⟩
       replace H:(if y271.length+l1.length < 17592186044416 then ((some (y271 ++ l1:List Int)).bind fun y274=>(if 0≤x8_1 then ((some (([rd (ao ai (l1.length:Int)) x8_1]:List Int):List Int)).bind fun y278=>(if y274.length+y278.length < 17592186044416 then ((fastiref15_refute.f k1 ai ah (y274 ++ y278)).bind fun iS=>((some (([(⟨iS.1,iS.2⟩ : S39)]:List (S39)):List (S39))).bind fun y288=>(if x270001_1.length+y288.length < 4398046511104 then (fastiref15_refute.l0 k1 l1 (ao ai (l1.length:Int)) (wrap64 (x8_1+1)) ai ah (-1) (x270001_1 ++ y288)) else (none)))) else (none))) else (none))) else (none))=some (r1,r2):=by first|(rw [hy271];with_reducible exact H)|(have H2_:=(Option.bind_some _ _).symm.trans H;rw [hy271];with_reducible exact H2_)|(have H2_:=(Option.bind_some _ _).symm.trans H;with_reducible exact H2_)|with_reducible exact H|(rw [hy271];exact H)|exact H
       have Ny271:=zzA hy271
       clear hy271
       by_cases c24:y271.length+l1.length < 17592186044416
       ·rw [if_pos c24] at H
        have LMc24:=zzA c24
        clear c24
        obtain ⟨y274,hy274⟩ : ∃ y_:List Int,y_=(y271 ++ l1):=⟨_,rfl⟩
        replace H:(if 0≤x8_1 then ((some (([rd (ao ai (l1.length:Int)) x8_1]:List Int):List Int)).bind fun y278=>(if y274.length+y278.length < 17592186044416 then ((fastiref15_refute.f k1 ai ah (y274 ++ y278)).bind fun iS=>((some (([(⟨iS.1,iS.2⟩ : S39)]:List (S39)):List (S39))).bind fun y288=>(if x270001_1.length+y288.length < 4398046511104 then (fastiref15_refute.l0 k1 l1 (ao ai (l1.length:Int)) (wrap64 (x8_1+1)) ai ah (-1) (x270001_1 ++ y288)) else (none)))) else (none))) else (none))=some (r1,r2):=by first|(rw [hy274];with_reducible exact H)|(have H2_:=(Option.bind_some _ _).symm.trans H;rw [hy274];with_reducible exact H2_)|(have H2_:=(Option.bind_some _ _).symm.trans H;with_reducible exact H2_)|with_reducible exact H|(rw [hy274];exact H)|exact H
        have Ny274:=zzA hy274
        clear hy274
        by_cases c25:0≤x8_1
        ·rw [if_pos c25] at H
         have c25b0:decide (0≤x8_1)=true:=zzG c25
         clear c25
         obtain ⟨y278,hy278⟩ : ∃ y_:List Int,y_=(([rd (ao ai (l1.length:Int)) x8_1]:List Int)):=⟨_,rfl⟩
         replace H:(if y274.length+y278.length < 17592186044416 then ((fastiref15_refute.f k1 ai ah (y274 ++ y278)).bind fun iS=>((some (([(⟨iS.1,iS.2⟩ : S39)]:List (S39)):List (S39))).bind fun y288=>(if x270001_1.length+y288.length < 4398046511104 then (fastiref15_refute.l0 k1 l1 (ao ai (l1.length:Int)) (wrap64 (x8_1+1)) ai ah (-1) (x270001_1 ++ y288)) else (none)))) else (none))=some (r1,r2):=by first|(rw [hy278];with_reducible exact H)|(have H2_:=(Option.bind_some _ _).symm.trans H;rw [hy278];with_reducible exact H2_)|(have H2_:=(Option.bind_some _ _).symm.trans H;with_reducible exact H2_)|with_reducible exact H|(rw [hy278];exact H)|exact H
         have Ny278:=zzA hy278
         clear hy278
         by_cases c26:y274.length+y278.length < 17592186044416
         ·rw [if_pos c26] at H
          have LMc26:=zzA c26
          clear c26
          obtain ⟨y281,hy281⟩ : ∃ y_:List Int,y_=(y274 ++ y278):=⟨_,rfl⟩
          replace H:((fastiref15_refute.f k1 ai ah y281).bind fun iS=>((some (([(⟨iS.1,iS.2⟩ : S39)]:List (S39)):List (S39))).bind fun y288=>(if x270001_1.length+y288.length < 4398046511104 then (fastiref15_refute.l0 k1 l1 (ao ai (l1.length:Int)) (wrap64 (x8_1+1)) ai ah (-1) (x270001_1 ++ y288)) else (none))))=some (r1,r2):=by first|(rw [hy281];with_reducible exact H)|(have H2_:=(Option.bind_some _ _).symm.trans H;rw [hy281];with_reducible exact H2_)|(have H2_:=(Option.bind_some _ _).symm.trans H;with_reducible exact H2_)|with_reducible exact H|(rw [hy281];exact H)|exact H
          have Ny281:=zzA hy281
          clear hy281
          replace H:=Option.bind_eq_some_iff.mp H
          obtain ⟨⟨t284,t285⟩,A270,H⟩:=H
          replace H:((some (([(⟨t284,t285⟩ : S39)]:List (S39)):List (S39))).bind fun y288=>(if x270001_1.length+y288.length < 4398046511104 then (fastiref15_refute.l0 k1 l1 (ao ai (l1.length:Int)) (wrap64 (x8_1+1)) ai ah (-1) (x270001_1 ++ y288)) else (none)))=some (r1,r2):=H
          have A27:=zzA A270
          clear A270
          obtain ⟨y288,hy288⟩ : ∃ y_:List (S39),y_=(([(⟨t284,t285⟩ : S39)]:List (S39))):=⟨_,rfl⟩
          replace H:(if x270001_1.length+y288.length < 4398046511104 then (fastiref15_refute.l0 k1 l1 (ao ai (l1.length:Int)) (wrap64 (x8_1+1)) ai ah (-1) (x270001_1 ++ y288)) else (none))=some (r1,r2):=by first|(rw [hy288];with_reducible exact H)|(have H2_:=(Option.bind_some _ _).symm.trans H;rw [hy288];with_reducible exact H2_)|(have H2_:=(Option.bind_some _ _).symm.trans H;with_reducible exact H2_)|with_reducible exact H|(rw [hy288];exact H)|exact H
          have Ny288:=zzA hy288
          clear hy288
          by_cases c28:x270001_1.length+y288.length < 4398046511104
          ·rw [if_pos c28] at H
           have LMc28:=zzA c28
           clear c28
           obtain ⟨y291,hy291⟩ : ∃ y_:List (S39),y_=(x270001_1 ++ y288):=⟨_,rfl⟩
           replace H:(fastiref15_refute.l0 k1 l1 (ao ai (l1.length:Int)) (wrap64 (x8_1+1)) ai ah (-1) y291)=some (r1,r2):=by first|(rw [hy291];with_reducible exact H)|(have H2_:=(Option.bind_some _ _).symm.trans H;rw [hy291];with_reducible exact H2_)|(have H2_:=(Option.bind_some _ _).symm.trans H;with_reducible exact H2_)|with_reducible exact H|(rw [hy291];exact H)|exact H
           have Ny291:=zzA hy291
           clear hy291
           have H':=zzA H
           clear H
           obtain ⟨Ao29,gD,eo29⟩:=Kd.N_slice aE.out
           subst eo29
           try go_wp2
           have n0_:=zzA (Kd.N_drew aE.out)
           have n1_:=zzA (ac aZ.out)
           have n2_:=zzA (ac bG.out)
           have n3_:=zzA (ac br.out)
           have n4_:=zzA (a5 HB.out)
           clear aE
           clear aZ
           clear bG
           clear br
           clear HB
           have aE:=n0_
           have aZ:=n1_
           have bG:=n2_
           have br:=n3_
           have HB:=n4_
           clear n0_ n1_ n2_ n3_ n4_
           have p277:0≤(x8_1:Int):=zzF (by first|(with_reducible assumption)|assumption)
           have q277:x8_1 < ((ao ai (l1.length:Int)).length:Int):=zzF (by first|(with_reducible assumption)|assumption)
           obtain ⟨ad277,e277,lS⟩:=Kd.at_int HR270_0.out x8_1 p277 q277
           have cB:=lS
           cases e277
           replace lS:=(HB.out.cell (zzE w _ lS)).trans lS
           replace p277:=eq_true p277
           replace q277:=eq_true q277
           refine ff (n:=17) (S:=fun w'=>w'.cell? ⟨ce,0,none⟩=some (.int .i64 (-1))∧w'.cell? ⟨ce,1,none⟩=some (.slice Ao29 x270001_1.length gD)∧w'.cell? ⟨bO,0,none⟩=some (.slice (some ad270) ai.length ap)∧w'.cell? ⟨bO,1,none⟩=some (.slice au ah.length am)∧w'.cell? (ad277.add (x8_1).toNat)=some (.int .i64 (rd (ao ai (l1.length:Int)) x8_1))) (ds:=[16]) #[false,false,false,false,false,false,false,false,false,false,false,false,false,false,false,false,false] (by kernel_rfl) rfl rfl ⟨(a8 br.out 0).trans rfl,(a8 br.out 1).trans rfl,(a8 aZ.out 0).trans rfl,(a8 aZ.out 1).trans rfl,((HB.out.cell (zzE w _ cB)).trans cB)⟩ (fun hHeld=>?_);refine dy fastiref15_refute.tab9 fastiref15_refute.bits9 (fun HT_ HW_=>?_)
           generalize wr.drew=w30 at aE aZ bG br HB lS hHeld ⊢
           refine bh (i:=0) (N:=some 29) (v:=?_) (a':=?_) #[true,false,false,false,false,false,false,false,false,false,false,false,false,false,false,false,false] rfl rfl (aG HT_.out (by kernel_rfl)) (fun _ _ _ h=>h) (Or.inl ⟨by rfl,?_⟩) ?_ ?_
           rotate_left
           ·intro w'
            go_simp
            with_reducible rfl
           rotate_left
           ·simp only [Act.put,zzB,zzC,zzD,av,aw]
            rfl
           refine bh (i:=4) (N:=some 33) (v:=?_) (a':=?_) #[true,false,false,false,true,false,false,false,false,false,false,false,false,false,false,false,false] rfl rfl (aG HT_.out (by kernel_rfl)) (fun _ _ _ h=>h) (Or.inl ⟨by rfl,?_⟩) ?_ ?_
           rotate_left
           ·intro w'
            go_simp
            with_reducible rfl
           rotate_left
           ·simp only [Act.put,zzB,zzC,zzD,av,aw]
            rfl
           refine bh (i:=6) (N:=some 35) (v:=?_) (a':=?_) #[true,false,false,false,true,false,true,false,false,false,false,false,false,false,false,false,false] rfl rfl (aG HT_.out (by kernel_rfl)) (fun _ _ _ h=>h) (Or.inl ⟨by rfl,?_⟩) ?_ ?_
           rotate_left
           ·intro w'
            go_simp
            with_reducible rfl
           rotate_left
           ·simp only [Act.put,zzB,zzC,zzD,av,aw]
            rfl
           refine bh (i:=7) (N:=some 36) (v:=?_) (a':=?_) #[true,false,false,false,true,false,true,true,false,false,false,false,false,false,false,false,false] rfl rfl (aG HT_.out (by kernel_rfl)) (fun _ _ _ h=>h) (Or.inl ⟨by rfl,?_⟩) ?_ ?_
           rotate_left
           ·intro w'
            go_simp
            with_reducible rfl
           rotate_left
           ·simp only [Act.put,zzB,zzC,zzD,av,aw]
            rfl
           refine bh (i:=8) (N:=some 37) (v:=?_) (a':=?_) #[true,false,false,false,true,false,true,true,true,false,false,false,false,false,false,false,false] rfl rfl (aG HT_.out (by kernel_rfl)) (fun _ _ _ h=>h) (Or.inl ⟨by rfl,?_⟩) ?_ ?_
           rotate_left
           ·intro w'
            go_simp
            with_reducible rfl
           rotate_left
           ·simp only [Act.put,zzB,zzC,zzD,av,aw]
            rfl
           refine take_ (i:=1) (N:=some 30) (v:=?_) (a':=?_) #[true,true,false,false,true,false,true,true,true,false,false,false,false,false,false,false,false] rfl rfl (bI HT_.out HW_.out (by kernel_rfl)) (fun _ _ _ h=>h) (Or.inl ⟨by rfl,?_⟩) hHeld ?_ ?_
           rotate_left
           ·rintro w' ⟨s0,s1,s2,s3,s4⟩
            go_simp
            with_reducible rfl
           rotate_left
           ·simp only [Act.put,zzB,zzC,zzD,av,aw]
            rfl
           refine take_ (i:=2) (N:=some 31) (v:=?_) (a':=?_) #[true,true,true,false,true,false,true,true,true,false,false,false,false,false,false,false,false] rfl rfl (bI HT_.out HW_.out (by kernel_rfl)) (fun _ _ _ h=>h) (Or.inl ⟨by rfl,?_⟩) hHeld ?_ ?_
           rotate_left
           ·rintro w' ⟨s0,s1,s2,s3,s4⟩
            go_simp
            with_reducible rfl
           rotate_left
           ·simp only [Act.put,zzB,zzC,zzD,av,aw]
            rfl
           refine take_ (i:=9) (N:=some 38) (v:=?_) (a':=?_) #[true,true,true,false,true,false,true,true,true,true,false,false,false,false,false,false,false] rfl rfl (bI HT_.out HW_.out (by kernel_rfl)) (fun _ _ _ h=>h) (Or.inl ⟨by rfl,?_⟩) hHeld ?_ ?_
           rotate_left
           ·rintro w' ⟨s0,s1,s2,s3,s4⟩
            go_simp
            with_reducible rfl
           rotate_left
           ·simp only [Act.put,zzB,zzC,zzD,av,aw]
            rfl
           refine join_ (σ:=Value × Value × Value) 6 #[true,true,true,true,true,true,true,true,true,true,true,false,false,false,false,false,false] (fun s_=>[(32,s_.1),(34,s_.2.1),(39,s_.2.2)]) (fun s_ w'=>(w'.cell? ⟨ce,0,none⟩=some (.int .i64 (-1))∧w'.cell? ⟨ce,1,none⟩=some (.slice Ao29 x270001_1.length gD)∧w'.cell? ⟨bO,0,none⟩=some (.slice (some ad270) ai.length ap)∧w'.cell? ⟨bO,1,none⟩=some (.slice au ah.length am)∧w'.cell? (ad277.add (x8_1).toNat)=some (.int .i64 (rd (ao ai (l1.length:Int)) x8_1)))∧(Kd.R (Kd.int .i64) 3 w' w.heap.size (fun k_=>(w.heap.size≤k_)∧some k_ ≠ (s_.2.2:Value).ownBlock) s_.2.1 y274)∧(Kd.R (Kd.int .i64) 3 w' w.heap.size (fun k_=>(w.heap.size≤k_)∧some k_ ≠ (s_.2.1:Value).ownBlock) s_.2.2 y278)∧(Kd.N k39 39 w' w.heap.size (fun k_=>(w.heap.size≤k_)∧some k_ ≠ (s_.2.1:Value).ownBlock∧some k_ ≠ (s_.2.2:Value).ownBlock∧k_ ≠ bO∧k_ ≠ bY∧k_ ≠ ce) (.slice Ao29 x270001_1.length gD) x270001_1)∧(w'.heap[bO]?=some (.cells #[.slice (some ad270) ai.length ap,.slice au ah.length am] 25 (0,0)))∧(w'.heap[bY]?=some (.cells #[.int .i64 0,.slice none 0 0] 39 (0,0)))∧(w'.heap[ce]?=some (.cells #[.int .i64 (-1),.slice Ao29 x270001_1.length gD] 39 (0,0)))∧(Below w.heap.size w w')) ?_ ?_
           rotate_left
           ·intro hCont
            refine two_ (i:=3) (j:=10) (Ni:=some 32) (Nj:=some 39) #[true,true,true,true,true,false,true,true,true,true,false,false,false,false,false,false,false] #[true,true,true,false,true,false,true,true,true,true,true,false,false,false,false,false,false] rfl rfl rfl rfl (gE HT_.out (by kernel_rfl)) (by decide) (by decide) (fun K hK=>?_) (fun K hK=>?_)
            ·skip
             refine Kd.R_lit_step (Kd.int .i64) _ 3 ?hg (N:=32) ?hd (xs:=([]:List Int)) (inner:=[]) (ok:=fun _=>True) (okp:=fun _=>True) ?hr ?hp (fun _ hk=>hk) trivial (Below.refl _ _) (Nat.le_refl _) (by simp) ?_;(case hd=>rfl);(case hg=>rfl);(case hr=>first|(go_simp;done)|(go_simp;rfl));(case hp=>exact (Reps.none _ _))
             intro v272 w31 ho32 hb hg_ hnew_
             clear hg_ hnew_
             (first|rw [← Ny271.out] at ho32|(simp only [Int.reduceToNat] at ho32;rw [← Ny271.out] at ho32))
             have n0_:=zzA (Kd.N_elder' (by (with_reducible repeat (first|apply Kd.N_alloc|apply Kd.N_drewN|apply Kd.N_drew));exact aE.out) (Kd.R_base ho32) hb)
             have n1_:=zzA (Kd.R_lower (Kd.R_newM (M:=fun k_=>(w.heap.size≤k_)) ho32 (ae (by repeat (first|(with_reducible first|exact HB.out|apply a6|apply a4|apply a5|refine a7 ?_ cn.out|refine a7 ?_ cD.out|refine a7 ?_ cR.out)|exact HB.out))) (fun k_ h_=>h_)) (ae (by repeat (first|(with_reducible first|exact HB.out|apply a6|apply a4|apply a5|refine a7 ?_ cn.out|refine a7 ?_ cD.out|refine a7 ?_ cR.out)|exact HB.out))))
             have n2_:=zzA (af (g:=bO) (o:=.cells #[.slice (some ad270) ai.length ap,.slice au ah.length am] 25 (0,0)) (by (with_reducible repeat (first|refine aa ?_ _|refine ac ?_|refine a9 ?_ _));exact aZ.out) hb)
             have n3_:=zzA (af (g:=bY) (o:=.cells #[.int .i64 0,.slice none 0 0] 39 (0,0)) (by (with_reducible repeat (first|refine aa ?_ _|refine ac ?_|refine a9 ?_ _));exact bG.out) hb)
             have n4_:=zzA (af (g:=ce) (o:=.cells #[.int .i64 (-1),.slice Ao29 x270001_1.length gD] 39 (0,0)) (by (with_reducible repeat (first|refine aa ?_ _|refine ac ?_|refine a9 ?_ _));exact br.out) hb)
             have n5_:=zzA (ag (by repeat (first|(with_reducible first|exact HB.out|apply a6|apply a4|apply a5|refine a7 ?_ cn.out|refine a7 ?_ cD.out|refine a7 ?_ cR.out)|exact HB.out)) hb)
             clear aE
             clear aZ
             clear bG
             clear br
             clear HB
             have aE:=n0_
             have fA:=n1_
             have aZ:=n2_
             have bG:=n3_
             have br:=n4_
             have HB:=n5_
             clear n0_ n1_ n2_ n3_ n4_ n5_
             clear hb ho32
             refine hK.out _ _ ⟨(a8 br.out 0).trans rfl,(a8 br.out 1).trans rfl,(a8 aZ.out 0).trans rfl,(a8 aZ.out 1).trans rfl,((HB.out.cell (zzE w _ cB)).trans cB)⟩ (fun hHeld=>?_)
             clear hK K
             refine bx (a':=?_) ?_ ?_
             rotate_left
             ·show Act.put _ (some 32) _=_
              simp only [Act.put,zzB,zzC,zzD,av,aw]
              rfl
             refine two_ (i:=5) (j:=10) (Ni:=some 34) (Nj:=some 39) #[true,true,true,true,true,true,true,true,true,true,false,false,false,false,false,false,false] #[true,true,true,true,true,false,true,true,true,true,true,false,false,false,false,false,false] rfl rfl rfl rfl (gE HT_.out (by kernel_rfl)) (by decide) (by decide) (fun K hK=>?_) (fun K hK=>?_)
             ·skip
              refine Kd.R_append_rows_step (Kd.int .i64) (w0:=w) w.heap.size (by rfl) (.tmp 32) (.tmp 33) 26 3 (.int .i64 0) 8 rfl Try.underlying26 fa rfl (by decide) (by omega) v272 y271 l1 _ _ _ (fun k_=>(w.heap.size≤k_)) (fun _=>False) rfl rfl ?aO ?aR (fun _ _ h=>h) (fun _ h=>h.elim) ?aF ?aB ?aS ?aL ?_
              (case aR=>repeat (first|exact (zzI HR1.out HB.out)|(with_reducible refine Kd.C_alloc ?_ _)|(with_reducible refine Kd.C_drewN ?_ _)|(with_reducible refine Kd.C_drew ?_)))
              (case aB=>exact (by repeat (first|(with_reducible first|exact HB.out|apply a6|apply a4|apply a5|refine a7 ?_ cn.out|refine a7 ?_ cD.out|refine a7 ?_ cR.out)|exact HB.out)))
              (case aF=>exact (fun k_ hk=>(Nat.le_trans (ae (by repeat (first|(with_reducible first|exact HB.out|apply a6|apply a4|apply a5|refine a7 ?_ cn.out|refine a7 ?_ cD.out|refine a7 ?_ cR.out)|exact HB.out))) hk)))
              (case aO=>exact (by (with_reducible repeat (first|apply Kd.R_alloc|apply Kd.R_drewN|apply Kd.R_drew));exact Kd.R_mono fA.out (fun _ hk=>hk.1)))
              (case aS=>exact (ae (by repeat (first|(with_reducible first|exact HB.out|apply a6|apply a4|apply a5|refine a7 ?_ cn.out|refine a7 ?_ cD.out|refine a7 ?_ cR.out)|exact HB.out))))
              (case aL=>have:=LMc24.out;omega)
              intro v275 w33 ho hb hg hat
              rw [← Ny274.out] at ho
              have n0_:=zzA (Kd.N_afterv (ok:=(fun k_=>(w.heap.size≤k_)∧k_ ≠ bO∧k_ ≠ bY∧k_ ≠ ce)) (by (with_reducible repeat (first|apply Kd.N_alloc|apply Kd.N_drewN|apply Kd.N_drew));exact aE.out) hg hat)
              have n1_:=zzA (aU (g:=bO) (o:=.cells #[.slice (some ad270) ai.length ap,.slice au ah.length am] 25 (0,0)) (by (with_reducible repeat (first|refine aa ?_ _|refine ac ?_|refine a9 ?_ _));exact aZ.out) hg (Kd.R_ne fA.out aZ.out (by decide)))
              have n2_:=zzA (aU (g:=bY) (o:=.cells #[.int .i64 0,.slice none 0 0] 39 (0,0)) (by (with_reducible repeat (first|refine aa ?_ _|refine ac ?_|refine a9 ?_ _));exact bG.out) hg (Kd.R_ne fA.out bG.out (by decide)))
              have n3_:=zzA (aU (g:=ce) (o:=.cells #[.int .i64 (-1),.slice Ao29 x270001_1.length gD] 39 (0,0)) (by (with_reducible repeat (first|refine aa ?_ _|refine ac ?_|refine a9 ?_ _));exact br.out) hg (Kd.R_ne fA.out br.out (by decide)))
              have n4_:=zzA (hb)
              have n5_:=zzA (ho)
              clear aE
              clear aZ
              clear bG
              clear br
              clear HB
              clear fA
              have aE:=n0_
              have aZ:=n1_
              have bG:=n2_
              have br:=n3_
              have HB:=n4_
              have im:=n5_
              clear n0_ n1_ n2_ n3_ n4_ n5_
              clear ho hb hg hat
              refine hK.out _ _ ⟨(a8 br.out 0).trans rfl,(a8 br.out 1).trans rfl,(a8 aZ.out 0).trans rfl,(a8 aZ.out 1).trans rfl,((HB.out.cell (zzE w _ cB)).trans cB)⟩ (fun hHeld=>?_)
              clear hK K
              refine bx (a':=?_) ?_ ?_
              rotate_left
              ·show Act.put _ (some 34) _=_
               simp only [Act.put,zzB,zzC,zzD,av,aw]
               rfl
              refine ep (i:=10) (N:=some 39) #[true,true,true,true,true,true,true,true,true,true,true,false,false,false,false,false,false] rfl rfl (bE HT_.out (by kernel_rfl)) (by decide) (fun K hK=>?_)
              refine Kd.R_lit_step (Kd.int .i64) _ 3 ?hg (N:=39) ?hd (xs:=([rd (ao ai (l1.length:Int)) x8_1]:List Int)) (inner:=[.int .i64 (rd (ao ai (l1.length:Int)) x8_1)]) (ok:=fun _=>True) (okp:=fun _=>True) ?hr ?hp (fun _ hk=>hk) trivial (Below.refl _ _) (Nat.le_refl _) (by simp) ?_;(case hd=>rfl);(case hg=>rfl);(case hr=>first|(go_simp;done)|(go_simp;rfl));(case hp=>exact (Reps.one (show Kd.M (Kd.int .i64) _ _ _ (rd (ao ai (l1.length:Int)) x8_1) [.int .i64 (rd (ao ai (l1.length:Int)) x8_1)] from rfl) (Reps.none _ _)))
              intro v279 w34 ho35 hb hg_ hnew_
              clear hg_ hnew_
              (first|rw [← Ny278.out] at ho35|(simp only [Int.reduceToNat] at ho35;rw [← Ny278.out] at ho35))
              have n0_:=zzA (Kd.N_elder' (by (with_reducible repeat (first|apply Kd.N_alloc|apply Kd.N_drewN|apply Kd.N_drew));exact aE.out) (Kd.R_base ho35) hb)
              have n1_:=zzA (Kd.R_elder' (by (with_reducible repeat (first|apply Kd.R_alloc|apply Kd.R_drewN|apply Kd.R_drew));exact im.out) (Kd.R_base ho35) hb)
              have n2_:=zzA (Kd.R_lower (Kd.R_new' (Kd.R_newM (M:=fun k_=>(w.heap.size≤k_)) ho35 (ae (by repeat (first|(with_reducible first|exact HB.out|apply a6|apply a4|apply a5|refine a7 ?_ cn.out|refine a7 ?_ cD.out|refine a7 ?_ cR.out)|exact HB.out))) (fun k_ h_=>h_)) (Kd.R_lt (by (with_reducible repeat (first|apply Kd.R_alloc|apply Kd.R_drewN|apply Kd.R_drew));exact im.out))) (ae (by repeat (first|(with_reducible first|exact HB.out|apply a6|apply a4|apply a5|refine a7 ?_ cn.out|refine a7 ?_ cD.out|refine a7 ?_ cR.out)|exact HB.out))))
              have n3_:=zzA (af (g:=bO) (o:=.cells #[.slice (some ad270) ai.length ap,.slice au ah.length am] 25 (0,0)) (by (with_reducible repeat (first|refine aa ?_ _|refine ac ?_|refine a9 ?_ _));exact aZ.out) hb)
              have n4_:=zzA (af (g:=bY) (o:=.cells #[.int .i64 0,.slice none 0 0] 39 (0,0)) (by (with_reducible repeat (first|refine aa ?_ _|refine ac ?_|refine a9 ?_ _));exact bG.out) hb)
              have n5_:=zzA (af (g:=ce) (o:=.cells #[.int .i64 (-1),.slice Ao29 x270001_1.length gD] 39 (0,0)) (by (with_reducible repeat (first|refine aa ?_ _|refine ac ?_|refine a9 ?_ _));exact br.out) hb)
              have n6_:=zzA (ag (by repeat (first|(with_reducible first|exact HB.out|apply a6|apply a4|apply a5|refine a7 ?_ cn.out|refine a7 ?_ cD.out|refine a7 ?_ cR.out)|exact HB.out)) hb)
              clear aE
              clear im
              clear aZ
              clear bG
              clear br
              clear HB
              have aE:=n0_
              have im:=n1_
              have cX:=n2_
              have aZ:=n3_
              have bG:=n4_
              have br:=n5_
              have HB:=n6_
              clear n0_ n1_ n2_ n3_ n4_ n5_ n6_
              clear hb ho35
              refine hK.out _ _ ⟨(a8 br.out 0).trans rfl,(a8 br.out 1).trans rfl,(a8 aZ.out 0).trans rfl,(a8 aZ.out 1).trans rfl,((HB.out.cell (zzE w _ cB)).trans cB)⟩ (fun hHeld=>?_)
              clear hK K
              refine bx (a':=?_) ?_ ?_
              rotate_left
              ·show Act.put _ (some 39) _=_
               simp only [Act.put,zzB,zzC,zzD,av,aw]
               rfl
              exact bx (by simp only [cZ,Act.put,zzB,zzC,zzD]) (hCont (v272,v275,v279) _ ⟨hHeld,(by (with_reducible repeat (first|apply Kd.R_alloc|apply Kd.R_drewN|apply Kd.R_drew));exact im.out),(by (with_reducible repeat (first|apply Kd.R_alloc|apply Kd.R_drewN|apply Kd.R_drew));exact Kd.R_mono cX.out (fun _ hk=>⟨hk.1.1,hk.2⟩)),(by (with_reducible repeat (first|apply Kd.N_alloc|apply Kd.N_drewN|apply Kd.N_drew));exact Kd.N_mono aE.out (fun _ hk=>⟨hk.1.1.1,⟨hk.1.2,⟨hk.2,⟨hk.1.1.2.1,⟨hk.1.1.2.2.1,hk.1.1.2.2.2⟩⟩⟩⟩⟩)),(by (with_reducible repeat (first|refine aa ?_ _|refine ac ?_|refine a9 ?_ _));exact aZ.out),(by (with_reducible repeat (first|refine aa ?_ _|refine ac ?_|refine a9 ?_ _));exact bG.out),(by (with_reducible repeat (first|refine aa ?_ _|refine ac ?_|refine a9 ?_ _));exact br.out),(by repeat (first|(with_reducible first|exact HB.out|apply a6|apply a4|apply a5|refine a7 ?_ cn.out|refine a7 ?_ cD.out|refine a7 ?_ cR.out)|exact HB.out))⟩)
             ·skip
              refine Kd.R_lit_step (Kd.int .i64) _ 3 ?hg (N:=39) ?hd (xs:=([rd (ao ai (l1.length:Int)) x8_1]:List Int)) (inner:=[.int .i64 (rd (ao ai (l1.length:Int)) x8_1)]) (ok:=fun _=>True) (okp:=fun _=>True) ?hr ?hp (fun _ hk=>hk) trivial (Below.refl _ _) (Nat.le_refl _) (by simp) ?_;(case hd=>rfl);(case hg=>rfl);(case hr=>first|(go_simp;done)|(go_simp;rfl));(case hp=>exact (Reps.one (show Kd.M (Kd.int .i64) _ _ _ (rd (ao ai (l1.length:Int)) x8_1) [.int .i64 (rd (ao ai (l1.length:Int)) x8_1)] from rfl) (Reps.none _ _)))
              intro v279 w33 ho34 hb hg_ hnew_
              clear hg_ hnew_
              (first|rw [← Ny278.out] at ho34|(simp only [Int.reduceToNat] at ho34;rw [← Ny278.out] at ho34))
              have n0_:=zzA (Kd.N_elder' (by (with_reducible repeat (first|apply Kd.N_alloc|apply Kd.N_drewN|apply Kd.N_drew));exact aE.out) (Kd.R_base ho34) hb)
              have n1_:=zzA (Kd.R_elder' (by (with_reducible repeat (first|apply Kd.R_alloc|apply Kd.R_drewN|apply Kd.R_drew));exact fA.out) (Kd.R_base ho34) hb)
              have n2_:=zzA (Kd.R_lower (Kd.R_new' (Kd.R_newM (M:=fun k_=>(w.heap.size≤k_)) ho34 (ae (by repeat (first|(with_reducible first|exact HB.out|apply a6|apply a4|apply a5|refine a7 ?_ cn.out|refine a7 ?_ cD.out|refine a7 ?_ cR.out)|exact HB.out))) (fun k_ h_=>h_)) (Kd.R_lt (by (with_reducible repeat (first|apply Kd.R_alloc|apply Kd.R_drewN|apply Kd.R_drew));exact fA.out))) (ae (by repeat (first|(with_reducible first|exact HB.out|apply a6|apply a4|apply a5|refine a7 ?_ cn.out|refine a7 ?_ cD.out|refine a7 ?_ cR.out)|exact HB.out))))
              have n3_:=zzA (af (g:=bO) (o:=.cells #[.slice (some ad270) ai.length ap,.slice au ah.length am] 25 (0,0)) (by (with_reducible repeat (first|refine aa ?_ _|refine ac ?_|refine a9 ?_ _));exact aZ.out) hb)
              have n4_:=zzA (af (g:=bY) (o:=.cells #[.int .i64 0,.slice none 0 0] 39 (0,0)) (by (with_reducible repeat (first|refine aa ?_ _|refine ac ?_|refine a9 ?_ _));exact bG.out) hb)
              have n5_:=zzA (af (g:=ce) (o:=.cells #[.int .i64 (-1),.slice Ao29 x270001_1.length gD] 39 (0,0)) (by (with_reducible repeat (first|refine aa ?_ _|refine ac ?_|refine a9 ?_ _));exact br.out) hb)
              have n6_:=zzA (ag (by repeat (first|(with_reducible first|exact HB.out|apply a6|apply a4|apply a5|refine a7 ?_ cn.out|refine a7 ?_ cD.out|refine a7 ?_ cR.out)|exact HB.out)) hb)
              clear aE
              clear fA
              clear aZ
              clear bG
              clear br
              clear HB
              have aE:=n0_
              have fA:=n1_
              have cX:=n2_
              have aZ:=n3_
              have bG:=n4_
              have br:=n5_
              have HB:=n6_
              clear n0_ n1_ n2_ n3_ n4_ n5_ n6_
              clear hb ho34
              refine hK.out _ _ ⟨(a8 br.out 0).trans rfl,(a8 br.out 1).trans rfl,(a8 aZ.out 0).trans rfl,(a8 aZ.out 1).trans rfl,((HB.out.cell (zzE w _ cB)).trans cB)⟩ (fun hHeld=>?_)
              clear hK K
              refine bx (a':=?_) ?_ ?_
              rotate_left
              ·show Act.put _ (some 39) _=_
               simp only [Act.put,zzB,zzC,zzD,av,aw]
               rfl
              refine ep (i:=5) (N:=some 34) #[true,true,true,true,true,true,true,true,true,true,true,false,false,false,false,false,false] rfl rfl (bE HT_.out (by kernel_rfl)) (by decide) (fun K hK=>?_)
              refine Kd.R_append_rows_step (Kd.int .i64) (w0:=w) w.heap.size (by rfl) (.tmp 32) (.tmp 33) 26 3 (.int .i64 0) 8 rfl Try.underlying26 fa rfl (by decide) (by omega) v272 y271 l1 _ _ _ (fun k_=>(w.heap.size≤k_)∧some k_ ≠ (v279:Value).ownBlock) (fun _=>False) rfl rfl ?aO ?aR (fun _ _ h=>h) (fun _ h=>h.elim) ?aF ?aB ?aS ?aL ?_
              (case aR=>repeat (first|exact (zzI HR1.out HB.out)|(with_reducible refine Kd.C_alloc ?_ _)|(with_reducible refine Kd.C_drewN ?_ _)|(with_reducible refine Kd.C_drew ?_)))
              (case aB=>exact (by repeat (first|(with_reducible first|exact HB.out|apply a6|apply a4|apply a5|refine a7 ?_ cn.out|refine a7 ?_ cD.out|refine a7 ?_ cR.out)|exact HB.out)))
              (case aF=>exact (fun k_ hk=>⟨(Nat.le_trans (ae (by repeat (first|(with_reducible first|exact HB.out|apply a6|apply a4|apply a5|refine a7 ?_ cn.out|refine a7 ?_ cD.out|refine a7 ?_ cR.out)|exact HB.out))) hk),Kd.fresh' (Kd.R_lt (by (with_reducible repeat (first|apply Kd.R_alloc|apply Kd.R_drewN|apply Kd.R_drew));exact cX.out)) k_ hk⟩))
              (case aO=>exact (by (with_reducible repeat (first|apply Kd.R_alloc|apply Kd.R_drewN|apply Kd.R_drew));exact Kd.R_mono fA.out (fun _ hk=>⟨hk.1.1,hk.2⟩)))
              (case aS=>exact (ae (by repeat (first|(with_reducible first|exact HB.out|apply a6|apply a4|apply a5|refine a7 ?_ cn.out|refine a7 ?_ cD.out|refine a7 ?_ cR.out)|exact HB.out))))
              (case aL=>have:=LMc24.out;omega)
              intro v275 w35 ho hb hg hat
              rw [← Ny274.out] at ho
              have n0_:=zzA (Kd.N_afterv (ok:=(fun k_=>(w.heap.size≤k_)∧some k_ ≠ (v279:Value).ownBlock∧k_ ≠ bO∧k_ ≠ bY∧k_ ≠ ce)) (by (with_reducible repeat (first|apply Kd.N_alloc|apply Kd.N_drewN|apply Kd.N_drew));exact Kd.N_mono aE.out (fun _ hk=>⟨⟨hk.1.1.1,⟨hk.2,⟨hk.1.1.2.1,⟨hk.1.1.2.2.1,hk.1.1.2.2.2⟩⟩⟩⟩,hk.1.2⟩)) hg hat)
              have n1_:=zzA (aU (g:=bO) (o:=.cells #[.slice (some ad270) ai.length ap,.slice au ah.length am] 25 (0,0)) (by (with_reducible repeat (first|refine aa ?_ _|refine ac ?_|refine a9 ?_ _));exact aZ.out) hg (Kd.R_ne fA.out aZ.out (by decide)))
              have n2_:=zzA (aU (g:=bY) (o:=.cells #[.int .i64 0,.slice none 0 0] 39 (0,0)) (by (with_reducible repeat (first|refine aa ?_ _|refine ac ?_|refine a9 ?_ _));exact bG.out) hg (Kd.R_ne fA.out bG.out (by decide)))
              have n3_:=zzA (aU (g:=ce) (o:=.cells #[.int .i64 (-1),.slice Ao29 x270001_1.length gD] 39 (0,0)) (by (with_reducible repeat (first|refine aa ?_ _|refine ac ?_|refine a9 ?_ _));exact br.out) hg (Kd.R_ne fA.out br.out (by decide)))
              have n4_:=zzA (Kd.R_after (ok:=(fun k_=>(w.heap.size≤k_))) (by (with_reducible repeat (first|apply Kd.R_alloc|apply Kd.R_drewN|apply Kd.R_drew));exact Kd.R_mono cX.out (fun _ hk=>⟨hk.1.1,hk.2⟩)) hg hat)
              have n5_:=zzA (hb)
              have n6_:=zzA (ho)
              clear aE
              clear aZ
              clear bG
              clear br
              clear cX
              clear HB
              clear fA
              have aE:=n0_
              have aZ:=n1_
              have bG:=n2_
              have br:=n3_
              have cX:=n4_
              have HB:=n5_
              have im:=n6_
              clear n0_ n1_ n2_ n3_ n4_ n5_ n6_
              clear ho hb hg hat
              refine hK.out _ _ ⟨(a8 br.out 0).trans rfl,(a8 br.out 1).trans rfl,(a8 aZ.out 0).trans rfl,(a8 aZ.out 1).trans rfl,((HB.out.cell (zzE w _ cB)).trans cB)⟩ (fun hHeld=>?_)
              clear hK K
              refine bx (a':=?_) ?_ ?_
              rotate_left
              ·show Act.put _ (some 34) _=_
               simp only [Act.put,zzB,zzC,zzD,av,aw]
               rfl
              exact bx (by simp only [cZ,Act.put,zzB,zzC,zzD]) (hCont (v272,v275,v279) _ ⟨hHeld,(by (with_reducible repeat (first|apply Kd.R_alloc|apply Kd.R_drewN|apply Kd.R_drew));exact im.out),(by (with_reducible repeat (first|apply Kd.R_alloc|apply Kd.R_drewN|apply Kd.R_drew));exact cX.out),(by (with_reducible repeat (first|apply Kd.N_alloc|apply Kd.N_drewN|apply Kd.N_drew));exact Kd.N_mono aE.out (fun _ hk=>⟨hk.1.1,⟨hk.2,⟨hk.1.2.1,⟨hk.1.2.2.1,⟨hk.1.2.2.2.1,hk.1.2.2.2.2⟩⟩⟩⟩⟩)),(by (with_reducible repeat (first|refine aa ?_ _|refine ac ?_|refine a9 ?_ _));exact aZ.out),(by (with_reducible repeat (first|refine aa ?_ _|refine ac ?_|refine a9 ?_ _));exact bG.out),(by (with_reducible repeat (first|refine aa ?_ _|refine ac ?_|refine a9 ?_ _));exact br.out),(by repeat (first|(with_reducible first|exact HB.out|apply a6|apply a4|apply a5|refine a7 ?_ cn.out|refine a7 ?_ cD.out|refine a7 ?_ cR.out)|exact HB.out))⟩)
            ·skip
             refine Kd.R_lit_step (Kd.int .i64) _ 3 ?hg (N:=39) ?hd (xs:=([rd (ao ai (l1.length:Int)) x8_1]:List Int)) (inner:=[.int .i64 (rd (ao ai (l1.length:Int)) x8_1)]) (ok:=fun _=>True) (okp:=fun _=>True) ?hr ?hp (fun _ hk=>hk) trivial (Below.refl _ _) (Nat.le_refl _) (by simp) ?_;(case hd=>rfl);(case hg=>rfl);(case hr=>first|(go_simp;done)|(go_simp;rfl));(case hp=>exact (Reps.one (show Kd.M (Kd.int .i64) _ _ _ (rd (ao ai (l1.length:Int)) x8_1) [.int .i64 (rd (ao ai (l1.length:Int)) x8_1)] from rfl) (Reps.none _ _)))
             intro v279 w31 ho32 hb hg_ hnew_
             clear hg_ hnew_
             (first|rw [← Ny278.out] at ho32|(simp only [Int.reduceToNat] at ho32;rw [← Ny278.out] at ho32))
             have n0_:=zzA (Kd.N_elder' (by (with_reducible repeat (first|apply Kd.N_alloc|apply Kd.N_drewN|apply Kd.N_drew));exact aE.out) (Kd.R_base ho32) hb)
             have n1_:=zzA (Kd.R_lower (Kd.R_newM (M:=fun k_=>(w.heap.size≤k_)) ho32 (ae (by repeat (first|(with_reducible first|exact HB.out|apply a6|apply a4|apply a5|refine a7 ?_ cn.out|refine a7 ?_ cD.out|refine a7 ?_ cR.out)|exact HB.out))) (fun k_ h_=>h_)) (ae (by repeat (first|(with_reducible first|exact HB.out|apply a6|apply a4|apply a5|refine a7 ?_ cn.out|refine a7 ?_ cD.out|refine a7 ?_ cR.out)|exact HB.out))))
             have n2_:=zzA (af (g:=bO) (o:=.cells #[.slice (some ad270) ai.length ap,.slice au ah.length am] 25 (0,0)) (by (with_reducible repeat (first|refine aa ?_ _|refine ac ?_|refine a9 ?_ _));exact aZ.out) hb)
             have n3_:=zzA (af (g:=bY) (o:=.cells #[.int .i64 0,.slice none 0 0] 39 (0,0)) (by (with_reducible repeat (first|refine aa ?_ _|refine ac ?_|refine a9 ?_ _));exact bG.out) hb)
             have n4_:=zzA (af (g:=ce) (o:=.cells #[.int .i64 (-1),.slice Ao29 x270001_1.length gD] 39 (0,0)) (by (with_reducible repeat (first|refine aa ?_ _|refine ac ?_|refine a9 ?_ _));exact br.out) hb)
             have n5_:=zzA (ag (by repeat (first|(with_reducible first|exact HB.out|apply a6|apply a4|apply a5|refine a7 ?_ cn.out|refine a7 ?_ cD.out|refine a7 ?_ cR.out)|exact HB.out)) hb)
             clear aE
             clear aZ
             clear bG
             clear br
             clear HB
             have aE:=n0_
             have cX:=n1_
             have aZ:=n2_
             have bG:=n3_
             have br:=n4_
             have HB:=n5_
             clear n0_ n1_ n2_ n3_ n4_ n5_
             clear hb ho32
             refine hK.out _ _ ⟨(a8 br.out 0).trans rfl,(a8 br.out 1).trans rfl,(a8 aZ.out 0).trans rfl,(a8 aZ.out 1).trans rfl,((HB.out.cell (zzE w _ cB)).trans cB)⟩ (fun hHeld=>?_)
             clear hK K
             refine bx (a':=?_) ?_ ?_
             rotate_left
             ·show Act.put _ (some 39) _=_
              simp only [Act.put,zzB,zzC,zzD,av,aw]
              rfl
             refine ep (i:=3) (N:=some 32) #[true,true,true,true,true,false,true,true,true,true,true,false,false,false,false,false,false] rfl rfl (bE HT_.out (by kernel_rfl)) (by decide) (fun K hK=>?_)
             refine Kd.R_lit_step (Kd.int .i64) _ 3 ?hg (N:=32) ?hd (xs:=([]:List Int)) (inner:=[]) (ok:=fun _=>True) (okp:=fun _=>True) ?hr ?hp (fun _ hk=>hk) trivial (Below.refl _ _) (Nat.le_refl _) (by simp) ?_;(case hd=>rfl);(case hg=>rfl);(case hr=>first|(go_simp;done)|(go_simp;rfl));(case hp=>exact (Reps.none _ _))
             intro v272 w33 ho34 hb hg_ hnew_
             clear hg_ hnew_
             (first|rw [← Ny271.out] at ho34|(simp only [Int.reduceToNat] at ho34;rw [← Ny271.out] at ho34))
             have n0_:=zzA (Kd.N_elder' (by (with_reducible repeat (first|apply Kd.N_alloc|apply Kd.N_drewN|apply Kd.N_drew));exact aE.out) (Kd.R_base ho34) hb)
             have n1_:=zzA (Kd.R_elder' (by (with_reducible repeat (first|apply Kd.R_alloc|apply Kd.R_drewN|apply Kd.R_drew));exact cX.out) (Kd.R_base ho34) hb)
             have n2_:=zzA (Kd.R_lower (Kd.R_new' (Kd.R_newM (M:=fun k_=>(w.heap.size≤k_)) ho34 (ae (by repeat (first|(with_reducible first|exact HB.out|apply a6|apply a4|apply a5|refine a7 ?_ cn.out|refine a7 ?_ cD.out|refine a7 ?_ cR.out)|exact HB.out))) (fun k_ h_=>h_)) (Kd.R_lt (by (with_reducible repeat (first|apply Kd.R_alloc|apply Kd.R_drewN|apply Kd.R_drew));exact cX.out))) (ae (by repeat (first|(with_reducible first|exact HB.out|apply a6|apply a4|apply a5|refine a7 ?_ cn.out|refine a7 ?_ cD.out|refine a7 ?_ cR.out)|exact HB.out))))
             have n3_:=zzA (af (g:=bO) (o:=.cells #[.slice (some ad270) ai.length ap,.slice au ah.length am] 25 (0,0)) (by (with_reducible repeat (first|refine aa ?_ _|refine ac ?_|refine a9 ?_ _));exact aZ.out) hb)
             have n4_:=zzA (af (g:=bY) (o:=.cells #[.int .i64 0,.slice none 0 0] 39 (0,0)) (by (with_reducible repeat (first|refine aa ?_ _|refine ac ?_|refine a9 ?_ _));exact bG.out) hb)
             have n5_:=zzA (af (g:=ce) (o:=.cells #[.int .i64 (-1),.slice Ao29 x270001_1.length gD] 39 (0,0)) (by (with_reducible repeat (first|refine aa ?_ _|refine ac ?_|refine a9 ?_ _));exact br.out) hb)
             have n6_:=zzA (ag (by repeat (first|(with_reducible first|exact HB.out|apply a6|apply a4|apply a5|refine a7 ?_ cn.out|refine a7 ?_ cD.out|refine a7 ?_ cR.out)|exact HB.out)) hb)
             clear aE
             clear cX
             clear aZ
             clear bG
             clear br
             clear HB
             have aE:=n0_
             have cX:=n1_
             have fA:=n2_
             have aZ:=n3_
             have bG:=n4_
             have br:=n5_
             have HB:=n6_
             clear n0_ n1_ n2_ n3_ n4_ n5_ n6_
             clear hb ho34
             refine hK.out _ _ ⟨(a8 br.out 0).trans rfl,(a8 br.out 1).trans rfl,(a8 aZ.out 0).trans rfl,(a8 aZ.out 1).trans rfl,((HB.out.cell (zzE w _ cB)).trans cB)⟩ (fun hHeld=>?_)
             clear hK K
             refine bx (a':=?_) ?_ ?_
             rotate_left
             ·show Act.put _ (some 32) _=_
              simp only [Act.put,zzB,zzC,zzD,av,aw]
              rfl
             refine ep (i:=5) (N:=some 34) #[true,true,true,true,true,true,true,true,true,true,true,false,false,false,false,false,false] rfl rfl (bE HT_.out (by kernel_rfl)) (by decide) (fun K hK=>?_)
             refine Kd.R_append_rows_step (Kd.int .i64) (w0:=w) w.heap.size (by rfl) (.tmp 32) (.tmp 33) 26 3 (.int .i64 0) 8 rfl Try.underlying26 fa rfl (by decide) (by omega) v272 y271 l1 _ _ _ (fun k_=>(w.heap.size≤k_)∧some k_ ≠ (v279:Value).ownBlock) (fun _=>False) rfl rfl ?aO ?aR (fun _ _ h=>h) (fun _ h=>h.elim) ?aF ?aB ?aS ?aL ?_
             (case aR=>repeat (first|exact (zzI HR1.out HB.out)|(with_reducible refine Kd.C_alloc ?_ _)|(with_reducible refine Kd.C_drewN ?_ _)|(with_reducible refine Kd.C_drew ?_)))
             (case aB=>exact (by repeat (first|(with_reducible first|exact HB.out|apply a6|apply a4|apply a5|refine a7 ?_ cn.out|refine a7 ?_ cD.out|refine a7 ?_ cR.out)|exact HB.out)))
             (case aF=>exact (fun k_ hk=>⟨(Nat.le_trans (ae (by repeat (first|(with_reducible first|exact HB.out|apply a6|apply a4|apply a5|refine a7 ?_ cn.out|refine a7 ?_ cD.out|refine a7 ?_ cR.out)|exact HB.out))) hk),Kd.fresh' (Kd.R_lt (by (with_reducible repeat (first|apply Kd.R_alloc|apply Kd.R_drewN|apply Kd.R_drew));exact cX.out)) k_ hk⟩))
             (case aO=>exact (by (with_reducible repeat (first|apply Kd.R_alloc|apply Kd.R_drewN|apply Kd.R_drew));exact Kd.R_mono fA.out (fun _ hk=>⟨hk.1.1,hk.2⟩)))
             (case aS=>exact (ae (by repeat (first|(with_reducible first|exact HB.out|apply a6|apply a4|apply a5|refine a7 ?_ cn.out|refine a7 ?_ cD.out|refine a7 ?_ cR.out)|exact HB.out))))
             (case aL=>have:=LMc24.out;omega)
             intro v275 w35 ho hb hg hat
             rw [← Ny274.out] at ho
             have n0_:=zzA (Kd.N_afterv (ok:=(fun k_=>(w.heap.size≤k_)∧some k_ ≠ (v279:Value).ownBlock∧k_ ≠ bO∧k_ ≠ bY∧k_ ≠ ce)) (by (with_reducible repeat (first|apply Kd.N_alloc|apply Kd.N_drewN|apply Kd.N_drew));exact Kd.N_mono aE.out (fun _ hk=>⟨⟨hk.1.1.1,⟨hk.1.2,⟨hk.1.1.2.1,⟨hk.1.1.2.2.1,hk.1.1.2.2.2⟩⟩⟩⟩,hk.2⟩)) hg hat)
             have n1_:=zzA (aU (g:=bO) (o:=.cells #[.slice (some ad270) ai.length ap,.slice au ah.length am] 25 (0,0)) (by (with_reducible repeat (first|refine aa ?_ _|refine ac ?_|refine a9 ?_ _));exact aZ.out) hg (Kd.R_ne fA.out aZ.out (by decide)))
             have n2_:=zzA (aU (g:=bY) (o:=.cells #[.int .i64 0,.slice none 0 0] 39 (0,0)) (by (with_reducible repeat (first|refine aa ?_ _|refine ac ?_|refine a9 ?_ _));exact bG.out) hg (Kd.R_ne fA.out bG.out (by decide)))
             have n3_:=zzA (aU (g:=ce) (o:=.cells #[.int .i64 (-1),.slice Ao29 x270001_1.length gD] 39 (0,0)) (by (with_reducible repeat (first|refine aa ?_ _|refine ac ?_|refine a9 ?_ _));exact br.out) hg (Kd.R_ne fA.out br.out (by decide)))
             have n4_:=zzA (Kd.R_after (ok:=(fun k_=>(w.heap.size≤k_))) (by (with_reducible repeat (first|apply Kd.R_alloc|apply Kd.R_drewN|apply Kd.R_drew));exact Kd.R_mono cX.out (fun _ hk=>⟨hk.1.1,hk.2⟩)) hg hat)
             have n5_:=zzA (hb)
             have n6_:=zzA (ho)
             clear aE
             clear aZ
             clear bG
             clear br
             clear cX
             clear HB
             clear fA
             have aE:=n0_
             have aZ:=n1_
             have bG:=n2_
             have br:=n3_
             have cX:=n4_
             have HB:=n5_
             have im:=n6_
             clear n0_ n1_ n2_ n3_ n4_ n5_ n6_
             clear ho hb hg hat
             refine hK.out _ _ ⟨(a8 br.out 0).trans rfl,(a8 br.out 1).trans rfl,(a8 aZ.out 0).trans rfl,(a8 aZ.out 1).trans rfl,((HB.out.cell (zzE w _ cB)).trans cB)⟩ (fun hHeld=>?_)
             clear hK K
             refine bx (a':=?_) ?_ ?_
             rotate_left
             ·show Act.put _ (some 34) _=_
              simp only [Act.put,zzB,zzC,zzD,av,aw]
              rfl
             exact bx (by simp only [cZ,Act.put,zzB,zzC,zzD]) (hCont (v272,v275,v279) _ ⟨hHeld,(by (with_reducible repeat (first|apply Kd.R_alloc|apply Kd.R_drewN|apply Kd.R_drew));exact im.out),(by (with_reducible repeat (first|apply Kd.R_alloc|apply Kd.R_drewN|apply Kd.R_drew));exact cX.out),(by (with_reducible repeat (first|apply Kd.N_alloc|apply Kd.N_drewN|apply Kd.N_drew));exact Kd.N_mono aE.out (fun _ hk=>⟨hk.1.1,⟨hk.2,⟨hk.1.2.1,⟨hk.1.2.2.1,⟨hk.1.2.2.2.1,hk.1.2.2.2.2⟩⟩⟩⟩⟩)),(by (with_reducible repeat (first|refine aa ?_ _|refine ac ?_|refine a9 ?_ _));exact aZ.out),(by (with_reducible repeat (first|refine aa ?_ _|refine ac ?_|refine a9 ?_ _));exact bG.out),(by (with_reducible repeat (first|refine aa ?_ _|refine ac ?_|refine a9 ?_ _));exact br.out),(by repeat (first|(with_reducible first|exact HB.out|apply a6|apply a4|apply a5|refine a7 ?_ cn.out|refine a7 ?_ cD.out|refine a7 ?_ cR.out)|exact HB.out))⟩)
           rintro ⟨v272,v275,v279⟩ w36 ⟨hS_,h0_,h1_,h2_,h3_,h4_,h5_,h6_⟩
           have n0_:Aside0 (Kd.R (Kd.int .i64) 3 w36 w.heap.size (fun k_=>(w.heap.size≤k_)∧some k_ ≠ (v279:Value).ownBlock) v275 y274):=⟨h0_⟩
           have n1_:Aside0 (Kd.R (Kd.int .i64) 3 w36 w.heap.size (fun k_=>(w.heap.size≤k_)∧some k_ ≠ (v275:Value).ownBlock) v279 y278):=⟨h1_⟩
           have n2_:Aside0 (Kd.N k39 39 w36 w.heap.size (fun k_=>(w.heap.size≤k_)∧some k_ ≠ (v275:Value).ownBlock∧some k_ ≠ (v279:Value).ownBlock∧k_ ≠ bO∧k_ ≠ bY∧k_ ≠ ce) (.slice Ao29 x270001_1.length gD) x270001_1):=⟨h2_⟩
           have n3_:Aside0 (w36.heap[bO]?=some (.cells #[.slice (some ad270) ai.length ap,.slice au ah.length am] 25 (0,0))):=⟨h3_⟩
           have n4_:Aside0 (w36.heap[bY]?=some (.cells #[.int .i64 0,.slice none 0 0] 39 (0,0))):=⟨h4_⟩
           have n5_:Aside0 (w36.heap[ce]?=some (.cells #[.int .i64 (-1),.slice Ao29 x270001_1.length gD] 39 (0,0))):=⟨h5_⟩
           have n6_:Aside0 (Below w.heap.size w w36):=⟨h6_⟩
           clear aE
           clear aZ
           clear bG
           clear br
           clear HB
           clear h0_ h1_ h2_ h3_ h4_ h5_ h6_
           have im:=n0_
           have cX:=n1_
           have aE:=n2_
           have aZ:=n3_
           have bG:=n4_
           have br:=n5_
           have HB:=n6_
           clear n0_ n1_ n2_ n3_ n4_ n5_ n6_
           have hHeld:w36.cell? ⟨ce,0,none⟩=some (.int .i64 (-1))∧w36.cell? ⟨ce,1,none⟩=some (.slice Ao29 x270001_1.length gD)∧w36.cell? ⟨bO,0,none⟩=some (.slice (some ad270) ai.length ap)∧w36.cell? ⟨bO,1,none⟩=some (.slice au ah.length am)∧w36.cell? (ad277.add (x8_1).toNat)=some (.int .i64 (rd (ao ai (l1.length:Int)) x8_1)):=hS_
           obtain ⟨Ao38,co38,eo38⟩:=Kd.R_slice cX.out
           (first|subst eo38|(injection eo38 with f1_ f2_ f3_;have f4_:=f1_.symm;have f5_:=f3_.symm;clear f1_ f2_ f3_;subst f4_;subst f5_))
           refine bx (a':=?_) ?_ ?_
           rotate_left
           ·simp only [cZ,Act.put,zzB,zzC,zzD]
            rfl
           refine ep (i:=11) (N:=some 40) #[true,true,true,true,true,true,true,true,true,true,true,true,false,false,false,false,false] rfl rfl (bE HT_.out (by kernel_rfl)) (by decide) (fun K hK=>?_)
           refine Kd.R_append_rows_step (Kd.int .i64) (w0:=w) w.heap.size (by rfl) (.tmp 34) (.tmp 39) 26 3 (.int .i64 0) 8 rfl Try.underlying26 fa rfl (by decide) (by omega) v275 y274 y278 _ _ _ (fun k_=>(w.heap.size≤k_)∧some k_ ≠ (.slice Ao38 y278.length co38:Value).ownBlock) (fun _=>False) rfl rfl ?aO ?aR (fun _ _ h=>h) (fun _ h=>h.elim) ?aF ?aB ?aS ?aL ?_
           (case aR=>repeat (first|exact (Kd.R_reads' cX.out).2.2|(with_reducible refine Kd.C_alloc ?_ _)|(with_reducible refine Kd.C_drewN ?_ _)|(with_reducible refine Kd.C_drew ?_)))
           (case aB=>exact (by repeat (first|(with_reducible first|exact HB.out|apply a6|apply a4|apply a5|refine a7 ?_ cn.out|refine a7 ?_ cD.out|refine a7 ?_ cR.out)|exact HB.out)))
           (case aF=>exact (fun k_ hk=>⟨(Nat.le_trans (ae (by repeat (first|(with_reducible first|exact HB.out|apply a6|apply a4|apply a5|refine a7 ?_ cn.out|refine a7 ?_ cD.out|refine a7 ?_ cR.out)|exact HB.out))) hk),Kd.fresh' (Kd.R_lt (by (with_reducible repeat (first|apply Kd.R_alloc|apply Kd.R_drewN|apply Kd.R_drew));exact cX.out)) k_ hk⟩))
           (case aO=>exact (by (with_reducible repeat (first|apply Kd.R_alloc|apply Kd.R_drewN|apply Kd.R_drew));exact im.out))
           (case aS=>exact (ae (by repeat (first|(with_reducible first|exact HB.out|apply a6|apply a4|apply a5|refine a7 ?_ cn.out|refine a7 ?_ cD.out|refine a7 ?_ cR.out)|exact HB.out))))
           (case aL=>have:=LMc26.out;omega)
           intro v282 w37 ho hb hg hat
           rw [← Ny281.out] at ho
           have n0_:=zzA (Kd.N_afterv (ok:=(fun k_=>(w.heap.size≤k_)∧some k_ ≠ (.slice Ao38 y278.length co38:Value).ownBlock∧k_ ≠ bO∧k_ ≠ bY∧k_ ≠ ce)) (by (with_reducible repeat (first|apply Kd.N_alloc|apply Kd.N_drewN|apply Kd.N_drew));exact Kd.N_mono aE.out (fun _ hk=>⟨⟨hk.1,⟨hk.2.2.1,⟨hk.2.2.2.1,⟨hk.2.2.2.2.1,hk.2.2.2.2.2⟩⟩⟩⟩,hk.2.1⟩)) hg hat)
           have n1_:=zzA (aU (g:=bO) (o:=.cells #[.slice (some ad270) ai.length ap,.slice au ah.length am] 25 (0,0)) (by (with_reducible repeat (first|refine aa ?_ _|refine ac ?_|refine a9 ?_ _));exact aZ.out) hg (Kd.R_ne im.out aZ.out (by decide)))
           have n2_:=zzA (aU (g:=bY) (o:=.cells #[.int .i64 0,.slice none 0 0] 39 (0,0)) (by (with_reducible repeat (first|refine aa ?_ _|refine ac ?_|refine a9 ?_ _));exact bG.out) hg (Kd.R_ne im.out bG.out (by decide)))
           have n3_:=zzA (aU (g:=ce) (o:=.cells #[.int .i64 (-1),.slice Ao29 x270001_1.length gD] 39 (0,0)) (by (with_reducible repeat (first|refine aa ?_ _|refine ac ?_|refine a9 ?_ _));exact br.out) hg (Kd.R_ne im.out br.out (by decide)))
           have n4_:=zzA (Kd.R_after (ok:=(fun k_=>(w.heap.size≤k_))) (by (with_reducible repeat (first|apply Kd.R_alloc|apply Kd.R_drewN|apply Kd.R_drew));exact cX.out) hg hat)
           have n5_:=zzA (hb)
           have n6_:=zzA (ho)
           clear aE
           clear aZ
           clear bG
           clear br
           clear cX
           clear HB
           clear im
           have aE:=n0_
           have aZ:=n1_
           have bG:=n2_
           have br:=n3_
           have cX:=n4_
           have HB:=n5_
           have io:=n6_
           clear n0_ n1_ n2_ n3_ n4_ n5_ n6_
           clear ho hb hg hat
           obtain ⟨Ao39,co39,eo39⟩:=Kd.R_slice io.out
           (first|subst eo39|(injection eo39 with f1_ f2_ f3_;have f4_:=f1_.symm;have f5_:=f3_.symm;clear f1_ f2_ f3_;subst f4_;subst f5_))
           refine hK.out _ _ ⟨(a8 br.out 0).trans rfl,(a8 br.out 1).trans rfl,(a8 aZ.out 0).trans rfl,(a8 aZ.out 1).trans rfl,((HB.out.cell (zzE w _ cB)).trans cB)⟩ (fun hHeld=>?_)
           clear hK K
           refine bx (a':=?_) ?_ ?_
           rotate_left
           ·show Act.put _ (some 40) _=_
            simp only [Act.put,zzB,zzC,zzD,av,aw]
            rfl
           refine ep (i:=12) (N:=some 41) #[true,true,true,true,true,true,true,true,true,true,true,true,true,false,false,false,false] rfl rfl (bE HT_.out (by kernel_rfl)) (by decide) (fun K hK=>?_)
           refine jH Try.func42 (by kernel_rfl) rfl #[.agg #[.slice (some ad270) ai.length ap,.slice au ah.length am],.slice Ao39 y281.length co39] (by rfl) rfl rfl (by (try simp only [List.map_toArray,List.map_cons,List.map_nil]);first|done|rfl|(simp only [List.length_drop,List.length_take];rfl)) ?_
           with_reducible refine (ih k1 (by have:=HK1.out;omega) _ _ ai _ _ ah _ _ y281 t284 t285 _ ?side1 ?side2 ?side3 ?side4 ?side5 ?side6 A27.out).mono ?_
           (case side1=>repeat (first|exact (zzI bz.out HB.out)|(with_reducible refine Kd.C_alloc ?_ _)|(with_reducible refine Kd.C_drewN ?_ _)|(with_reducible refine Kd.C_drew ?_)))
           (case side2=>exact bH.out)
           (case side3=>repeat (first|exact (zzI bq.out HB.out)|(with_reducible refine Kd.C_alloc ?_ _)|(with_reducible refine Kd.C_drewN ?_ _)|(with_reducible refine Kd.C_drew ?_)))
           (case side4=>exact bF.out)
           (case side5=>repeat (first|exact (Kd.R_reads' io.out).2.2|(with_reducible refine Kd.C_alloc ?_ _)|(with_reducible refine Kd.C_drewN ?_ _)|(with_reducible refine Kd.C_drew ?_)))
           (case side6=>exact (Kd.R_reads' io.out).2.1)
           rintro e w40 ⟨v286,rfl,ho0,hb⟩
           refine ⟨_,rfl,?_⟩
           have n0_:=zzA (Kd.N_elder' (by (with_reducible repeat (first|apply Kd.N_alloc|apply Kd.N_drewN|apply Kd.N_drew));exact aE.out) (Kd.N_base ho0) hb)
           have n1_:=zzA (Kd.R_below (by (with_reducible repeat (first|apply Kd.R_alloc|apply Kd.R_drewN|apply Kd.R_drew));exact cX.out) hb)
           have n2_:=zzA (Kd.R_below (by (with_reducible repeat (first|apply Kd.R_alloc|apply Kd.R_drewN|apply Kd.R_drew));exact io.out) hb)
           have n3_:=zzA (Kd.N_lower (Kd.N_mono (ok':=fun k_=>(w.heap.size≤k_)∧some k_ ≠ (.slice Ao29 x270001_1.length gD:Value).ownBlock∧some k_ ≠ (.slice Ao38 y278.length co38:Value).ownBlock∧some k_ ≠ (.slice Ao39 y281.length co39:Value).ownBlock∧k_ ≠ bO∧k_ ≠ bY∧k_ ≠ ce) ho0 (fun k_ hk_=>⟨(Nat.le_trans (ae (by repeat (first|(with_reducible first|exact HB.out|apply a6|apply a4|apply a5|refine a7 ?_ cn.out|refine a7 ?_ cD.out|refine a7 ?_ cR.out)|exact HB.out))) hk_),(Kd.fresh' (Kd.N_lt (by (with_reducible repeat (first|apply Kd.N_alloc|apply Kd.N_drewN|apply Kd.N_drew));exact aE.out)) k_ hk_),(Kd.fresh' (Kd.R_lt (by (with_reducible repeat (first|apply Kd.R_alloc|apply Kd.R_drewN|apply Kd.R_drew));exact cX.out)) k_ hk_),(Kd.fresh' (Kd.R_lt (by (with_reducible repeat (first|apply Kd.R_alloc|apply Kd.R_drewN|apply Kd.R_drew));exact io.out)) k_ hk_),(Kd.freshB (g:=bO) (o:=.cells #[.slice (some ad270) ai.length ap,.slice au ah.length am] 25 (0,0)) (by (with_reducible repeat (first|refine aa ?_ _|refine ac ?_|refine a9 ?_ _));exact aZ.out) k_ hk_),(Kd.freshB (g:=bY) (o:=.cells #[.int .i64 0,.slice none 0 0] 39 (0,0)) (by (with_reducible repeat (first|refine aa ?_ _|refine ac ?_|refine a9 ?_ _));exact bG.out) k_ hk_),(Kd.freshB (g:=ce) (o:=.cells #[.int .i64 (-1),.slice Ao29 x270001_1.length gD] 39 (0,0)) (by (with_reducible repeat (first|refine aa ?_ _|refine ac ?_|refine a9 ?_ _));exact br.out) k_ hk_)⟩)) (ae (by repeat (first|(with_reducible first|exact HB.out|apply a6|apply a4|apply a5|refine a7 ?_ cn.out|refine a7 ?_ cD.out|refine a7 ?_ cR.out)|exact HB.out))))
           have n4_:=zzA (af (g:=bO) (o:=.cells #[.slice (some ad270) ai.length ap,.slice au ah.length am] 25 (0,0)) (by (with_reducible repeat (first|refine aa ?_ _|refine ac ?_|refine a9 ?_ _));exact aZ.out) hb)
           have n5_:=zzA (af (g:=bY) (o:=.cells #[.int .i64 0,.slice none 0 0] 39 (0,0)) (by (with_reducible repeat (first|refine aa ?_ _|refine ac ?_|refine a9 ?_ _));exact bG.out) hb)
           have n6_:=zzA (af (g:=ce) (o:=.cells #[.int .i64 (-1),.slice Ao29 x270001_1.length gD] 39 (0,0)) (by (with_reducible repeat (first|refine aa ?_ _|refine ac ?_|refine a9 ?_ _));exact br.out) hb)
           have n7_:=zzA (ag (by repeat (first|(with_reducible first|exact HB.out|apply a6|apply a4|apply a5|refine a7 ?_ cn.out|refine a7 ?_ cD.out|refine a7 ?_ cR.out)|exact HB.out)) hb)
           clear aE
           clear cX
           clear io
           clear aZ
           clear bG
           clear br
           clear HB
           have aE:=n0_
           have cX:=n1_
           have io:=n2_
           have HO287:=n3_
           have aZ:=n4_
           have bG:=n5_
           have br:=n6_
           have HB:=n7_
           clear n0_ n1_ n2_ n3_ n4_ n5_ n6_ n7_
           (try clear hb)
           (try clear hb2)
           (try clear hk)
           (try clear hi)
           (try clear ho0)
           obtain ⟨Ao41,co41,eo41⟩:=Kd.N_slice HO287.out
           (first|subst eo41|(injection eo41 with f1_ f2_ f3_;have f4_:=f1_.symm;have f5_:=f3_.symm;clear f1_ f2_ f3_;subst f4_;subst f5_))
           refine hK.out _ _ ⟨(a8 br.out 0).trans rfl,(a8 br.out 1).trans rfl,(a8 aZ.out 0).trans rfl,(a8 aZ.out 1).trans rfl,((HB.out.cell (zzE w _ cB)).trans cB)⟩ (fun hHeld=>?_)
           clear hK K
           refine bx (a':=?_) ?_ ?_
           rotate_left
           ·show Act.put _ (some 41) _=_
            simp only [Act.put,zzB,zzC,zzD,av,aw]
            rfl
           refine ep (i:=13) (N:=some 42) #[true,true,true,true,true,true,true,true,true,true,true,true,true,true,false,false,false] rfl rfl (bE HT_.out (by kernel_rfl)) (by decide) (fun K hK=>?_)
           refine Kd.N_lit_step k39 _ 39 ?hg (N':=42) ?hd (xs:=([(⟨t284,t285⟩ : S39)]:List (S39))) (inner:=[.int .i64 t284,.slice Ao41 t285.length co41]) (ok:=(fun k_=>(w.heap.size≤k_)∧some k_ ≠ (.slice Ao29 x270001_1.length gD:Value).ownBlock∧some k_ ≠ (.slice Ao38 y278.length co38:Value).ownBlock∧some k_ ≠ (.slice Ao39 y281.length co39:Value).ownBlock∧k_ ≠ bO∧k_ ≠ bY∧k_ ≠ ce)) (okp:=(fun k_=>(w.heap.size≤k_)∧some k_ ≠ (.slice Ao29 x270001_1.length gD:Value).ownBlock∧some k_ ≠ (.slice Ao38 y278.length co38:Value).ownBlock∧some k_ ≠ (.slice Ao39 y281.length co39:Value).ownBlock∧k_ ≠ bO∧k_ ≠ bY∧k_ ≠ ce)) ?hr ?hp (fun _ hk=>hk) ((show ∀ k_,w40.heap.size≤k_→(fun k_=>(w.heap.size≤k_)∧some k_ ≠ (.slice Ao29 x270001_1.length gD:Value).ownBlock∧some k_ ≠ (.slice Ao38 y278.length co38:Value).ownBlock∧some k_ ≠ (.slice Ao39 y281.length co39:Value).ownBlock∧k_ ≠ bO∧k_ ≠ bY∧k_ ≠ ce) k_ from fun k_ hk=>⟨(Nat.le_trans (ae (by repeat (first|(with_reducible first|exact HB.out|apply a6|apply a4|apply a5|refine a7 ?_ cn.out|refine a7 ?_ cD.out|refine a7 ?_ cR.out)|exact HB.out))) hk),Kd.fresh' (Kd.N_lt (by (with_reducible repeat (first|apply Kd.N_alloc|apply Kd.N_drewN|apply Kd.N_drew));exact aE.out)) k_ hk,Kd.fresh' (Kd.R_lt (by (with_reducible repeat (first|apply Kd.R_alloc|apply Kd.R_drewN|apply Kd.R_drew));exact cX.out)) k_ hk,Kd.fresh' (Kd.R_lt (by (with_reducible repeat (first|apply Kd.R_alloc|apply Kd.R_drewN|apply Kd.R_drew));exact io.out)) k_ hk,Kd.freshB (g:=bO) (o:=.cells #[.slice (some ad270) ai.length ap,.slice au ah.length am] 25 (0,0)) (by (with_reducible repeat (first|refine aa ?_ _|refine ac ?_|refine a9 ?_ _));exact aZ.out) k_ hk,Kd.freshB (g:=bY) (o:=.cells #[.int .i64 0,.slice none 0 0] 39 (0,0)) (by (with_reducible repeat (first|refine aa ?_ _|refine ac ?_|refine a9 ?_ _));exact bG.out) k_ hk,Kd.freshB (g:=ce) (o:=.cells #[.int .i64 (-1),.slice Ao29 x270001_1.length gD] 39 (0,0)) (by (with_reducible repeat (first|refine aa ?_ _|refine ac ?_|refine a9 ?_ _));exact br.out) k_ hk⟩) _ (Nat.le_refl _)) (Below.refl _ _) (Nat.le_refl _) (by simp) ?_;(case hd=>rfl);(case hg=>rfl);(case hr=>first|(go_simp;done)|(go_simp;rfl));(case hp=>exact (Reps.c2 (show Kd.FK k39 _ _ (⟨t284,t285⟩ : S39) [.int .i64 t284,.slice Ao41 t285.length co41] from (k39_mkF _ _ (⟨t284,t285⟩ : S39) (Kd.N_reads' (Kd.N_mono (ok':=(fun k_=>(w.heap.size≤k_)∧some k_ ≠ (.slice Ao29 x270001_1.length gD:Value).ownBlock∧some k_ ≠ (.slice Ao38 y278.length co38:Value).ownBlock∧some k_ ≠ (.slice Ao39 y281.length co39:Value).ownBlock∧k_ ≠ bO∧k_ ≠ bY∧k_ ≠ ce)) (HO287.out) (fun k_ hk=>⟨hk.1,⟨hk.2.1,⟨hk.2.2.1,⟨hk.2.2.2.1,⟨hk.2.2.2.2.1,⟨hk.2.2.2.2.2.1,hk.2.2.2.2.2.2⟩⟩⟩⟩⟩⟩))).2.1 (Kd.N_F (Kd.N_mono (ok':=(fun k_=>(w.heap.size≤k_)∧some k_ ≠ (.slice Ao29 x270001_1.length gD:Value).ownBlock∧some k_ ≠ (.slice Ao38 y278.length co38:Value).ownBlock∧some k_ ≠ (.slice Ao39 y281.length co39:Value).ownBlock∧k_ ≠ bO∧k_ ≠ bY∧k_ ≠ ce)) (HO287.out) (fun k_ hk=>⟨hk.1,⟨hk.2.1,⟨hk.2.2.1,⟨hk.2.2.2.1,⟨hk.2.2.2.2.1,⟨hk.2.2.2.2.2.1,hk.2.2.2.2.2.2⟩⟩⟩⟩⟩⟩))))) (Reps.none _ _)))
           intro v289 w42 ho43 hb hg_ hnew_
           clear hg_ hnew_
           (first|rw [← Ny288.out] at ho43|(simp only [Int.reduceToNat] at ho43;rw [← Ny288.out] at ho43))
           have n0_:=zzA (Kd.N_elder' (by (with_reducible repeat (first|apply Kd.N_alloc|apply Kd.N_drewN|apply Kd.N_drew));exact aE.out) (Kd.N_base ho43) hb)
           have n1_:=zzA (Kd.R_below (by (with_reducible repeat (first|apply Kd.R_alloc|apply Kd.R_drewN|apply Kd.R_drew));exact cX.out) hb)
           have n2_:=zzA (Kd.R_below (by (with_reducible repeat (first|apply Kd.R_alloc|apply Kd.R_drewN|apply Kd.R_drew));exact io.out) hb)
           have n3_:=zzA (Kd.N_lower ho43 (ae (by repeat (first|(with_reducible first|exact HB.out|apply a6|apply a4|apply a5|refine a7 ?_ cn.out|refine a7 ?_ cD.out|refine a7 ?_ cR.out)|exact HB.out))))
           have n4_:=zzA (af (g:=bO) (o:=.cells #[.slice (some ad270) ai.length ap,.slice au ah.length am] 25 (0,0)) (by (with_reducible repeat (first|refine aa ?_ _|refine ac ?_|refine a9 ?_ _));exact aZ.out) hb)
           have n5_:=zzA (af (g:=bY) (o:=.cells #[.int .i64 0,.slice none 0 0] 39 (0,0)) (by (with_reducible repeat (first|refine aa ?_ _|refine ac ?_|refine a9 ?_ _));exact bG.out) hb)
           have n6_:=zzA (af (g:=ce) (o:=.cells #[.int .i64 (-1),.slice Ao29 x270001_1.length gD] 39 (0,0)) (by (with_reducible repeat (first|refine aa ?_ _|refine ac ?_|refine a9 ?_ _));exact br.out) hb)
           have n7_:=zzA (ag (by repeat (first|(with_reducible first|exact HB.out|apply a6|apply a4|apply a5|refine a7 ?_ cn.out|refine a7 ?_ cD.out|refine a7 ?_ cR.out)|exact HB.out)) hb)
           clear aE
           clear cX
           clear io
           clear aZ
           clear bG
           clear br
           clear HB
           clear HO287
           have aE:=n0_
           have cX:=n1_
           have io:=n2_
           have HO290:=n3_
           have aZ:=n4_
           have bG:=n5_
           have br:=n6_
           have HB:=n7_
           clear n0_ n1_ n2_ n3_ n4_ n5_ n6_ n7_
           clear hb ho43
           obtain ⟨Ao45,co45,eo45⟩:=Kd.N_slice HO290.out
           (first|subst eo45|(injection eo45 with f1_ f2_ f3_;have f4_:=f1_.symm;have f5_:=f3_.symm;clear f1_ f2_ f3_;subst f4_;subst f5_))
           refine hK.out _ _ ⟨(a8 br.out 0).trans rfl,(a8 br.out 1).trans rfl,(a8 aZ.out 0).trans rfl,(a8 aZ.out 1).trans rfl,((HB.out.cell (zzE w _ cB)).trans cB)⟩ (fun hHeld=>?_)
           clear hK K
           refine bx (a':=?_) ?_ ?_
           rotate_left
           ·show Act.put _ (some 42) _=_
            simp only [Act.put,zzB,zzC,zzD,av,aw]
            rfl
           refine ep (i:=14) (N:=some 43) #[true,true,true,true,true,true,true,true,true,true,true,true,true,true,true,false,false] rfl rfl (bE HT_.out (by kernel_rfl)) (by decide) (fun K hK=>?_)
           refine Kd.N_append_rows_step k39 (w0:=w) w.heap.size (by rfl) (.tmp 30) (.tmp 42) 37 39 (.agg #[(.int .i64 0),(.slice none 0 0)]) 32 rfl Try.underlying37 info39 rfl (by decide) (by omega) (.slice Ao29 x270001_1.length gD) x270001_1 y288 _ _ _ (fun k_=>(w.heap.size≤k_)∧some k_ ≠ (.slice Ao38 y278.length co38:Value).ownBlock∧some k_ ≠ (.slice Ao39 y281.length co39:Value).ownBlock∧k_ ≠ bO∧k_ ≠ bY∧k_ ≠ ce) (fun k_=>((fun k_=>(w.heap.size≤k_)∧some k_ ≠ (.slice Ao38 y278.length co38:Value).ownBlock∧some k_ ≠ (.slice Ao39 y281.length co39:Value).ownBlock∧k_ ≠ bO∧k_ ≠ bY∧k_ ≠ ce)) k_∧some k_ ≠ (.slice Ao29 x270001_1.length gD:Value).ownBlock) rfl rfl ?aO ?aR (fun _ hk=>hk) ?aF ?aB ?aS ?aL ?_
           (case aR=>exact (by skip;exact Kd.N_F (Kd.N_mono (ok':=(fun k_=>((fun k_=>(w.heap.size≤k_)∧some k_ ≠ (.slice Ao38 y278.length co38:Value).ownBlock∧some k_ ≠ (.slice Ao39 y281.length co39:Value).ownBlock∧k_ ≠ bO∧k_ ≠ bY∧k_ ≠ ce)) k_∧some k_ ≠ (.slice Ao29 x270001_1.length gD:Value).ownBlock)) (HO290.out) (fun k_ hk=>⟨⟨hk.1,⟨hk.2.2.1,⟨hk.2.2.2.1,⟨hk.2.2.2.2.1,⟨hk.2.2.2.2.2.1,hk.2.2.2.2.2.2⟩⟩⟩⟩⟩,hk.2.1⟩))))
           (case aB=>exact (by repeat (first|(with_reducible first|exact HB.out|apply a6|apply a4|apply a5|refine a7 ?_ cn.out|refine a7 ?_ cD.out|refine a7 ?_ cR.out)|exact HB.out)))
           (case aF=>exact (fun k_ hk=>⟨(Nat.le_trans (ae (by repeat (first|(with_reducible first|exact HB.out|apply a6|apply a4|apply a5|refine a7 ?_ cn.out|refine a7 ?_ cD.out|refine a7 ?_ cR.out)|exact HB.out))) hk),Kd.fresh' (Kd.R_lt (by (with_reducible repeat (first|apply Kd.R_alloc|apply Kd.R_drewN|apply Kd.R_drew));exact cX.out)) k_ hk,Kd.fresh' (Kd.R_lt (by (with_reducible repeat (first|apply Kd.R_alloc|apply Kd.R_drewN|apply Kd.R_drew));exact io.out)) k_ hk,Kd.freshB (g:=bO) (o:=.cells #[.slice (some ad270) ai.length ap,.slice au ah.length am] 25 (0,0)) (by (with_reducible repeat (first|refine aa ?_ _|refine ac ?_|refine a9 ?_ _));exact aZ.out) k_ hk,Kd.freshB (g:=bY) (o:=.cells #[.int .i64 0,.slice none 0 0] 39 (0,0)) (by (with_reducible repeat (first|refine aa ?_ _|refine ac ?_|refine a9 ?_ _));exact bG.out) k_ hk,Kd.freshB (g:=ce) (o:=.cells #[.int .i64 (-1),.slice Ao29 x270001_1.length gD] 39 (0,0)) (by (with_reducible repeat (first|refine aa ?_ _|refine ac ?_|refine a9 ?_ _));exact br.out) k_ hk⟩))
           (case aO=>exact (by (with_reducible repeat (first|apply Kd.N_alloc|apply Kd.N_drewN|apply Kd.N_drew));exact Kd.N_mono aE.out (fun _ hk=>⟨hk.1.1.1.1,⟨hk.1.1.1.2.1,⟨hk.1.1.2,⟨hk.1.1.1.2.2.1,⟨hk.1.1.1.2.2.2.1,hk.1.1.1.2.2.2.2⟩⟩⟩⟩⟩)))
           (case aS=>exact (ae (by repeat (first|(with_reducible first|exact HB.out|apply a6|apply a4|apply a5|refine a7 ?_ cn.out|refine a7 ?_ cD.out|refine a7 ?_ cR.out)|exact HB.out))))
           (case aL=>have:=LMc28.out;omega)
           intro v292 w44 ho hb hg hat
           rw [← Ny291.out] at ho
           have n0_:=zzA (aU (g:=bO) (o:=.cells #[.slice (some ad270) ai.length ap,.slice au ah.length am] 25 (0,0)) (by (with_reducible repeat (first|refine aa ?_ _|refine ac ?_|refine a9 ?_ _));exact aZ.out) hg (Kd.N_ne aE.out aZ.out (by decide)))
           have n1_:=zzA (aU (g:=bY) (o:=.cells #[.int .i64 0,.slice none 0 0] 39 (0,0)) (by (with_reducible repeat (first|refine aa ?_ _|refine ac ?_|refine a9 ?_ _));exact bG.out) hg (Kd.N_away aE.out (fun _ hk=>hk.1.1.1.2.2.2.1)))
           have n2_:=zzA (aU (g:=ce) (o:=.cells #[.int .i64 (-1),.slice Ao29 x270001_1.length gD] 39 (0,0)) (by (with_reducible repeat (first|refine aa ?_ _|refine ac ?_|refine a9 ?_ _));exact br.out) hg (Kd.N_away aE.out (fun _ hk=>hk.1.1.1.2.2.2.2)))
           have n3_:=zzA (Kd.R_over' (by (with_reducible repeat (first|apply Kd.R_alloc|apply Kd.R_drewN|apply Kd.R_drew));exact cX.out) (Kd.N_typed (by (with_reducible repeat (first|apply Kd.N_alloc|apply Kd.N_drewN|apply Kd.N_drew));exact aE.out)) (by decide) hg)
           have n4_:=zzA (Kd.R_over' (by (with_reducible repeat (first|apply Kd.R_alloc|apply Kd.R_drewN|apply Kd.R_drew));exact io.out) (Kd.N_typed (by (with_reducible repeat (first|apply Kd.N_alloc|apply Kd.N_drewN|apply Kd.N_drew));exact aE.out)) (by decide) hg)
           have n5_:=zzA (Kd.N_afterv (ok:=(fun k_=>(w.heap.size≤k_)∧some k_ ≠ (.slice Ao38 y278.length co38:Value).ownBlock∧some k_ ≠ (.slice Ao39 y281.length co39:Value).ownBlock∧k_ ≠ bO∧k_ ≠ bY∧k_ ≠ ce)) (by (with_reducible repeat (first|apply Kd.N_alloc|apply Kd.N_drewN|apply Kd.N_drew));exact Kd.N_mono HO290.out (fun _ hk=>⟨⟨hk.1,⟨hk.2.2.1,⟨hk.2.2.2.1,⟨hk.2.2.2.2.1,⟨hk.2.2.2.2.2.1,hk.2.2.2.2.2.2⟩⟩⟩⟩⟩,hk.2.1⟩)) hg hat)
           have n6_:=zzA (hb)
           have n7_:=zzA (ho)
           clear aZ
           clear bG
           clear br
           clear cX
           clear io
           clear HO290
           clear HB
           clear aE
           have aZ:=n0_
           have bG:=n1_
           have br:=n2_
           have cX:=n3_
           have io:=n4_
           have HO290:=n5_
           have HB:=n6_
           have HO293:=n7_
           clear n0_ n1_ n2_ n3_ n4_ n5_ n6_ n7_
           clear ho hb hg hat
           obtain ⟨Ao46,co46,eo46⟩:=Kd.N_slice HO293.out
           (first|subst eo46|(injection eo46 with f1_ f2_ f3_;have f4_:=f1_.symm;have f5_:=f3_.symm;clear f1_ f2_ f3_;subst f4_;subst f5_))
           refine hK.out _ _ ⟨(a8 br.out 0).trans rfl,(a8 br.out 1).trans rfl,(a8 aZ.out 0).trans rfl,(a8 aZ.out 1).trans rfl,((HB.out.cell (zzE w _ cB)).trans cB)⟩ (fun hHeld=>?_)
           clear hK K
           refine bx (a':=?_) ?_ ?_
           rotate_left
           ·show Act.put _ (some 43) _=_
            simp only [Act.put,zzB,zzC,zzD,av,aw]
            rfl
           refine bh (i:=15) (N:=some 44) (v:=?_) (a':=?_) #[true,true,true,true,true,true,true,true,true,true,true,true,true,true,true,true,false] rfl rfl (aG HT_.out (by kernel_rfl)) (fun _ _ _ h=>h) (Or.inl ⟨by rfl,?_⟩) ?_ ?_
           rotate_left
           ·intro w'
            go_simp
            with_reducible rfl
           rotate_left
           ·simp only [Act.put,zzB,zzC,zzD,av,aw]
            rfl
           refine last_ (i:=16) (N:=none) #[true,true,true,true,true,true,true,true,true,true,true,true,true,true,true,true,true] rfl rfl (bE HT_.out (by kernel_rfl)) (by decide) (fun K hK=>?_)
           have hs47:w44.cell? ⟨ce,1,none⟩=some (.slice Ao29 x270001_1.length gD):=(a8 br.out 1).trans rfl
           have hfs47:=ab br.out 1
           have hns47_0:=NB266_269.out
           have hns47_1:=NB267_269.out
           have hms47_0:=NB269_266.out
           have hms47_1:=NB269_267.out
           refine skip_ (w1:=?_) (by rfl) rfl ?_ ?_
           rotate_left
           ·go_simp
            rfl
           refine hK.out _ _ ?_
           clear hK K
           refine gO (dm HT_.out (by kernel_rfl)) ?_
           try go_wp2
           go_roundg k1
           case measure=>have:=HK1.out;omega
           case rel=>exact ⟨(wrap64 (x8_1+1)),(y291),(.slice Ao46 y291.length co46),(by first|rfl|(simp;done)|(simp [*];done)),H',⟨by have:=HK1.out;omega⟩,⟨by (with_reducible repeat (first|apply Kd.N_alloc|apply Kd.N_drewN|apply Kd.N_drew));exact Kd.N_mono (Kd.N_far (p:=⟨ce,1,none⟩) (Kd.N_mono HO293.out (fun k_ hk=>(⟨hk,hk.2.2.2.2.2⟩ : _∧k_ ≠ ce))) (fun _ hk=>hk.2) (.slice Ao46 y291.length co46)) (fun _ hk=>⟨hk.1.1,⟨hk.1.2.2.2.1,⟨hk.1.2.2.2.2.1,hk.1.2.2.2.2.2⟩⟩⟩)⟩,⟨by (with_reducible repeat (first|refine aa ?_ _|refine ac ?_|refine a9 ?_ _));refine aV ?_ NB266_269.out _;(with_reducible repeat (first|refine aa ?_ _|refine ac ?_|refine a9 ?_ _));exact aZ.out⟩,⟨by (with_reducible repeat (first|refine aa ?_ _|refine ac ?_|refine a9 ?_ _));refine aV ?_ NB267_269.out _;(with_reducible repeat (first|refine aa ?_ _|refine ac ?_|refine a9 ?_ _));exact bG.out⟩,⟨by (with_reducible repeat (first|refine aa ?_ _|refine ac ?_|refine a9 ?_ _));refine aN (cs:=#[.int .i64 (-1),.slice Ao29 x270001_1.length gD]) ?_ 1 _ rfl;(with_reducible repeat (first|refine aa ?_ _|refine ac ?_|refine a9 ?_ _));exact br.out⟩,⟨by repeat (first|(with_reducible first|exact HB.out|apply a6|apply a4|apply a5|refine a7 ?_ cn.out|refine a7 ?_ cD.out|refine a7 ?_ cR.out)|exact HB.out)⟩⟩
          ·rw [if_neg c28] at H
           exact absurd H (by simp)
         ·rw [if_neg c26] at H
          exact absurd H (by simp)
        ·rw [if_neg c25] at H
         exact absurd H (by simp)
       ·rw [if_neg c24] at H
        exact absurd H (by simp)
      ·rw [if_neg c23] at H
       have c23b0:decide (x8_1 < ((ao ai (l1.length:Int)).length:Int))=false:=zzH c23
       clear c23
       simp only [Option.some.injEq,Prod.mk.injEq] at H
       obtain ⟨rfl,rfl⟩:=H
       have hnb48:=NB269_266.out
       have hnc48:=NB266_269.out
       have hnb49:=NB269_267.out
       have hnc49:=NB267_269.out
       have hcz50_0:wr.cell? ⟨ce,0,none⟩=some (.int .i64 (-1)):=(a8 br.out 0).trans rfl
       have hcz50_1:wr.cell? ⟨ce,1,none⟩=some (u270001):=(a8 br.out 1).trans rfl
       have hfz50_0:=ab br.out 0
       have hfz50_1:=ab br.out 1
       have hnb51:=NB267_266.out
       have hnc51:=NB266_267.out
       have hcz52_0:wr.cell? ⟨bY,0,none⟩=some (.int .i64 0):=(a8 bG.out 0).trans rfl
       have hcz52_1:wr.cell? ⟨bY,1,none⟩=some (.slice none 0 0):=(a8 bG.out 1).trans rfl
       have hfz52_0:=ab bG.out 0
       have hfz52_1:=ab bG.out 1
       obtain ⟨Ao53,co53,eo53⟩:=Kd.N_slice aE.out
       subst eo53
       go_wp2
       refine bodyPost_ret (results_cell_row rfl _ _ bY 39 #[.int .i64 (-1),.slice Ao53 x270001_1.length co53] (0,0) _ rfl (by (with_reducible repeat (first|refine aa ?_ _|refine ac ?_|refine a9 ?_ _));refine aN (cs:=#[.int .i64 (-1),.slice none 0 0]) ?_ 1 _ rfl;(with_reducible repeat (first|refine aa ?_ _|refine ac ?_|refine a9 ?_ _));refine aN (cs:=#[.int .i64 0,.slice none 0 0]) ?_ 0 _ rfl;(with_reducible repeat (first|refine aa ?_ _|refine ac ?_|refine a9 ?_ _));exact bG.out) Try.underlying39 rfl (by kernel_rfl)) rfl ?_
       exact ⟨_,by first|rfl|(simp [ak,al] <;> rfl)|(simp [*,ak,al] <;> rfl),by (with_reducible repeat (first|apply Kd.N_alloc|apply Kd.N_drewN|apply Kd.N_drew));exact Kd.N_mono (Kd.N_far (p:=⟨bY,1,none⟩) (Kd.N_far (p:=⟨bY,0,none⟩) (Kd.N_mono aE.out (fun k_ hk=>(⟨hk,hk.2.2.1⟩ : _∧k_ ≠ bY))) (fun _ hk=>hk.2) (.int .i64 (-1))) (fun _ hk=>hk.2) (.slice Ao53 x270001_1.length co53)) (fun _ hk=>hk.1.1),by repeat (first|(with_reducible first|exact HB.out|apply a6|apply a4|apply a5|refine a7 ?_ cn.out|refine a7 ?_ cD.out|refine a7 ?_ cR.out)|exact HB.out)⟩
   ·rw [if_neg c12] at H
    exact absurd H (by simp)
  ·rw [if_neg c11] at H
   exact absurd H (by simp)
def fastiref15_Refute.f (k:Nat) (ai:List (List Int)) (ah:List (S49)):Option (Int × (List (S39)) × Bool × Int):=(fastiref15_Solve.f k ai ah).bind fun bt296=>(if bt296.2.2=0 then (if bt296.2.1=true then (some (0,([]:List (S39)),false,bt296.2.2)) else ((fastiref15_refute.f k ai ah ([]:List Int)).bind fun lT=>(some (lT.1,lT.2,true,0)))) else (some (0,([]:List (S39)),false,bt296.2.2)))
set_option maxHeartbeats 8000000 in
set_option maxRecDepth 100000 in
theorem fastiref15_Refute.calls (k:Nat) (ax:Option Addr) (ap:Nat) (ai:List (List Int)) (au:Option Addr) (am:Nat) (ah:List (S49)) (r1:Int) (r2:List (S39)) (r3:Bool) (r4:Int) (w:World) (bV:Kd.C (Kd.slice 3 (Kd.int .i64)) w ax ai.length ai) (bX:ai.length≤ap) (bP:Kd.C k49 w au ah.length ah) (bU:ah.length≤am) (h:fastiref15_Refute.f k ai ah=some (r1,r2,r3,r4)) :
  Calls Try.prog 21 #[.agg #[.slice ax ai.length ap,.slice au ah.length am]] w fun e w'=>∃ v1_:Value,e=.returned (.tuple #[.agg #[.int .i64 r1,v1_],.bool r3,.int .i64 r4])∧Kd.N k39 39 w' w.heap.size (fun k_=>(w.heap.size≤k_)) v1_ r2∧Below w.heap.size w w':=by
 have hu25:=Try.underlying25
 have hu39:=Try.underlying39
 have bz:=zzA bV
 have bH:=zzA bX
 clear bV bX
 have bq:=zzA bP
 have bF:=zzA bU
 clear bP bU
 have HB:=zzA (Below.refl w.heap.size w)
 have H:((fastiref15_Solve.f k ai ah).bind fun bt296=>(if bt296.2.2=0 then (if bt296.2.1=true then (some (0,([]:List (S39)),false,bt296.2.2)) else ((fastiref15_refute.f k ai ah ([]:List Int)).bind fun lT=>(some (lT.1,lT.2,true,0)))) else (some (0,([]:List (S39)),false,bt296.2.2))))=some (r1,r2,r3,r4):=h
 clear h
 replace H:=Option.bind_eq_some_iff.mp H
 obtain ⟨⟨t296,t299,t300⟩,A20,H⟩:=H
 replace H:(if t300=0 then (if t299=true then (some (0,([]:List (S39)),false,t300)) else ((fastiref15_refute.f k ai ah ([]:List Int)).bind fun lT=>(some (lT.1,lT.2,true,0)))) else (some (0,([]:List (S39)),false,t300)))=some (r1,r2,r3,r4):=H
 have A2:=zzA A20
 clear A20
 by_cases c3:t300=0
 ·rw [if_pos c3] at H
  have kA:(t300 == 0)=true:=beq_iff_eq.mpr c3
  have c3b1:(t300 != 0)=false:=bne_eq_false_iff_eq.mpr c3
  clear c3
  by_cases c4:t299=true
  ·subst c4
   have H1:(some (0,([]:List (S39)),false,t300))=some (r1,r2,r3,r4):=by rw [if_pos rfl] at H;exact H
   clear H
   have H:=H1
   clear H1
   simp only [Option.some.injEq,Prod.mk.injEq] at H
   obtain ⟨rfl,rfl,rfl,rfl⟩:=H
   go_enter Try.func21,Try.ntmps21
   go_wp2_with (first|((with_reducible refine ay (N:=1) rfl ?_);refine aq ?hg (N:=1) ?hd (cs:=#[.slice ax ai.length ap,.slice au ah.length am]) (t:=25) ?hr ?_;(case hd=>rfl);(case hg=>rfl);(case hr=>first|(go_simp;done)|(go_simp;rfl));intro cU hg w5 hbox hb;have n0_:=zzA (ag (by repeat (first|(with_reducible first|exact HB.out|apply a6|apply a4|apply a5)|exact HB.out)) hb);have n1_:=zzA (hbox);have n2_:=zzA ((by rw [hg];exact (ae (by repeat (first|(with_reducible first|exact HB.out|apply a6|apply a4|apply a5)|exact HB.out))):w.heap.size≤cU));have n3_:=zzA ((by rw [hg];exact (ae (by repeat (first|(with_reducible first|exact HB.out|apply a6|apply a4|apply a5)|exact HB.out))):w.heap.size≤cU));clear HB;have HB:=n0_;have cI:=n1_;have GW294:=n2_;have dW:=n3_;clear n0_ n1_ n2_ n3_;clear hb hbox hg)|((with_reducible refine ay (N:=2) rfl ?_);refine aq ?hg (N:=2) ?hd (cs:=#[.int .i64 0,.slice none 0 0]) (t:=39) ?hr ?_;(case hd=>rfl);(case hg=>rfl);(case hr=>first|(go_simp;done)|(go_simp;rfl));intro dj hg w6 hbox hb;have n0_:=zzA (af (g:=cU) (o:=.cells #[.slice ax ai.length ap,.slice au ah.length am] 25 (0,0)) (by (with_reducible repeat (first|refine aa ?_ _|refine ac ?_|refine a9 ?_ _));exact cI.out) hb);have n1_:=zzA (ag (by repeat (first|(with_reducible first|exact HB.out|apply a6|apply a4|apply a5|refine a7 ?_ dW.out)|exact HB.out)) hb);have n2_:=zzA (hbox);have n3_:=zzA ((by rw [hg];exact (ae (by repeat (first|(with_reducible first|exact HB.out|apply a6|apply a4|apply a5|refine a7 ?_ dW.out)|exact HB.out))):w.heap.size≤dj));have n4_:=zzA ((by rw [hg];exact (ae (by repeat (first|(with_reducible first|exact HB.out|apply a6|apply a4|apply a5|refine a7 ?_ dW.out)|exact HB.out))):w.heap.size≤dj));have n5_:=zzA ((by rw [hg];exact Nat.ne_of_lt (aJ (g:=cU) (o:=.cells #[.slice ax ai.length ap,.slice au ah.length am] 25 (0,0)) (by (with_reducible repeat (first|refine aa ?_ _|refine ac ?_|refine a9 ?_ _));exact cI.out)):cU ≠ dj));have n6_:=zzA ((by rw [hg];exact Nat.ne_of_gt (aJ (g:=cU) (o:=.cells #[.slice ax ai.length ap,.slice au ah.length am] 25 (0,0)) (by (with_reducible repeat (first|refine aa ?_ _|refine ac ?_|refine a9 ?_ _));exact cI.out)):dj ≠ cU));clear cI;clear HB;have cI:=n0_;have HB:=n1_;have dx:=n2_;have GW295:=n3_;have gu:=n4_;have NB294_295:=n5_;have NB295_294:=n6_;clear n0_ n1_ n2_ n3_ n4_ n5_ n6_;clear hb hbox hg;have hnb7:=NB294_295.out;have hnc7:=NB295_294.out;have eD:w6.cell? ⟨cU,0,none⟩=some (.slice ax ai.length ap):=(a8 cI.out 0).trans rfl;have eE:w6.cell? ⟨cU,1,none⟩=some (.slice au ah.length am):=(a8 cI.out 1).trans rfl;have eF:=ab cI.out 0;have eG:=ab cI.out 1)|((with_reducible refine ar (f:=16) rfl ?_);refine bi (some 10) rfl rfl Try.func16 (by kernel_rfl) rfl #[.agg #[.slice ax ai.length ap,.slice au ah.length am]] rfl (by (try simp only [List.map_toArray,List.map_cons,List.map_nil]);first|done|rfl|(simp only [List.length_drop,List.length_take];rfl)) ?_;(with_reducible refine (fastiref15_Solve.calls k _ _ ai _ _ ah t296 true t300 _ ?side1 ?side2 ?side3 ?side4 A2.out).mono ?_);(case side1=>repeat (first|exact (zzI bz.out HB.out)|(with_reducible refine Kd.C_alloc ?_ _)|(with_reducible refine Kd.C_drewN ?_ _)|(with_reducible refine Kd.C_drew ?_)));(case side2=>exact bH.out);(case side3=>repeat (first|exact (zzI bq.out HB.out)|(with_reducible refine Kd.C_alloc ?_ _)|(with_reducible refine Kd.C_drewN ?_ _)|(with_reducible refine Kd.C_drew ?_)));(case side4=>exact bF.out);rintro e w9 ⟨v297,rfl,ho0,hb⟩;refine ⟨_,rfl,?_⟩;have n0_:=zzA (Kd.R_lower (Kd.R_newM (M:=fun k_=>(w.heap.size≤k_)) ho0 (ae (by repeat (first|(with_reducible first|exact HB.out|apply a6|apply a4|apply a5|refine a7 ?_ dW.out|refine a7 ?_ gu.out)|exact HB.out))) (fun k_ h_=>h_)) (ae (by repeat (first|(with_reducible first|exact HB.out|apply a6|apply a4|apply a5|refine a7 ?_ dW.out|refine a7 ?_ gu.out)|exact HB.out))));have n1_:=zzA (af (g:=cU) (o:=.cells #[.slice ax ai.length ap,.slice au ah.length am] 25 (0,0)) (by (with_reducible repeat (first|refine aa ?_ _|refine ac ?_|refine a9 ?_ _));exact cI.out) hb);have n2_:=zzA (af (g:=dj) (o:=.cells #[.int .i64 0,.slice none 0 0] 39 (0,0)) (by (with_reducible repeat (first|refine aa ?_ _|refine ac ?_|refine a9 ?_ _));exact dx.out) hb);have n3_:=zzA (ag (by repeat (first|(with_reducible first|exact HB.out|apply a6|apply a4|apply a5|refine a7 ?_ dW.out|refine a7 ?_ gu.out)|exact HB.out)) hb);clear cI;clear dx;clear HB;have HO298:=n0_;have cI:=n1_;have dx:=n2_;have HB:=n3_;clear n0_ n1_ n2_ n3_;(try clear hb);(try clear hb2);(try clear hk);(try clear hi);(try clear ho0);have ef:w9.cell? ⟨dj,0,none⟩=some (.int .i64 0):=(a8 dx.out 0).trans rfl;have eh:w9.cell? ⟨dj,1,none⟩=some (.slice none 0 0):=(a8 dx.out 1).trans rfl;have ei:=ab dx.out 0;have ej:=ab dx.out 1))
   refine bodyPost_ret (dK rfl _ _ dj 39 #[.int .i64 0,.slice none 0 0] (0,0) _ rfl (by (with_reducible repeat (first|refine aa ?_ _|refine ac ?_|refine a9 ?_ _));refine aN (cs:=#[.int .i64 0,.slice none 0 0]) ?_ 1 _ rfl;(with_reducible repeat (first|refine aa ?_ _|refine ac ?_|refine a9 ?_ _));refine aN (cs:=#[.int .i64 0,.slice none 0 0]) ?_ 0 _ rfl;(with_reducible repeat (first|refine aa ?_ _|refine ac ?_|refine a9 ?_ _));exact dx.out) Try.underlying39 rfl (by kernel_rfl)) rfl ?_
   exact ⟨_,by first|rfl|(simp [ak,al] <;> rfl)|(simp [*,ak,al] <;> rfl),by first|exact Kd.R_nil _ _ _ _ _|exact Kd.N_nil _ _ _ _ _|exact Kd.V_nil _ _ _ _ _|exact Kd.Q_nil _ _ _ _ _|exact Kd.S_nil _ _ _ _ _,by repeat (first|(with_reducible first|exact HB.out|apply a6|apply a4|apply a5|refine a7 ?_ dW.out|refine a7 ?_ gu.out)|exact HB.out)⟩
  ·replace c4:=Bool.eq_false_iff.mpr c4
   subst c4
   have H1:((fastiref15_refute.f k ai ah ([]:List Int)).bind fun lT=>(some (lT.1,lT.2,true,0)))=some (r1,r2,r3,r4):=by rw [if_neg (show ¬ (false=true) by decide)] at H;exact H
   clear H
   have H:=H1
   clear H1
   replace H:=Option.bind_eq_some_iff.mp H
   obtain ⟨⟨t301,t302⟩,A110,H⟩:=H
   replace H:(some (t301,t302,true,0))=some (r1,r2,r3,r4):=H
   have A11:=zzA A110
   clear A110
   simp only [Option.some.injEq,Prod.mk.injEq] at H
   obtain ⟨rfl,rfl,rfl,rfl⟩:=H
   go_enter Try.func21,Try.ntmps21
   go_wp2_with (first|((with_reducible refine ay (N:=1) rfl ?_);refine aq ?hg (N:=1) ?hd (cs:=#[.slice ax ai.length ap,.slice au ah.length am]) (t:=25) ?hr ?_;(case hd=>rfl);(case hg=>rfl);(case hr=>first|(go_simp;done)|(go_simp;rfl));intro cU hg w12 hbox hb;have n0_:=zzA (ag (by repeat (first|(with_reducible first|exact HB.out|apply a6|apply a4|apply a5)|exact HB.out)) hb);have n1_:=zzA (hbox);have n2_:=zzA ((by rw [hg];exact (ae (by repeat (first|(with_reducible first|exact HB.out|apply a6|apply a4|apply a5)|exact HB.out))):w.heap.size≤cU));have n3_:=zzA ((by rw [hg];exact (ae (by repeat (first|(with_reducible first|exact HB.out|apply a6|apply a4|apply a5)|exact HB.out))):w.heap.size≤cU));clear HB;have HB:=n0_;have cI:=n1_;have GW294:=n2_;have dW:=n3_;clear n0_ n1_ n2_ n3_;clear hb hbox hg)|((with_reducible refine ay (N:=2) rfl ?_);refine aq ?hg (N:=2) ?hd (cs:=#[.int .i64 0,.slice none 0 0]) (t:=39) ?hr ?_;(case hd=>rfl);(case hg=>rfl);(case hr=>first|(go_simp;done)|(go_simp;rfl));intro dj hg w13 hbox hb;have n0_:=zzA (af (g:=cU) (o:=.cells #[.slice ax ai.length ap,.slice au ah.length am] 25 (0,0)) (by (with_reducible repeat (first|refine aa ?_ _|refine ac ?_|refine a9 ?_ _));exact cI.out) hb);have n1_:=zzA (ag (by repeat (first|(with_reducible first|exact HB.out|apply a6|apply a4|apply a5|refine a7 ?_ dW.out)|exact HB.out)) hb);have n2_:=zzA (hbox);have n3_:=zzA ((by rw [hg];exact (ae (by repeat (first|(with_reducible first|exact HB.out|apply a6|apply a4|apply a5|refine a7 ?_ dW.out)|exact HB.out))):w.heap.size≤dj));have n4_:=zzA ((by rw [hg];exact (ae (by repeat (first|(with_reducible first|exact HB.out|apply a6|apply a4|apply a5|refine a7 ?_ dW.out)|exact HB.out))):w.heap.size≤dj));have n5_:=zzA ((by rw [hg];exact Nat.ne_of_lt (aJ (g:=cU) (o:=.cells #[.slice ax ai.length ap,.slice au ah.length am] 25 (0,0)) (by (with_reducible repeat (first|refine aa ?_ _|refine ac ?_|refine a9 ?_ _));exact cI.out)):cU ≠ dj));have n6_:=zzA ((by rw [hg];exact Nat.ne_of_gt (aJ (g:=cU) (o:=.cells #[.slice ax ai.length ap,.slice au ah.length am] 25 (0,0)) (by (with_reducible repeat (first|refine aa ?_ _|refine ac ?_|refine a9 ?_ _));exact cI.out)):dj ≠ cU));clear cI;clear HB;have cI:=n0_;have HB:=n1_;have dx:=n2_;have GW295:=n3_;have gu:=n4_;have NB294_295:=n5_;have NB295_294:=n6_;clear n0_ n1_ n2_ n3_ n4_ n5_ n6_;clear hb hbox hg;have hnb14:=NB294_295.out;have hnc14:=NB295_294.out;have eP:w13.cell? ⟨cU,0,none⟩=some (.slice ax ai.length ap):=(a8 cI.out 0).trans rfl;have eQ:w13.cell? ⟨cU,1,none⟩=some (.slice au ah.length am):=(a8 cI.out 1).trans rfl;have eR:=ab cI.out 0;have eS:=ab cI.out 1)|((with_reducible refine ar (f:=16) rfl ?_);refine bi (some 10) rfl rfl Try.func16 (by kernel_rfl) rfl #[.agg #[.slice ax ai.length ap,.slice au ah.length am]] rfl (by (try simp only [List.map_toArray,List.map_cons,List.map_nil]);first|done|rfl|(simp only [List.length_drop,List.length_take];rfl)) ?_;(with_reducible refine (fastiref15_Solve.calls k _ _ ai _ _ ah t296 false t300 _ ?side1 ?side2 ?side3 ?side4 A2.out).mono ?_);(case side1=>repeat (first|exact (zzI bz.out HB.out)|(with_reducible refine Kd.C_alloc ?_ _)|(with_reducible refine Kd.C_drewN ?_ _)|(with_reducible refine Kd.C_drew ?_)));(case side2=>exact bH.out);(case side3=>repeat (first|exact (zzI bq.out HB.out)|(with_reducible refine Kd.C_alloc ?_ _)|(with_reducible refine Kd.C_drewN ?_ _)|(with_reducible refine Kd.C_drew ?_)));(case side4=>exact bF.out);rintro e w16 ⟨v297,rfl,ho0,hb⟩;refine ⟨_,rfl,?_⟩;have n0_:=zzA (Kd.R_lower (Kd.R_newM (M:=fun k_=>(w.heap.size≤k_)) ho0 (ae (by repeat (first|(with_reducible first|exact HB.out|apply a6|apply a4|apply a5|refine a7 ?_ dW.out|refine a7 ?_ gu.out)|exact HB.out))) (fun k_ h_=>h_)) (ae (by repeat (first|(with_reducible first|exact HB.out|apply a6|apply a4|apply a5|refine a7 ?_ dW.out|refine a7 ?_ gu.out)|exact HB.out))));have n1_:=zzA (af (g:=cU) (o:=.cells #[.slice ax ai.length ap,.slice au ah.length am] 25 (0,0)) (by (with_reducible repeat (first|refine aa ?_ _|refine ac ?_|refine a9 ?_ _));exact cI.out) hb);have n2_:=zzA (af (g:=dj) (o:=.cells #[.int .i64 0,.slice none 0 0] 39 (0,0)) (by (with_reducible repeat (first|refine aa ?_ _|refine ac ?_|refine a9 ?_ _));exact dx.out) hb);have n3_:=zzA (ag (by repeat (first|(with_reducible first|exact HB.out|apply a6|apply a4|apply a5|refine a7 ?_ dW.out|refine a7 ?_ gu.out)|exact HB.out)) hb);clear cI;clear dx;clear HB;have HO298:=n0_;have cI:=n1_;have dx:=n2_;have HB:=n3_;clear n0_ n1_ n2_ n3_;(try clear hb);(try clear hb2);(try clear hk);(try clear hi);(try clear ho0);have fG:w16.cell? ⟨cU,0,none⟩=some (.slice ax ai.length ap):=(a8 cI.out 0).trans rfl;have fH:w16.cell? ⟨cU,1,none⟩=some (.slice au ah.length am):=(a8 cI.out 1).trans rfl;have fJ:=ab cI.out 0;have fK:=ab cI.out 1)|((with_reducible refine ar (f:=42) rfl ?_);refine bi (some 22) rfl rfl Try.func42 (by kernel_rfl) rfl #[.agg #[.slice ax ai.length ap,.slice au ah.length am],.slice none 0 0] rfl (by (try simp only [List.map_toArray,List.map_cons,List.map_nil]);first|done|rfl|(simp only [List.length_drop,List.length_take];rfl)) ?_;(refine (fastiref15_refute.calls k _ _ ai _ _ ah _ _ ([]:List Int) t301 t302 _ ?side1 ?side2 ?side3 ?side4 ?side5 ?side6 A11.out).mono ?_);(case side1=>repeat (first|exact (zzI bz.out HB.out)|(with_reducible refine Kd.C_alloc ?_ _)|(with_reducible refine Kd.C_drewN ?_ _)|(with_reducible refine Kd.C_drew ?_)));(case side2=>exact bH.out);(case side3=>repeat (first|exact (zzI bq.out HB.out)|(with_reducible refine Kd.C_alloc ?_ _)|(with_reducible refine Kd.C_drewN ?_ _)|(with_reducible refine Kd.C_drew ?_)));(case side4=>exact bF.out);(case side5=>exact Kd.C_nil _ _);(case side6=>exact Nat.le_refl _);rintro e w18 ⟨v303,rfl,ho0,hb⟩;refine ⟨_,rfl,?_⟩;have n0_:=zzA (Kd.R_below (by (with_reducible repeat (first|apply Kd.R_alloc|apply Kd.R_drewN|apply Kd.R_drew));exact HO298.out) hb);have n1_:=zzA (Kd.N_lower (Kd.N_mono (ok':=fun k_=>(w.heap.size≤k_)∧some k_ ≠ (v297:Value).ownBlock∧k_ ≠ cU∧k_ ≠ dj) ho0 (fun k_ hk_=>⟨(Nat.le_trans (ae (by repeat (first|(with_reducible first|exact HB.out|apply a6|apply a4|apply a5|refine a7 ?_ dW.out|refine a7 ?_ gu.out)|exact HB.out))) hk_),(Kd.fresh' (Kd.R_lt (by (with_reducible repeat (first|apply Kd.R_alloc|apply Kd.R_drewN|apply Kd.R_drew));exact HO298.out)) k_ hk_),(Kd.freshB (g:=cU) (o:=.cells #[.slice ax ai.length ap,.slice au ah.length am] 25 (0,0)) (by (with_reducible repeat (first|refine aa ?_ _|refine ac ?_|refine a9 ?_ _));exact cI.out) k_ hk_),(Kd.freshB (g:=dj) (o:=.cells #[.int .i64 0,.slice none 0 0] 39 (0,0)) (by (with_reducible repeat (first|refine aa ?_ _|refine ac ?_|refine a9 ?_ _));exact dx.out) k_ hk_)⟩)) (ae (by repeat (first|(with_reducible first|exact HB.out|apply a6|apply a4|apply a5|refine a7 ?_ dW.out|refine a7 ?_ gu.out)|exact HB.out))));have n2_:=zzA (af (g:=cU) (o:=.cells #[.slice ax ai.length ap,.slice au ah.length am] 25 (0,0)) (by (with_reducible repeat (first|refine aa ?_ _|refine ac ?_|refine a9 ?_ _));exact cI.out) hb);have n3_:=zzA (af (g:=dj) (o:=.cells #[.int .i64 0,.slice none 0 0] 39 (0,0)) (by (with_reducible repeat (first|refine aa ?_ _|refine ac ?_|refine a9 ?_ _));exact dx.out) hb);have n4_:=zzA (ag (by repeat (first|(with_reducible first|exact HB.out|apply a6|apply a4|apply a5|refine a7 ?_ dW.out|refine a7 ?_ gu.out)|exact HB.out)) hb);clear HO298;clear cI;clear dx;clear HB;have HO298:=n0_;have HO304:=n1_;have cI:=n2_;have dx:=n3_;have HB:=n4_;clear n0_ n1_ n2_ n3_ n4_;(try clear hb);(try clear hb2);(try clear hk);(try clear hi);(try clear ho0);have hcz19_0:w18.cell? ⟨dj,0,none⟩=some (.int .i64 0):=(a8 dx.out 0).trans rfl;have hcz19_1:w18.cell? ⟨dj,1,none⟩=some (.slice none 0 0):=(a8 dx.out 1).trans rfl;have hfz19_0:=ab dx.out 0;have hfz19_1:=ab dx.out 1;obtain ⟨Ao20,co20,eo20⟩:=Kd.N_slice HO304.out;subst eo20))
   refine bodyPost_ret (dK rfl _ _ dj 39 #[.int .i64 t301,.slice Ao20 t302.length co20] (0,0) _ rfl (by (with_reducible repeat (first|refine aa ?_ _|refine ac ?_|refine a9 ?_ _));refine aN (cs:=#[.int .i64 t301,.slice none 0 0]) ?_ 1 _ rfl;(with_reducible repeat (first|refine aa ?_ _|refine ac ?_|refine a9 ?_ _));refine aN (cs:=#[.int .i64 0,.slice none 0 0]) ?_ 0 _ rfl;(with_reducible repeat (first|refine aa ?_ _|refine ac ?_|refine a9 ?_ _));exact dx.out) Try.underlying39 rfl (by kernel_rfl)) rfl ?_
   exact ⟨_,by first|rfl|(simp [ak,al] <;> rfl)|(simp [*,ak,al] <;> rfl),by (with_reducible repeat (first|apply Kd.N_alloc|apply Kd.N_drewN|apply Kd.N_drew));exact Kd.N_mono (Kd.N_far (p:=⟨dj,1,none⟩) (Kd.N_far (p:=⟨dj,0,none⟩) (Kd.N_mono HO304.out (fun k_ hk=>(⟨hk,hk.2.2.2⟩ : _∧k_ ≠ dj))) (fun _ hk=>hk.2) (.int .i64 t301)) (fun _ hk=>hk.2) (.slice Ao20 t302.length co20)) (fun _ hk=>hk.1.1),by repeat (first|(with_reducible first|exact HB.out|apply a6|apply a4|apply a5|refine a7 ?_ dW.out|refine a7 ?_ gu.out)|exact HB.out)⟩
 ·rw [if_neg c3] at H
  have kA:(t300 == 0)=false:=beq_eq_false_iff_ne.mpr c3
  have c3b1:(t300 != 0)=true:=bne_iff_ne.mpr c3
  simp only [Option.some.injEq,Prod.mk.injEq] at H
  obtain ⟨rfl,rfl,rfl,rfl⟩:=H
  go_enter Try.func21,Try.ntmps21
  go_wp2_with (first|((with_reducible refine ay (N:=1) rfl ?_);refine aq ?hg (N:=1) ?hd (cs:=#[.slice ax ai.length ap,.slice au ah.length am]) (t:=25) ?hr ?_;(case hd=>rfl);(case hg=>rfl);(case hr=>first|(go_simp;done)|(go_simp;rfl));intro cU hg w21 hbox hb;have n0_:=zzA (ag (by repeat (first|(with_reducible first|exact HB.out|apply a6|apply a4|apply a5)|exact HB.out)) hb);have n1_:=zzA (hbox);have n2_:=zzA ((by rw [hg];exact (ae (by repeat (first|(with_reducible first|exact HB.out|apply a6|apply a4|apply a5)|exact HB.out))):w.heap.size≤cU));have n3_:=zzA ((by rw [hg];exact (ae (by repeat (first|(with_reducible first|exact HB.out|apply a6|apply a4|apply a5)|exact HB.out))):w.heap.size≤cU));clear HB;have HB:=n0_;have cI:=n1_;have GW294:=n2_;have dW:=n3_;clear n0_ n1_ n2_ n3_;clear hb hbox hg)|((with_reducible refine ay (N:=2) rfl ?_);refine aq ?hg (N:=2) ?hd (cs:=#[.int .i64 0,.slice none 0 0]) (t:=39) ?hr ?_;(case hd=>rfl);(case hg=>rfl);(case hr=>first|(go_simp;done)|(go_simp;rfl));intro dj hg w22 hbox hb;have n0_:=zzA (af (g:=cU) (o:=.cells #[.slice ax ai.length ap,.slice au ah.length am] 25 (0,0)) (by (with_reducible repeat (first|refine aa ?_ _|refine ac ?_|refine a9 ?_ _));exact cI.out) hb);have n1_:=zzA (ag (by repeat (first|(with_reducible first|exact HB.out|apply a6|apply a4|apply a5|refine a7 ?_ dW.out)|exact HB.out)) hb);have n2_:=zzA (hbox);have n3_:=zzA ((by rw [hg];exact (ae (by repeat (first|(with_reducible first|exact HB.out|apply a6|apply a4|apply a5|refine a7 ?_ dW.out)|exact HB.out))):w.heap.size≤dj));have n4_:=zzA ((by rw [hg];exact (ae (by repeat (first|(with_reducible first|exact HB.out|apply a6|apply a4|apply a5|refine a7 ?_ dW.out)|exact HB.out))):w.heap.size≤dj));have n5_:=zzA ((by rw [hg];exact Nat.ne_of_lt (aJ (g:=cU) (o:=.cells #[.slice ax ai.length ap,.slice au ah.length am] 25 (0,0)) (by (with_reducible repeat (first|refine aa ?_ _|refine ac ?_|refine a9 ?_ _));exact cI.out)):cU ≠ dj));have n6_:=zzA ((by rw [hg];exact Nat.ne_of_gt (aJ (g:=cU) (o:=.cells #[.slice ax ai.length ap,.slice au ah.length am] 25 (0,0)) (by (with_reducible repeat (first|refine aa ?_ _|refine ac ?_|refine a9 ?_ _));exact cI.out)):dj ≠ cU));clear cI;clear HB;have cI:=n0_;have HB:=n1_;have dx:=n2_;have GW295:=n3_;have gu:=n4_;have NB294_295:=n5_;have NB295_294:=n6_;clear n0_ n1_ n2_ n3_ n4_ n5_ n6_;clear hb hbox hg;have hnb23:=NB294_295.out;have hnc23:=NB295_294.out;have ji:w22.cell? ⟨cU,0,none⟩=some (.slice ax ai.length ap):=(a8 cI.out 0).trans rfl;have jk:w22.cell? ⟨cU,1,none⟩=some (.slice au ah.length am):=(a8 cI.out 1).trans rfl;have jl:=ab cI.out 0;have jm:=ab cI.out 1)|((with_reducible refine ar (f:=16) rfl ?_);refine bi (some 10) rfl rfl Try.func16 (by kernel_rfl) rfl #[.agg #[.slice ax ai.length ap,.slice au ah.length am]] rfl (by (try simp only [List.map_toArray,List.map_cons,List.map_nil]);first|done|rfl|(simp only [List.length_drop,List.length_take];rfl)) ?_;(with_reducible refine (fastiref15_Solve.calls k _ _ ai _ _ ah t296 t299 t300 _ ?side1 ?side2 ?side3 ?side4 A2.out).mono ?_);(case side1=>repeat (first|exact (zzI bz.out HB.out)|(with_reducible refine Kd.C_alloc ?_ _)|(with_reducible refine Kd.C_drewN ?_ _)|(with_reducible refine Kd.C_drew ?_)));(case side2=>exact bH.out);(case side3=>repeat (first|exact (zzI bq.out HB.out)|(with_reducible refine Kd.C_alloc ?_ _)|(with_reducible refine Kd.C_drewN ?_ _)|(with_reducible refine Kd.C_drew ?_)));(case side4=>exact bF.out);rintro e w25 ⟨v297,rfl,ho0,hb⟩;refine ⟨_,rfl,?_⟩;have n0_:=zzA (Kd.R_lower (Kd.R_newM (M:=fun k_=>(w.heap.size≤k_)) ho0 (ae (by repeat (first|(with_reducible first|exact HB.out|apply a6|apply a4|apply a5|refine a7 ?_ dW.out|refine a7 ?_ gu.out)|exact HB.out))) (fun k_ h_=>h_)) (ae (by repeat (first|(with_reducible first|exact HB.out|apply a6|apply a4|apply a5|refine a7 ?_ dW.out|refine a7 ?_ gu.out)|exact HB.out))));have n1_:=zzA (af (g:=cU) (o:=.cells #[.slice ax ai.length ap,.slice au ah.length am] 25 (0,0)) (by (with_reducible repeat (first|refine aa ?_ _|refine ac ?_|refine a9 ?_ _));exact cI.out) hb);have n2_:=zzA (af (g:=dj) (o:=.cells #[.int .i64 0,.slice none 0 0] 39 (0,0)) (by (with_reducible repeat (first|refine aa ?_ _|refine ac ?_|refine a9 ?_ _));exact dx.out) hb);have n3_:=zzA (ag (by repeat (first|(with_reducible first|exact HB.out|apply a6|apply a4|apply a5|refine a7 ?_ dW.out|refine a7 ?_ gu.out)|exact HB.out)) hb);clear cI;clear dx;clear HB;have HO298:=n0_;have cI:=n1_;have dx:=n2_;have HB:=n3_;clear n0_ n1_ n2_ n3_;(try clear hb);(try clear hb2);(try clear hk);(try clear hi);(try clear ho0);have hcz26_0:w25.cell? ⟨dj,0,none⟩=some (.int .i64 0):=(a8 dx.out 0).trans rfl;have hcz26_1:w25.cell? ⟨dj,1,none⟩=some (.slice none 0 0):=(a8 dx.out 1).trans rfl;have hfz26_0:=ab dx.out 0;have hfz26_1:=ab dx.out 1))
  refine bodyPost_ret (dK rfl _ _ dj 39 #[.int .i64 0,.slice none 0 0] (0,0) _ rfl (by (with_reducible repeat (first|refine aa ?_ _|refine ac ?_|refine a9 ?_ _));refine aN (cs:=#[.int .i64 0,.slice none 0 0]) ?_ 1 _ rfl;(with_reducible repeat (first|refine aa ?_ _|refine ac ?_|refine a9 ?_ _));refine aN (cs:=#[.int .i64 0,.slice none 0 0]) ?_ 0 _ rfl;(with_reducible repeat (first|refine aa ?_ _|refine ac ?_|refine a9 ?_ _));exact dx.out) Try.underlying39 rfl (by kernel_rfl)) rfl ?_
  exact ⟨_,by first|rfl|(simp [ak,al] <;> rfl)|(simp [*,ak,al] <;> rfl),by first|exact Kd.R_nil _ _ _ _ _|exact Kd.N_nil _ _ _ _ _|exact Kd.V_nil _ _ _ _ _|exact Kd.Q_nil _ _ _ _ _|exact Kd.S_nil _ _ _ _ _,by repeat (first|(with_reducible first|exact HB.out|apply a6|apply a4|apply a5|refine a7 ?_ dW.out|refine a7 ?_ gu.out)|exact HB.out)⟩
end Go.Proofs.Ytcbpkdemcdikaaa.X
