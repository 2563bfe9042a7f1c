/- Proved here: parts of the walk and of the plain law of SearchProofSpec, put into one text (names and lines made short by a program). -/
import Derived.Test.YtcbpkdemcdikaaaProg
import Derived.Below
import Derived.Deep.Draws
import Derived.Deep.AppendLies
import Derived.Maps.AppendAt
import Derived.OwnWalk
import Derived.Laws.BytesArg
import Derived.Laws.MakeOwn
import Derived.Laws.OwnMore
import Derived.Deep.OwnRows
import Derived.Tactics
import Derived.Lib.ConvBytes
import Derived.Laws.Slices
import Derived.WalkKit
import Derived.KernelRfl
import Derived.RowKit3
import Derived.Deep.LoopGhost
import Derived.Deep.QuietTactic
import Derived.BigQuiet
import Derived.WideLaws
import Derived.Deep.DeepCutAuto
import Derived.Deep.CutBlock
import Derived.Deep.RegionHeld3
import Derived.Laws.Rows
import Derived.Lib.AppendStr
import Derived.ArgAppend
import Derived.Laws.IdiomCopy
import Derived.OrdersHeld
import Derived.Laws.BitsLemmas
import Derived.RowKit
import Derived.Test.YtcbpkdemcdikaaaSearchProofSpecC
import Derived.Test.YtcbpkdemcdikaaaSearchProofSpecB
namespace Go.Proofs.Ytcbpkdemcdikaaa.X
open Go.RowKit Go.Proofs.YtcbpkdemcdikaaaW.PrintWords Go.Proofs.YtcbpkdemcdikaaaW.PrintLast Go.Proofs.YtcbpkdemcdikaaaW.PrintMore
attribute [local go_sem] be bc bn bo aM aK bf bd   
set_option linter.unusedVariables false
set_option linter.unusedSimpArgs false
abbrev zzA:=@Aside0.mk
abbrev zzB:=@List.setIfInBounds_toArray
abbrev zzC:=@List.set_cons_zero
abbrev zzD:=@List.set_cons_succ
abbrev zzE:=@World.block_lt_of_cell?
abbrev zzF:=@of_decide_eq_true
abbrev zzG:=@decide_eq_true
abbrev zzH:=@decide_eq_false
abbrev zzI:=@Kd.C_below
def errW:Option Int→Value
 | none=>.nilIface
 | some c=>.iface 0 (.int .i64 c)
theorem ak:errW none=.nilIface:=rfl
theorem al (c:Int):errW (some c)=.iface 0 (.int .i64 c):=rfl
theorem fa:(Try.prog.info? 3).map (fun i=>(i.zero,i.size,i.bytes))=some (some (.int .i64 0),1,8):=by kernel_rfl
theorem info39:(Try.prog.info? 39).map (fun i=>(i.zero,i.size,i.bytes))=some (some (.agg #[(.int .i64 0),(.slice none 0 0)]),2,32):=by kernel_rfl
theorem info49:(Try.prog.info? 49).map (fun i=>(i.zero,i.size,i.bytes))=some (some (.agg #[(.int .i64 0),(.int .i64 0),(.slice none 0 0),(.slice none 0 0)]),4,64):=by kernel_rfl
def ao (xs:List (List Int)) (i:Int):(List Int):=xs.getD i.toNat ([]:List Int)
theorem et {w:World} {A:Option Addr} {n:Nat} {xs:List (List Int)} (h:Kd.C (Kd.slice 3 (Kd.int .i64)) w A n xs) (i:Int) (h0:0≤i) (h1:i < n):∃ ad A0 c0,A=some ad∧w.cell? (ad.add i.toNat)=some (.slice A0 (ao xs i).length c0)∧(ao xs i).length≤c0∧(Kd.int .i64).C w A0 (ao xs i).length (ao xs i):=by
 obtain ⟨ad,c,e,_,hK,hc0⟩:=Kd.C_get h ([]:List Int) i h0 h1
 have hc:∀ j u,c[j]?=some u→w.cell? (ad.add (i.toNat * 1+j))=some u:=hc0
 obtain ⟨A0,c0,rfl,l0,g0⟩:=hK
 exact ⟨ad,A0,c0,e,by have hq:=hc 0 _ rfl;rwa [Nat.mul_one,Nat.add_zero] at hq,l0,g0⟩
structure S49 where
 f0:Int
 f1:Int
 f2:(List Int)
 f3:(List (List Int))
def z49:S49:=⟨(0:Int),(0:Int),([]:List Int),([]:List (List Int))⟩
def k49:Kd S49:=Kd.iso (Kd.pair (Kd.int .i64) (Kd.pair (Kd.int .i64) (Kd.pair (Kd.slice 3 (Kd.int .i64)) (Kd.slice 26 (Kd.slice 3 (Kd.int .i64)))))) (fun x:S49=>(x.f0,x.f1,x.f2,x.f3))
theorem k49_heap:Kd.Heap k49:=Kd.heap_iso _ (Kd.heap_pair (Kd.heap_int .i64) (Kd.heap_pair (Kd.heap_int .i64) (Kd.heap_pair (Kd.heap_slice 3 (Kd.heap_int .i64)) (Kd.heap_slice 26 (Kd.heap_slice 3 (Kd.heap_int .i64))))))
theorem k49_open {w:World} {x:S49} {cs:List Value} (h:k49.K w x cs):∃ A2 c2 A3 c3,cs=[.int .i64 x.f0,.int .i64 x.f1,.slice A2 x.f2.length c2,.slice A3 x.f3.length c3]∧x.f2.length≤c2∧(Kd.int .i64).C w A2 x.f2.length x.f2∧x.f3.length≤c3∧(Kd.slice 3 (Kd.int .i64)).C w A3 x.f3.length x.f3:=by
 obtain ⟨_,_,rfl,rfl,⟨_,_,rfl,rfl,⟨_,_,rfl,⟨A2,c2,rfl,l2,g2⟩,⟨A3,c3,rfl,l3,g3⟩⟩⟩⟩:=h
 exact ⟨A2,c2,A3,c3,rfl,l2,g2,l3,g3⟩
theorem k49_mk (w:World) (x:S49) {A2:Option Addr} {c2:Nat} (l2:x.f2.length≤c2) (g2:(Kd.int .i64).C w A2 x.f2.length x.f2) {A3:Option Addr} {c3:Nat} (l3:x.f3.length≤c3) (g3:(Kd.slice 3 (Kd.int .i64)).C w A3 x.f3.length x.f3):k49.K w x [.int .i64 x.f0,.int .i64 x.f1,.slice A2 x.f2.length c2,.slice A3 x.f3.length c3]:=⟨[.int .i64 x.f0],[.int .i64 x.f1,.slice A2 x.f2.length c2,.slice A3 x.f3.length c3],rfl,rfl,⟨[.int .i64 x.f1],[.slice A2 x.f2.length c2,.slice A3 x.f3.length c3],rfl,rfl,⟨[.slice A2 x.f2.length c2],[.slice A3 x.f3.length c3],rfl,⟨A2,c2,rfl,l2,g2⟩,⟨A3,c3,rfl,l3,g3⟩⟩⟩⟩
def aj (xs:List S49) (i:Int):S49:=xs.getD i.toNat z49
theorem ex {w:World} {A:Option Addr} {n:Nat} {xs:List S49} (h:Kd.C k49 w A n xs) (i:Int) (h0:0≤i) (h1:i < n):∃ ad A2 c2 A3 c3,A=some ad∧w.cell? (ad.add (i.toNat * 4))=some (.int .i64 (aj xs i).f0)∧w.cell? ⟨(ad.add (i.toNat * 4)).block,(ad.add (i.toNat * 4)).off+1,none⟩=some (.int .i64 (aj xs i).f1)∧w.cell? ⟨(ad.add (i.toNat * 4)).block,(ad.add (i.toNat * 4)).off+2,none⟩=some (.slice A2 (aj xs i).f2.length c2)∧w.cell? ⟨(ad.add (i.toNat * 4)).block,(ad.add (i.toNat * 4)).off+3,none⟩=some (.slice A3 (aj xs i).f3.length c3)∧(aj xs i).f2.length≤c2∧(Kd.int .i64).C w A2 (aj xs i).f2.length (aj xs i).f2∧(aj xs i).f3.length≤c3∧(Kd.slice 3 (Kd.int .i64)).C w A3 (aj xs i).f3.length (aj xs i).f3:=by
 obtain ⟨ad,c,e,_,hK,hc0⟩:=Kd.C_get h z49 i h0 h1
 have hc:∀ j u,c[j]?=some u→w.cell? (ad.add (i.toNat * 4+j))=some u:=hc0
 obtain ⟨A2,c2,A3,c3,rfl,l2,g2,l3,g3⟩:=k49_open hK
 exact ⟨ad,A2,c2,A3,c3,e,hc 0 _ rfl,by rw [← ix _ _ 1 (by omega)];exact hc 1 _ rfl,by rw [← ix _ _ 2 (by omega)];exact hc 2 _ rfl,by rw [← ix _ _ 3 (by omega)];exact hc 3 _ rfl,l2,g2,l3,g3⟩
structure S39 where
 f0:Int
 f1:(List S39)
def z39:S39:=⟨(0:Int),([]:List S39)⟩
def F39 (d:Kd S39):Kd S39:=Kd.iso (Kd.pair (Kd.int .i64) (Kd.slice 39 d)) (fun x:S39=>(x.f0,x.f1))
theorem mono39:Kd.Mono F39:=Kd.mono_iso _ (Kd.mono_pair (Kd.mono_const _) (Kd.mono_slice 39 Kd.mono_id))
theorem sub39:Kd.Sub F39 [39]:=Kd.sub_iso _ (Kd.sub_pair (Kd.sub_const _ (by decide)) (Kd.sub_slice 39 (by decide) Kd.sub_id))
theorem sz39:∀ n,(Kd.upto F39 2 [39] n).sz=2:=Kd.upto_sz (fun _=>rfl)
def k39:Kd S39:=Kd.fix F39 2 [39] sz39 (Kd.upto_E sub39)
theorem k39_open {w:World} {x:S39} {cs:List Value} (h:k39.K w x cs):∃ A1 c1,cs=[.int .i64 x.f0,.slice A1 x.f1.length c1]∧x.f1.length≤c1∧k39.C w A1 x.f1.length x.f1:=by
 obtain ⟨n,h⟩:=h
 cases n with
 | zero=>exact h.elim
 | succ n =>
  obtain ⟨_,_,rfl,rfl,⟨A1,c1,rfl,l1,g1⟩⟩:=h
  exact ⟨A1,c1,rfl,l1,Kd.fix_C g1⟩
theorem k39_mk (w:World) (x:S39) {A1:Option Addr} {c1:Nat} (l1:x.f1.length≤c1) (g1:k39.C w A1 x.f1.length x.f1):k39.K w x [.int .i64 x.f0,.slice A1 x.f1.length c1]:=by
 obtain ⟨n1,q1⟩:=Kd.fix_C_back mono39 g1
 have r1:=Kd.upto_C_le mono39 sz39 (show n1≤n1 by omega) q1
 exact ⟨n1+1,⟨[.int .i64 x.f0],[.slice A1 x.f1.length c1],rfl,rfl,⟨A1,c1,rfl,l1,r1⟩⟩⟩
theorem k39_mkM (w:World) (base:Nat) (ok:Nat→Prop) (x:S39) {v1:Value} (g1:k39.R 39 w base ok v1 x.f1):k39.M w base ok x [.int .i64 x.f0,v1]:=by
 obtain ⟨n1,q1⟩:=Kd.fix_R_back mono39 g1
 have r1:=Kd.upto_R_le mono39 sz39 (show n1≤n1 by omega) q1
 exact ⟨n1+1,⟨[.int .i64 x.f0],[v1],rfl,rfl,⟨v1,rfl,r1⟩⟩⟩
theorem k39_mkF (W:World) (ok:Nat→Prop) (x:S39) {A1:Option Addr} {c1:Nat} (l1:x.f1.length≤c1) (g1:Kd.F k39 W ok A1 x.f1.length x.f1):Kd.FK k39 W ok x [.int .i64 x.f0,.slice A1 x.f1.length c1]:=fun W2 hW=>k39_mk W2 x l1 (g1 W2 hW)
def aY (xs:List S39) (i:Int):S39:=xs.getD i.toNat z39
theorem kg {w:World} {A:Option Addr} {n:Nat} {xs:List S39} (h:Kd.C k39 w A n xs) (i:Int) (h0:0≤i) (h1:i < n):∃ ad A1 c1,A=some ad∧w.cell? (ad.add (i.toNat * 2))=some (.int .i64 (aY xs i).f0)∧w.cell? ⟨(ad.add (i.toNat * 2)).block,(ad.add (i.toNat * 2)).off+1,none⟩=some (.slice A1 (aY xs i).f1.length c1)∧(aY xs i).f1.length≤c1∧k39.C w A1 (aY xs i).f1.length (aY xs i).f1:=by
 obtain ⟨ad,c,e,_,hK,hc0⟩:=Kd.C_get h z39 i h0 h1
 have hc:∀ j u,c[j]?=some u→w.cell? (ad.add (i.toNat * 2+j))=some u:=hc0
 obtain ⟨A1,c1,rfl,l1,g1⟩:=k39_open hK
 exact ⟨ad,A1,c1,e,hc 0 _ rfl,by rw [← ix _ _ 1 (by omega)];exact hc 1 _ rfl,l1,g1⟩
def slices_Index_int_int.l0:Nat→List Int→Int→Int→Int→Option (Int)
 | 0,_,_,_,_=>none
 | k+1,x0,x1,x7,x8=>if x8 < x7 then (if 0≤x8 then (if x8 < (x0.length:Int) then (if x1=(rd x0 x8) then (some x8) else (slices_Index_int_int.l0 k x0 x1 x7 (wrap64 (x8+1)))) else (none)) else (none)) else (some (-1))
def slices_Index_int_int.f (k:Nat) (l0:List Int) (a1:Int):Option (Int):=slices_Index_int_int.l0 k l0 a1 (l0.length:Int) 0
set_option maxHeartbeats 8000000 in
set_option maxRecDepth 100000 in
theorem slices_Index_int_int.calls (k:Nat) (A0:Option Addr) (c0:Nat) (l0:List Int) (a1:Int) (r:Int) (w:World) (hr0:Kd.C (Kd.int .i64) w A0 l0.length l0) (hc0:l0.length≤c0) (h:slices_Index_int_int.f k l0 a1=some r) :
  Calls Try.prog 70 #[.slice A0 l0.length c0,.int .i64 a1] w fun e w'=>e=.returned (.int .i64 r)∧Drawn0 w w':=by
 have HR0:=zzA hr0
 have HC0:=zzA hc0
 clear hr0 hc0
 have H:(slices_Index_int_int.l0 k l0 a1 (l0.length:Int) 0)=some r:=h
 clear h
 have H':=zzA H
 clear H
 go_enter Try.func70,Try.ntmps70
 go_wp2
 go_loopg [8] k (fun kq v8 w'=>∃ (x8_1:Int),v8=.int .i64 x8_1∧Aside0 (slices_Index_int_int.l0 kq l0 a1 (l0.length:Int) x8_1=some r)∧Aside0 (kq≤k)∧Drawn0 w w')
 case atStart=>exact ⟨(0),(by first|rfl|(simp;done)|(simp [*];done)),H',⟨Nat.le_refl _⟩,by repeat (first|exact Drawn0.refl _|apply Drawn0.step)⟩
 case round =>
  clear H'
  try clear p2
  obtain ⟨x8_1,rfl,HA,HK1,⟨m1,rfl⟩⟩:=hrel
  cases gk with
  | zero=>exact absurd HA.out (by simp [slices_Index_int_int.l0])
  | succ k1 =>
   have H:=HA.out
   clear HA
   simp only [slices_Index_int_int.l0] at H
   by_cases c3:x8_1 < (l0.length:Int)
   ·rw [if_pos c3] at H
    have kA:decide (x8_1 < (l0.length:Int))=true:=zzG c3
    clear c3
    by_cases c4:0≤x8_1
    ·rw [if_pos c4] at H
     have f8:decide (0≤x8_1)=true:=zzG c4
     clear c4
     by_cases c5:x8_1 < (l0.length:Int)
     ·rw [if_pos c5] at H
      have jU:decide (x8_1 < (l0.length:Int))=true:=zzG c5
      clear c5
      by_cases c6:a1=(rd l0 x8_1)
      ·rw [if_pos c6] at H
       have c6b0:(a1 == (rd l0 x8_1))=true:=beq_iff_eq.mpr c6
       have c6b1:(a1 != (rd l0 x8_1))=false:=bne_eq_false_iff_eq.mpr c6
       clear c6
       obtain rfl:=Option.some.inj H
       have p101:0≤(x8_1:Int):=zzF (by first|(with_reducible assumption)|assumption)
       have q101:x8_1 < (l0.length:Int):=zzF (by first|(with_reducible assumption)|assumption)
       obtain ⟨ad101,e101,hx101_0⟩:=Kd.at_int HR0.out x8_1 p101 q101
       cases e101
       replace p101:=eq_true p101
       replace q101:=eq_true q101
       go_wp2
       go_ret
       exact ⟨by first|rfl|(simp;done)|(simp [*];done),by repeat (first|exact Drawn0.refl _|apply Drawn0.step)⟩
      ·rw [if_neg c6] at H
       have c6b0:(a1 == (rd l0 x8_1))=false:=beq_eq_false_iff_ne.mpr c6
       have c6b1:(a1 != (rd l0 x8_1))=true:=bne_iff_ne.mpr c6
       have H':=zzA H
       clear H
       have p101:0≤(x8_1:Int):=zzF (by first|(with_reducible assumption)|assumption)
       have q101:x8_1 < (l0.length:Int):=zzF (by first|(with_reducible assumption)|assumption)
       obtain ⟨ad101,e101,hx101_0⟩:=Kd.at_int HR0.out x8_1 p101 q101
       cases e101
       replace p101:=eq_true p101
       replace q101:=eq_true q101
       go_wp2
       go_roundg k1
       case measure=>have:=HK1.out;omega
       case rel=>exact ⟨(wrap64 (x8_1+1)),(by first|rfl|(simp;done)|(simp [*];done)),H',⟨by have:=HK1.out;omega⟩,by repeat (first|exact Drawn0.refl _|apply Drawn0.step)⟩
     ·rw [if_neg c5] at H
      exact absurd H (by simp)
    ·rw [if_neg c4] at H
     exact absurd H (by simp)
   ·rw [if_neg c3] at H
    have kA:decide (x8_1 < (l0.length:Int))=false:=zzH c3
    clear c3
    obtain rfl:=Option.some.inj H
    go_wp2
    go_ret
    exact ⟨by first|rfl|(simp;done)|(simp [*];done),by repeat (first|exact Drawn0.refl _|apply Drawn0.step)⟩
def slices_Contains_int_int.f (k:Nat) (l0:List Int) (a1:Int):Option (Bool):=(slices_Index_int_int.f k l0 a1).bind fun t102=>(some (decide (t102 ≥ 0)))
set_option maxHeartbeats 8000000 in
set_option maxRecDepth 100000 in
theorem slices_Contains_int_int.calls (k:Nat) (A0:Option Addr) (c0:Nat) (l0:List Int) (a1:Int) (r:Bool) (w:World) (hr0:Kd.C (Kd.int .i64) w A0 l0.length l0) (hc0:l0.length≤c0) (h:slices_Contains_int_int.f k l0 a1=some r) :
  Calls Try.prog 57 #[.slice A0 l0.length c0,.int .i64 a1] w fun e w'=>e=.returned (.bool r)∧Drawn0 w w':=by
 have HR0:=zzA hr0
 have HC0:=zzA hc0
 clear hr0 hc0
 have H:((slices_Index_int_int.f k l0 a1).bind fun t102=>(some (decide (t102 ≥ 0))))=some r:=h
 clear h
 replace H:=Option.bind_eq_some_iff.mp H
 obtain ⟨t102,A30,H⟩:=H
 replace H:(some (decide (t102 ≥ 0)))=some r:=H
 have A3:=zzA A30
 clear A30
 obtain rfl:=Option.some.inj H
 go_enter Try.func57,Try.ntmps57
 go_wp2_with (first|((with_reducible refine ar (f:=70) rfl ?_);refine bi (some 7) rfl rfl Try.func70 (by kernel_rfl) rfl #[.slice A0 l0.length c0,.int .i64 a1] rfl (by (try simp only [List.map_toArray,List.map_cons,List.map_nil]);first|done|rfl|(simp only [List.length_drop,List.length_take];rfl)) ?_;(with_reducible refine (slices_Index_int_int.calls k _ _ l0 a1 t102 _ ?side1 ?side2 A3.out).mono ?_);(case side1=>repeat (first|exact HR0.out|(with_reducible refine Kd.C_alloc ?_ _)|(with_reducible refine Kd.C_drewN ?_ _)|(with_reducible refine Kd.C_drew ?_)));(case side2=>exact HC0.out);rintro e w' ⟨rfl,⟨nd,rfl⟩⟩;refine ⟨_,rfl,?_⟩))
 go_ret
 exact ⟨by first|rfl|(simp;done)|(simp [*];done),by repeat (first|exact Drawn0.refl _|apply Drawn0.step)⟩
mutual
def fastiref15_short.j0:Nat→Bool→List (List Int)→List (S49)→Option (Bool)
 | 0,_,_,_=>none
 | k+1,x16,dB,cH=>if x16=true then (some false) else (fastiref15_short.l0 k 0 dB cH)
def fastiref15_short.l0:Nat→Int→List (List Int)→List (S49)→Option (Bool)
 | 0,_,_,_=>none
 | k+1,x3,dB,cH=>if x3 < (dB.length:Int) then (if 0≤x3 then (if ((ao dB x3).length:Int) > 16 then (some false) else (fastiref15_short.l0 k (wrap64 (x3+1)) dB cH)) else (none)) else (fastiref15_short.l1 k 0 dB cH)
def fastiref15_short.l1:Nat→Int→List (List Int)→List (S49)→Option (Bool)
 | 0,_,_,_=>none
 | k+1,x4,dB,cH=>if x4 < (cH.length:Int) then (if 0≤x4 then (if (((aj cH x4).f2).length:Int) > 12 then (fastiref15_short.j3 k x4 true dB cH ((aj cH x4).f0) ((aj cH x4).f1) ((aj cH x4).f2) ((aj cH x4).f3)) else (fastiref15_short.j3 k x4 (decide ((((aj cH x4).f3).length:Int) > 256)) dB cH ((aj cH x4).f0) ((aj cH x4).f1) ((aj cH x4).f2) ((aj cH x4).f3))) else (none)) else (some true)
def fastiref15_short.j3:Nat→Int→Bool→List (List Int)→List (S49)→Int→Int→List Int→List (List Int)→Option (Bool)
 | 0,_,_,_,_,_,_,_,_=>none
 | k+1,x4,x52,dB,cH,x165000,x165001,x165002,kB=>if x52=true then (some false) else (fastiref15_short.l2 k x4 0 dB cH x165000 x165001 x165002 kB)
def fastiref15_short.l2:Nat→Int→Int→List (List Int)→List (S49)→Int→Int→List Int→List (List Int)→Option (Bool)
 | 0,_,_,_,_,_,_,_,_=>none
 | k+1,x4,x6,dB,cH,x165000,x165001,x165002,kB=>if x6 < (kB.length:Int) then (if 0≤x6 then (if ((ao kB x6).length:Int) > 12 then (some false) else (fastiref15_short.l2 k x4 (wrap64 (x6+1)) dB cH x165000 x165001 x165002 kB)) else (none)) else (fastiref15_short.l1 k (wrap64 (x4+1)) dB cH)
end
def fastiref15_short.f (k:Nat) (ai:List (List Int)) (ah:List (S49)):Option (Bool):=if (ai.length:Int) > 12 then (fastiref15_short.j0 k true ai ah) else (fastiref15_short.j0 k (decide ((ah.length:Int) > 64)) ai ah)
set_option maxHeartbeats 8000000 in
set_option maxRecDepth 100000 in
theorem fastiref15_short.calls (k:Nat) (ax:Option Addr) (ap:Nat) (ai:List (List Int)) (au:Option Addr) (am:Nat) (ah:List (S49)) (r:Bool) (w:World) (bV:Kd.C (Kd.slice 3 (Kd.int .i64)) w ax ai.length ai) (bX:ai.length≤ap) (bP:Kd.C k49 w au ah.length ah) (bU:ah.length≤am) (h:fastiref15_short.f k ai ah=some r) :
  Calls Try.prog 29 #[.agg #[.slice ax ai.length ap,.slice au ah.length am]] w fun e w'=>e=.returned (.bool r)∧Below w.heap.size w w':=by
 have hu25:=Try.underlying25
 have hu49:=Try.underlying49
 have bz:=zzA bV
 have bH:=zzA bX
 clear bV bX
 have bq:=zzA bP
 have bF:=zzA bU
 clear bP bU
 have HB:=zzA (Below.refl w.heap.size w)
 have H:(if (ai.length:Int) > 12 then (fastiref15_short.j0 k true ai ah) else (fastiref15_short.j0 k (decide ((ah.length:Int) > 64)) ai ah))=some r:=h
 clear h
 have HC2:=zzA H
 clear H
 go_enter Try.func29,Try.ntmps29
 go_upto_region 1 with (first|((with_reducible refine ay (N:=1) rfl ?_);(try (refine aI (by rfl) ?_;dsimp only));refine aq ?hg (N:=1) ?hd (cs:=#[.slice ax ai.length ap,.slice au ah.length am]) (t:=25) ?hr ?_;(case hd=>rfl);(case hg=>rfl);(case hr=>first|(go_simp;done)|(go_simp;rfl));intro dO hg w3 hbox hb;have n0_:=zzA (ag (by repeat (first|(with_reducible first|exact HB.out|apply a6|apply a4|apply a5)|exact HB.out)) hb);have n1_:=zzA (hbox);have n2_:=zzA ((by rw [hg];exact (ae (by repeat (first|(with_reducible first|exact HB.out|apply a6|apply a4|apply a5)|exact HB.out))):w.heap.size≤dO));have n3_:=zzA ((by rw [hg];exact (ae (by repeat (first|(with_reducible first|exact HB.out|apply a6|apply a4|apply a5)|exact HB.out))):w.heap.size≤dO));clear HB;have HB:=n0_;have cE:=n1_;have GW161:=n2_;have fZ:=n3_;clear n0_ n1_ n2_ n3_;clear hb hbox hg))
 (try simp only [Act.put,zzB,zzC,zzD])
 go_cut [16] (fun v16 wc=>∃ (kq:Nat) (x16_1:Bool),v16=.bool x16_1∧Aside0 (fastiref15_short.j0 kq x16_1 ai ah=some r)∧Aside0 (kq≤k)∧Aside0 (wc.heap[dO]?=some (.cells #[(.slice ax ai.length ap),(.slice au ah.length am)] 25 (0,0)))∧Aside0 (Below w.heap.size w wc))
 case first =>
  have H:=HC2.out
  clear HC2
  by_cases c4:(ai.length:Int) > 12
  ·rw [if_pos c4] at H
   have f8:decide (12 < (ai.length:Int))=true:=zzG c4
   have c4b1:decide (12 < ai.length)=true:=zzG (by omega)
   clear c4
   (first|rw [f8]|(simp only [av,aw];rw [f8])|skip)
   have H':=zzA H
   clear H
   have fV:w3.cell? ⟨dO,0,none⟩=some (.slice ax ai.length ap):=(a8 cE.out 0).trans rfl
   have fW:w3.cell? ⟨dO,1,none⟩=some (.slice au ah.length am):=(a8 cE.out 1).trans rfl
   have fX:=ab cE.out 0
   have fY:=ab cE.out 1
   go_wp2
   go_meet
   case rel=>exact ⟨_,(true),(by first|rfl|(simp;done)|(simp [*];done)),H',⟨by first|omega|exact Nat.le_refl _⟩,⟨by (with_reducible repeat (first|refine aa ?_ _|refine ac ?_|refine a9 ?_ _));exact cE.out⟩,⟨by repeat (first|(with_reducible first|exact HB.out|apply a6|apply a4|apply a5|refine a7 ?_ fZ.out)|exact HB.out)⟩⟩
  ·rw [if_neg c4] at H
   have f8:decide (12 < (ai.length:Int))=false:=zzH c4
   have c4b1:decide (12 < ai.length)=false:=zzH (by omega)
   clear c4
   (first|rw [f8]|(simp only [av,aw];rw [f8])|skip)
   have H':=zzA H
   clear H
   have ez:w3.cell? ⟨dO,0,none⟩=some (.slice ax ai.length ap):=(a8 cE.out 0).trans rfl
   have eA:w3.cell? ⟨dO,1,none⟩=some (.slice au ah.length am):=(a8 cE.out 1).trans rfl
   have eB:=ab cE.out 0
   have eC:=ab cE.out 1
   go_wp2
   go_meet
   case rel=>exact ⟨_,(decide ((ah.length:Int) > 64)),(by first|rfl|(simp;done)|(simp [*];done)),H',⟨by first|omega|exact Nat.le_refl _⟩,⟨by (with_reducible repeat (first|refine aa ?_ _|refine ac ?_|refine a9 ?_ _));exact cE.out⟩,⟨by repeat (first|(with_reducible first|exact HB.out|apply a6|apply a4|apply a5|refine a7 ?_ fZ.out)|exact HB.out)⟩⟩
 case rest =>
  clear HC2
  try clear c2;try clear p2;try clear c4;try clear f8;try clear c4b1;try clear fV;try clear fW;try clear ez;try clear eA;try clear fX;try clear fY;try clear eB;try clear eC
  obtain ⟨kq,x16_1,rfl,HA,HJ1,cE,HB⟩:=hcut
  cases kq with
  | zero=>exact absurd HA.out (by simp [fastiref15_short.j0])
  | succ kj1 =>
   have H:=HA.out
   clear HA
   simp only [fastiref15_short.j0] at H
   by_cases c7:x16_1=true
   ·subst c7
    have H1:(some false)=some r:=by rw [if_pos rfl] at H;exact H
    clear H
    have H:=H1
    clear H1
    obtain rfl:=Option.some.inj H
    go_wp2
    go_ret
    exact ⟨by first|rfl|(simp [ak,al] <;> rfl)|(simp [*,ak,al] <;> rfl),by repeat (first|(with_reducible first|exact HB.out|apply a6|apply a4|apply a5|refine a7 ?_ fZ.out)|exact HB.out)⟩
   ·replace c7:=Bool.eq_false_iff.mpr c7
    subst c7
    have H1:(fastiref15_short.l0 kj1 0 ai ah)=some r:=by rw [if_neg (show ¬ (false=true) by decide)] at H;exact H
    clear H
    have H:=H1
    clear H1
    have H':=zzA H
    clear H
    go_wp2
    go_loopg [3] kj1 (fun kq v3 w'=>∃ (x3_2:Int),v3=.int .i64 x3_2∧Aside0 (fastiref15_short.l0 kq x3_2 ai ah=some r)∧Aside0 (kq≤kj1)∧Aside0 (w'.heap[dO]?=some (.cells #[(.slice ax ai.length ap),(.slice au ah.length am)] 25 (0,0)))∧Aside0 (Below w.heap.size w w'))
    case atStart=>exact ⟨(0),(by first|rfl|(simp;done)|(simp [*];done)),H',⟨Nat.le_refl _⟩,⟨by (with_reducible repeat (first|refine aa ?_ _|refine ac ?_|refine a9 ?_ _));exact cE.out⟩,⟨by repeat (first|(with_reducible first|exact HB.out|apply a6|apply a4|apply a5|refine a7 ?_ fZ.out)|exact HB.out)⟩⟩
    case round =>
     clear H'
     try clear c2;try clear p2;try clear c4;try clear f8;try clear c4b1;try clear c7;try clear fV;try clear fW;try clear ez;try clear eA;try clear fX;try clear fY;try clear eB;try clear eC
     obtain ⟨x3_2,rfl,HA,HK2,cE,HB⟩:=hrel
     cases gk with
     | zero=>exact absurd HA.out (by simp [fastiref15_short.l0])
     | succ k2 =>
      have H:=HA.out
      clear HA
      simp only [fastiref15_short.l0] at H
      by_cases c8:x3_2 < (ai.length:Int)
      ·rw [if_pos c8] at H
       have c8b0:decide (x3_2 < (ai.length:Int))=true:=zzG c8
       clear c8
       by_cases c9:0≤x3_2
       ·rw [if_pos c9] at H
        have c9b0:decide (0≤x3_2)=true:=zzG c9
        clear c9
        by_cases c10:((ao ai x3_2).length:Int) > 16
        ·rw [if_pos c10] at H
         have iG:decide (16 < ((ao ai x3_2).length:Int))=true:=zzG c10
         have c10b1:decide (16 < (ao ai x3_2).length)=true:=zzG (by omega)
         clear c10
         obtain rfl:=Option.some.inj H
         have cJ:wr.cell? ⟨dO,0,none⟩=some (.slice ax ai.length ap):=(a8 cE.out 0).trans rfl
         have cK:wr.cell? ⟨dO,1,none⟩=some (.slice au ah.length am):=(a8 cE.out 1).trans rfl
         have cL:=ab cE.out 0
         have cM:=ab cE.out 1
         have p162:0≤(x3_2:Int):=zzF (by first|(with_reducible assumption)|assumption)
         have q162:x3_2 < (ai.length:Int):=zzF (by first|(with_reducible assumption)|assumption)
         obtain ⟨ad162,A162_0,c162_0,e162,fk,kC,kD⟩:=et bz.out x3_2 p162 q162
         cases e162
         replace fk:=(HB.out.cell (zzE w _ fk)).trans fk
         have HR162_0:=zzA kD
         have HC162_0:=zzA kC
         clear kD kC
         replace p162:=eq_true p162
         replace q162:=eq_true q162
         go_wp2
         go_ret
         exact ⟨by first|rfl|(simp [ak,al] <;> rfl)|(simp [*,ak,al] <;> rfl),by repeat (first|(with_reducible first|exact HB.out|apply a6|apply a4|apply a5|refine a7 ?_ fZ.out)|exact HB.out)⟩
        ·rw [if_neg c10] at H
         have iG:decide (16 < ((ao ai x3_2).length:Int))=false:=zzH c10
         have c10b1:decide (16 < (ao ai x3_2).length)=false:=zzH (by omega)
         clear c10
         have H':=zzA H
         clear H
         have dd:wr.cell? ⟨dO,0,none⟩=some (.slice ax ai.length ap):=(a8 cE.out 0).trans rfl
         have de:wr.cell? ⟨dO,1,none⟩=some (.slice au ah.length am):=(a8 cE.out 1).trans rfl
         have df:=ab cE.out 0
         have dg:=ab cE.out 1
         have p162:0≤(x3_2:Int):=zzF (by first|(with_reducible assumption)|assumption)
         have q162:x3_2 < (ai.length:Int):=zzF (by first|(with_reducible assumption)|assumption)
         obtain ⟨ad162,A162_0,c162_0,e162,fk,kC,kD⟩:=et bz.out x3_2 p162 q162
         cases e162
         replace fk:=(HB.out.cell (zzE w _ fk)).trans fk
         have HR162_0:=zzA kD
         have HC162_0:=zzA kC
         clear kD kC
         replace p162:=eq_true p162
         replace q162:=eq_true q162
         go_wp2
         go_roundg k2
         case measure=>have:=HJ1.out;have:=HK2.out;omega
         case rel=>exact ⟨(wrap64 (x3_2+1)),(by first|rfl|(simp;done)|(simp [*];done)),H',⟨by have:=HJ1.out;have:=HK2.out;omega⟩,⟨by (with_reducible repeat (first|refine aa ?_ _|refine ac ?_|refine a9 ?_ _));exact cE.out⟩,⟨by repeat (first|(with_reducible first|exact HB.out|apply a6|apply a4|apply a5|refine a7 ?_ fZ.out)|exact HB.out)⟩⟩
       ·rw [if_neg c9] at H
        exact absurd H (by simp)
      ·rw [if_neg c8] at H
       have c8b0:decide (x3_2 < (ai.length:Int))=false:=zzH c8
       clear c8
       have H':=zzA H
       clear H
       have e8:wr.cell? ⟨dO,0,none⟩=some (.slice ax ai.length ap):=(a8 cE.out 0).trans rfl
       have ec:wr.cell? ⟨dO,1,none⟩=some (.slice au ah.length am):=(a8 cE.out 1).trans rfl
       have ed:=ab cE.out 0
       have ee:=ab cE.out 1
       go_wp2
       go_loopg [4] k2 (fun kq v4 w'=>∃ (x4_3:Int),v4=.int .i64 x4_3∧Aside0 (fastiref15_short.l1 kq x4_3 ai ah=some r)∧Aside0 (kq≤k2)∧Aside0 (w'.heap[dO]?=some (.cells #[(.slice ax ai.length ap),(.slice au ah.length am)] 25 (0,0)))∧Aside0 (Below w.heap.size w w'))
       case atStart=>exact ⟨(0),(by first|rfl|(simp;done)|(simp [*];done)),H',⟨Nat.le_refl _⟩,⟨by (with_reducible repeat (first|refine aa ?_ _|refine ac ?_|refine a9 ?_ _));exact cE.out⟩,⟨by repeat (first|(with_reducible first|exact HB.out|apply a6|apply a4|apply a5|refine a7 ?_ fZ.out)|exact HB.out)⟩⟩
       case round =>
        clear H'
        try clear c1;try clear p1;try clear q1;try clear hx1;try clear c2;try clear p2;try clear c4;try clear f8;try clear c4b1;try clear p6;try clear c7;try clear c8;try clear c8b0;try clear c9;try clear c9b0;try clear c10;try clear iG;try clear c10b1;try clear cJ;try clear cK;try clear dd;try clear de;try clear e8;try clear ec;try clear fV;try clear fW;try clear ez;try clear eA;try clear cL;try clear cM;try clear df;try clear dg;try clear ed;try clear ee;try clear fX;try clear fY;try clear eB;try clear eC;try clear fk;try clear p162;try clear q162
        obtain ⟨x4_3,rfl,HA,HK3,cE,HB⟩:=hrel
        cases gk with
        | zero=>exact absurd HA.out (by simp [fastiref15_short.l1])
        | succ k3 =>
         have H:=HA.out
         clear HA
         simp only [fastiref15_short.l1] at H
         by_cases c14:x4_3 < (ah.length:Int)
         ·rw [if_pos c14] at H
          have c14b0:decide (x4_3 < (ah.length:Int))=true:=zzG c14
          clear c14
          by_cases c15:0≤x4_3
          ·rw [if_pos c15] at H
           have c15b0:decide (0≤x4_3)=true:=zzG c15
           clear c15
           have HC16:=zzA H
           clear H
           have fG:wr.cell? ⟨dO,0,none⟩=some (.slice ax ai.length ap):=(a8 cE.out 0).trans rfl
           have fH:wr.cell? ⟨dO,1,none⟩=some (.slice au ah.length am):=(a8 cE.out 1).trans rfl
           have fJ:=ab cE.out 0
           have fK:=ab cE.out 1
           have p163:0≤(x4_3:Int):=zzF (by first|(with_reducible assumption)|assumption)
           have q163:x4_3 < (ah.length:Int):=zzF (by first|(with_reducible assumption)|assumption)
           obtain ⟨ad163,kE,kF,A163_3,c163_3,e163,kG,kH,kI,kJ,hl163_2,hi163_2,hl163_3,hi163_3⟩:=ex bq.out x4_3 p163 q163
           cases e163
           replace kG:=(HB.out.cell (zzE w _ kG)).trans kG
           replace kH:=(HB.out.cell (zzE w _ kH)).trans kH
           replace kI:=(HB.out.cell (zzE w _ kI)).trans kI
           replace kJ:=(HB.out.cell (zzE w _ kJ)).trans kJ
           have HR163_2:=zzA hi163_2
           have HC163_2:=zzA hl163_2
           clear hi163_2 hl163_2
           have HR163_3:=zzA hi163_3
           have HC163_3:=zzA hl163_3
           clear hi163_3 hl163_3
           replace p163:=eq_true p163
           replace q163:=eq_true q163
           go_upto_region 12 with (first|((with_reducible refine ay (N:=5) rfl ?_);(try (refine aI (by rfl) ?_;dsimp only));refine aq ?hg (N:=5) ?hd (cs:=#[.int .i64 0,.int .i64 0,.slice none 0 0,.slice none 0 0]) (t:=49) ?hr ?_;(case hd=>rfl);(case hg=>rfl);(case hr=>first|(go_simp;done)|(go_simp;rfl));intro du hg w18 hbox hb;have n0_:=zzA (af (g:=dO) (o:=.cells #[.slice ax ai.length ap,.slice (some ad163) ah.length am] 25 (0,0)) (by (with_reducible repeat (first|refine aa ?_ _|refine ac ?_|refine a9 ?_ _));exact cE.out) hb);have n1_:=zzA (ag (by repeat (first|(with_reducible first|exact HB.out|apply a6|apply a4|apply a5|refine a7 ?_ fZ.out)|exact HB.out)) hb);have n2_:=zzA (hbox);have n3_:=zzA ((by rw [hg];exact (ae (by repeat (first|(with_reducible first|exact HB.out|apply a6|apply a4|apply a5|refine a7 ?_ fZ.out)|exact HB.out))):w.heap.size≤du));have n4_:=zzA ((by rw [hg];exact (ae (by repeat (first|(with_reducible first|exact HB.out|apply a6|apply a4|apply a5|refine a7 ?_ fZ.out)|exact HB.out))):w.heap.size≤du));have n5_:=zzA ((by rw [hg];exact Nat.ne_of_lt (aJ (g:=dO) (o:=.cells #[.slice ax ai.length ap,.slice (some ad163) ah.length am] 25 (0,0)) (by (with_reducible repeat (first|refine aa ?_ _|refine ac ?_|refine a9 ?_ _));exact cE.out)):dO ≠ du));have n6_:=zzA ((by rw [hg];exact Nat.ne_of_gt (aJ (g:=dO) (o:=.cells #[.slice ax ai.length ap,.slice (some ad163) ah.length am] 25 (0,0)) (by (with_reducible repeat (first|refine aa ?_ _|refine ac ?_|refine a9 ?_ _));exact cE.out)):du ≠ dO));clear cE;clear HB;have cE:=n0_;have HB:=n1_;have cq:=n2_;have GW164:=n3_;have GE164:=n4_;have NB161_164:=n5_;have NB164_161:=n6_;clear n0_ n1_ n2_ n3_ n4_ n5_ n6_;clear hb hbox hg;have hnb19:=NB164_161.out;have hnc19:=NB161_164.out;have j8:w18.cell? ⟨du,0,none⟩=some (.int .i64 0):=(a8 cq.out 0).trans rfl;have j9:w18.cell? ⟨du,1,none⟩=some (.int .i64 0):=(a8 cq.out 1).trans rfl;have hcz20_2:w18.cell? ⟨du,2,none⟩=some (.slice none 0 0):=(a8 cq.out 2).trans rfl;have hcz20_3:w18.cell? ⟨du,3,none⟩=some (.slice none 0 0):=(a8 cq.out 3).trans rfl;have ja:=ab cq.out 0;have jb:=ab cq.out 1;have hfz20_2:=ab cq.out 2;have hfz20_3:=ab cq.out 3))
           (try simp only [Act.put,zzB,zzC,zzD])
           go_cut [52] (fun v52 wc=>∃ (kq:Nat) (x52_15:Bool),v52=.bool x52_15∧Aside0 (fastiref15_short.j3 kq x4_3 x52_15 ai ah ((aj ah x4_3).f0) ((aj ah x4_3).f1) ((aj ah x4_3).f2) ((aj ah x4_3).f3)=some r)∧Aside0 (kq≤k3)∧Aside0 (wc.heap[dO]?=some (.cells #[(.slice ax ai.length ap),(.slice (some ad163) ah.length am)] 25 (0,0)))∧Aside0 (wc.heap[du]?=some (.cells #[.int .i64 ((aj ah x4_3).f0),.int .i64 ((aj ah x4_3).f1),(.slice kE ((aj ah x4_3).f2).length kF),(.slice A163_3 ((aj ah x4_3).f3).length c163_3)] 49 (0,0)))∧Aside0 (Below w.heap.size w wc))
           case first =>
            have H:=HC16.out
            clear HC16
            by_cases c21:(((aj ah x4_3).f2).length:Int) > 12
            ·rw [if_pos c21] at H
             have jM:decide (12 < (((aj ah x4_3).f2).length:Int))=true:=zzG c21
             have c21b1:decide (12 < ((aj ah x4_3).f2).length)=true:=zzG (by omega)
             clear c21
             (first|rw [jM]|(simp only [av,aw];rw [jM])|skip)
             have H':=zzA H
             clear H
             have hnb22:=NB164_161.out
             have hnc22:=NB161_164.out
             have jc:w18.cell? ⟨du,0,none⟩=some (.int .i64 0):=(a8 cq.out 0).trans rfl
             have jd:w18.cell? ⟨du,1,none⟩=some (.int .i64 0):=(a8 cq.out 1).trans rfl
             have hcz23_2:w18.cell? ⟨du,2,none⟩=some (.slice none 0 0):=(a8 cq.out 2).trans rfl
             have hcz23_3:w18.cell? ⟨du,3,none⟩=some (.slice none 0 0):=(a8 cq.out 3).trans rfl
             have je:=ab cq.out 0
             have jf:=ab cq.out 1
             have hfz23_2:=ab cq.out 2
             have hfz23_3:=ab cq.out 3
             go_wp2
             go_meet
             case rel=>exact ⟨_,(true),(by first|rfl|(simp;done)|(simp [*];done)),H',⟨by have:=HJ1.out;have:=HK2.out;have:=HK3.out;first|omega|exact Nat.le_refl _⟩,⟨by (with_reducible repeat (first|refine aa ?_ _|refine ac ?_|refine a9 ?_ _));refine aV ?_ NB161_164.out _;(with_reducible repeat (first|refine aa ?_ _|refine ac ?_|refine a9 ?_ _));refine aV ?_ NB161_164.out _;(with_reducible repeat (first|refine aa ?_ _|refine ac ?_|refine a9 ?_ _));refine aV ?_ NB161_164.out _;(with_reducible repeat (first|refine aa ?_ _|refine ac ?_|refine a9 ?_ _));refine aV ?_ NB161_164.out _;(with_reducible repeat (first|refine aa ?_ _|refine ac ?_|refine a9 ?_ _));exact cE.out⟩,⟨by (with_reducible repeat (first|refine aa ?_ _|refine ac ?_|refine a9 ?_ _));refine aN (cs:=#[.int .i64 ((aj ah x4_3).f0),.int .i64 ((aj ah x4_3).f1),.slice kE ((aj ah x4_3).f2).length kF,.slice none 0 0]) ?_ 3 _ rfl;(with_reducible repeat (first|refine aa ?_ _|refine ac ?_|refine a9 ?_ _));refine aN (cs:=#[.int .i64 ((aj ah x4_3).f0),.int .i64 ((aj ah x4_3).f1),.slice none 0 0,.slice none 0 0]) ?_ 2 _ rfl;(with_reducible repeat (first|refine aa ?_ _|refine ac ?_|refine a9 ?_ _));refine aN (cs:=#[.int .i64 ((aj ah x4_3).f0),.int .i64 0,.slice none 0 0,.slice none 0 0]) ?_ 1 _ rfl;(with_reducible repeat (first|refine aa ?_ _|refine ac ?_|refine a9 ?_ _));refine aN (cs:=#[.int .i64 0,.int .i64 0,.slice none 0 0,.slice none 0 0]) ?_ 0 _ rfl;(with_reducible repeat (first|refine aa ?_ _|refine ac ?_|refine a9 ?_ _));exact cq.out⟩,⟨by repeat (first|(with_reducible first|exact HB.out|apply a6|apply a4|apply a5|refine a7 ?_ fZ.out|refine a7 ?_ GE164.out)|exact HB.out)⟩⟩
            ·rw [if_neg c21] at H
             have jM:decide (12 < (((aj ah x4_3).f2).length:Int))=false:=zzH c21
             have c21b1:decide (12 < ((aj ah x4_3).f2).length)=false:=zzH (by omega)
             clear c21
             (first|rw [jM]|(simp only [av,aw];rw [jM])|skip)
             have H':=zzA H
             clear H
             have hnb24:=NB164_161.out
             have hnc24:=NB161_164.out
             have kK:w18.cell? ⟨du,0,none⟩=some (.int .i64 0):=(a8 cq.out 0).trans rfl
             have kL:w18.cell? ⟨du,1,none⟩=some (.int .i64 0):=(a8 cq.out 1).trans rfl
             have hcz25_2:w18.cell? ⟨du,2,none⟩=some (.slice none 0 0):=(a8 cq.out 2).trans rfl
             have hcz25_3:w18.cell? ⟨du,3,none⟩=some (.slice none 0 0):=(a8 cq.out 3).trans rfl
             have kM:=ab cq.out 0
             have kN:=ab cq.out 1
             have hfz25_2:=ab cq.out 2
             have hfz25_3:=ab cq.out 3
             go_wp2
             go_meet
             case rel=>exact ⟨_,(decide ((((aj ah x4_3).f3).length:Int) > 256)),(by first|rfl|(simp;done)|(simp [*];done)),H',⟨by have:=HJ1.out;have:=HK2.out;have:=HK3.out;first|omega|exact Nat.le_refl _⟩,⟨by (with_reducible repeat (first|refine aa ?_ _|refine ac ?_|refine a9 ?_ _));refine aV ?_ NB161_164.out _;(with_reducible repeat (first|refine aa ?_ _|refine ac ?_|refine a9 ?_ _));refine aV ?_ NB161_164.out _;(with_reducible repeat (first|refine aa ?_ _|refine ac ?_|refine a9 ?_ _));refine aV ?_ NB161_164.out _;(with_reducible repeat (first|refine aa ?_ _|refine ac ?_|refine a9 ?_ _));refine aV ?_ NB161_164.out _;(with_reducible repeat (first|refine aa ?_ _|refine ac ?_|refine a9 ?_ _));exact cE.out⟩,⟨by (with_reducible repeat (first|refine aa ?_ _|refine ac ?_|refine a9 ?_ _));refine aN (cs:=#[.int .i64 ((aj ah x4_3).f0),.int .i64 ((aj ah x4_3).f1),.slice kE ((aj ah x4_3).f2).length kF,.slice none 0 0]) ?_ 3 _ rfl;(with_reducible repeat (first|refine aa ?_ _|refine ac ?_|refine a9 ?_ _));refine aN (cs:=#[.int .i64 ((aj ah x4_3).f0),.int .i64 ((aj ah x4_3).f1),.slice none 0 0,.slice none 0 0]) ?_ 2 _ rfl;(with_reducible repeat (first|refine aa ?_ _|refine ac ?_|refine a9 ?_ _));refine aN (cs:=#[.int .i64 ((aj ah x4_3).f0),.int .i64 0,.slice none 0 0,.slice none 0 0]) ?_ 1 _ rfl;(with_reducible repeat (first|refine aa ?_ _|refine ac ?_|refine a9 ?_ _));refine aN (cs:=#[.int .i64 0,.int .i64 0,.slice none 0 0,.slice none 0 0]) ?_ 0 _ rfl;(with_reducible repeat (first|refine aa ?_ _|refine ac ?_|refine a9 ?_ _));exact cq.out⟩,⟨by repeat (first|(with_reducible first|exact HB.out|apply a6|apply a4|apply a5|refine a7 ?_ fZ.out|refine a7 ?_ GE164.out)|exact HB.out)⟩⟩
           case rest =>
            clear HC16
            try clear c1;try clear p1;try clear q1;try clear hx1;try clear c2;try clear p2;try clear c4;try clear f8;try clear c4b1;try clear p6;try clear c7;try clear c8;try clear c8b0;try clear c9;try clear c9b0;try clear c10;try clear iG;try clear c10b1;try clear c14;try clear c14b0;try clear c15;try clear c15b0;try clear c16;try clear p16;try clear q16;try clear hx16;try clear c19;try clear c21;try clear jM;try clear c21b1;try clear c22;try clear c24;try clear cJ;try clear cK;try clear dd;try clear de;try clear e8;try clear ec;try clear fG;try clear fH;try clear j8;try clear j9;try clear hcz20_2;try clear hcz20_3;try clear jc;try clear jd;try clear hcz23_2;try clear hcz23_3;try clear kK;try clear kL;try clear hcz25_2;try clear hcz25_3;try clear fV;try clear fW;try clear ez;try clear eA;try clear cL;try clear cM;try clear df;try clear dg;try clear ed;try clear ee;try clear fJ;try clear fK;try clear ja;try clear jb;try clear hfz20_2;try clear hfz20_3;try clear je;try clear jf;try clear hfz23_2;try clear hfz23_3;try clear kM;try clear kN;try clear hfz25_2;try clear hfz25_3;try clear fX;try clear fY;try clear eB;try clear eC;try clear fk;try clear kG;try clear kH;try clear kI;try clear kJ;try clear p162;try clear p163;try clear q162;try clear q163
            obtain ⟨kq,x52_15,rfl,HA,HJ15,cE,cq,HB⟩:=hcut
            cases kq with
            | zero=>exact absurd HA.out (by simp [fastiref15_short.j3])
            | succ kj15 =>
             have H:=HA.out
             clear HA
             simp only [fastiref15_short.j3] at H
             by_cases c26:x52_15=true
             ·subst c26
              have H1:(some false)=some r:=by rw [if_pos rfl] at H;exact H
              clear H
              have H:=H1
              clear H1
              obtain rfl:=Option.some.inj H
              go_wp2
              go_ret
              exact ⟨by first|rfl|(simp [ak,al] <;> rfl)|(simp [*,ak,al] <;> rfl),by repeat (first|(with_reducible first|exact HB.out|apply a6|apply a4|apply a5|refine a7 ?_ fZ.out|refine a7 ?_ GE164.out)|exact HB.out)⟩
             ·replace c26:=Bool.eq_false_iff.mpr c26
              subst c26
              have H1:(fastiref15_short.l2 kj15 x4_3 0 ai ah ((aj ah x4_3).f0) ((aj ah x4_3).f1) ((aj ah x4_3).f2) ((aj ah x4_3).f3))=some r:=by rw [if_neg (show ¬ (false=true) by decide)] at H;exact H
              clear H
              have H:=H1
              clear H1
              have H':=zzA H
              clear H
              go_wp2
              go_loopg [6] kj15 (fun kq v6 w'=>∃ (x6_5:Int),v6=.int .i64 x6_5∧Aside0 (fastiref15_short.l2 kq x4_3 x6_5 ai ah ((aj ah x4_3).f0) ((aj ah x4_3).f1) ((aj ah x4_3).f2) ((aj ah x4_3).f3)=some r)∧Aside0 (kq≤kj15)∧Aside0 (w'.heap[dO]?=some (.cells #[(.slice ax ai.length ap),(.slice (some ad163) ah.length am)] 25 (0,0)))∧Aside0 (w'.heap[du]?=some (.cells #[.int .i64 ((aj ah x4_3).f0),.int .i64 ((aj ah x4_3).f1),(.slice kE ((aj ah x4_3).f2).length kF),(.slice A163_3 ((aj ah x4_3).f3).length c163_3)] 49 (0,0)))∧Aside0 (Below w.heap.size w w'))
              case atStart=>exact ⟨(0),(by first|rfl|(simp;done)|(simp [*];done)),H',⟨Nat.le_refl _⟩,⟨by (with_reducible repeat (first|refine aa ?_ _|refine ac ?_|refine a9 ?_ _));exact cE.out⟩,⟨by (with_reducible repeat (first|refine aa ?_ _|refine ac ?_|refine a9 ?_ _));exact cq.out⟩,⟨by repeat (first|(with_reducible first|exact HB.out|apply a6|apply a4|apply a5|refine a7 ?_ fZ.out|refine a7 ?_ GE164.out)|exact HB.out)⟩⟩
              case round =>
               clear H'
               try clear c1;try clear p1;try clear q1;try clear hx1;try clear c2;try clear p2;try clear c4;try clear f8;try clear c4b1;try clear p6;try clear c7;try clear c8;try clear c8b0;try clear c9;try clear c9b0;try clear c10;try clear iG;try clear c10b1;try clear c14;try clear c14b0;try clear c15;try clear c15b0;try clear c16;try clear p16;try clear q16;try clear hx16;try clear c19;try clear c21;try clear jM;try clear c21b1;try clear c22;try clear c24;try clear c26;try clear cJ;try clear cK;try clear dd;try clear de;try clear e8;try clear ec;try clear fG;try clear fH;try clear j8;try clear j9;try clear hcz20_2;try clear hcz20_3;try clear jc;try clear jd;try clear hcz23_2;try clear hcz23_3;try clear kK;try clear kL;try clear hcz25_2;try clear hcz25_3;try clear fV;try clear fW;try clear ez;try clear eA;try clear cL;try clear cM;try clear df;try clear dg;try clear ed;try clear ee;try clear fJ;try clear fK;try clear ja;try clear jb;try clear hfz20_2;try clear hfz20_3;try clear je;try clear jf;try clear hfz23_2;try clear hfz23_3;try clear kM;try clear kN;try clear hfz25_2;try clear hfz25_3;try clear fX;try clear fY;try clear eB;try clear eC;try clear fk;try clear kG;try clear kH;try clear kI;try clear kJ;try clear p162;try clear p163;try clear q162;try clear q163
               obtain ⟨x6_5,rfl,HA,HK5,cE,cq,HB⟩:=hrel
               cases gk with
               | zero=>exact absurd HA.out (by simp [fastiref15_short.l2])
               | succ k5 =>
                have H:=HA.out
                clear HA
                simp only [fastiref15_short.l2] at H
                by_cases c27:x6_5 < (((aj ah x4_3).f3).length:Int)
                ·rw [if_pos c27] at H
                 have c27b0:decide (x6_5 < (((aj ah x4_3).f3).length:Int))=true:=zzG c27
                 clear c27
                 by_cases c28:0≤x6_5
                 ·rw [if_pos c28] at H
                  have c28b0:decide (0≤x6_5)=true:=zzG c28
                  clear c28
                  by_cases c29:((ao ((aj ah x4_3).f3) x6_5).length:Int) > 12
                  ·rw [if_pos c29] at H
                   have c29b0:decide (12 < ((ao ((aj ah x4_3).f3) x6_5).length:Int))=true:=zzG c29
                   have c29b1:decide (12 < (ao ((aj ah x4_3).f3) x6_5).length)=true:=zzG (by omega)
                   clear c29
                   obtain rfl:=Option.some.inj H
                   have hnb30:=NB164_161.out
                   have hnc30:=NB161_164.out
                   have hcz31_0:wr.cell? ⟨du,0,none⟩=some (.int .i64 ((aj ah x4_3).f0)):=(a8 cq.out 0).trans rfl
                   have hcz31_1:wr.cell? ⟨du,1,none⟩=some (.int .i64 ((aj ah x4_3).f1)):=(a8 cq.out 1).trans rfl
                   have hcz31_2:wr.cell? ⟨du,2,none⟩=some (.slice kE ((aj ah x4_3).f2).length kF):=(a8 cq.out 2).trans rfl
                   have hcz31_3:wr.cell? ⟨du,3,none⟩=some (.slice A163_3 ((aj ah x4_3).f3).length c163_3):=(a8 cq.out 3).trans rfl
                   have hfz31_0:=ab cq.out 0
                   have hfz31_1:=ab cq.out 1
                   have hfz31_2:=ab cq.out 2
                   have hfz31_3:=ab cq.out 3
                   have p165:0≤(x6_5:Int):=zzF (by first|(with_reducible assumption)|assumption)
                   have q165:x6_5 < (((aj ah x4_3).f3).length:Int):=zzF (by first|(with_reducible assumption)|assumption)
                   obtain ⟨ad165,A165_0,c165_0,e165,gQ,kO,kP⟩:=et HR163_3.out x6_5 p165 q165
                   cases e165
                   replace gQ:=(HB.out.cell (zzE w _ gQ)).trans gQ
                   have HR165_0:=zzA kP
                   have HC165_0:=zzA kO
                   clear kP kO
                   replace p165:=eq_true p165
                   replace q165:=eq_true q165
                   go_wp2
                   go_ret
                   exact ⟨by first|rfl|(simp [ak,al] <;> rfl)|(simp [*,ak,al] <;> rfl),by repeat (first|(with_reducible first|exact HB.out|apply a6|apply a4|apply a5|refine a7 ?_ fZ.out|refine a7 ?_ GE164.out)|exact HB.out)⟩
                  ·rw [if_neg c29] at H
                   have c29b0:decide (12 < ((ao ((aj ah x4_3).f3) x6_5).length:Int))=false:=zzH c29
                   have c29b1:decide (12 < (ao ((aj ah x4_3).f3) x6_5).length)=false:=zzH (by omega)
                   clear c29
                   have H':=zzA H
                   clear H
                   have hnb32:=NB164_161.out
                   have hnc32:=NB161_164.out
                   have kQ:wr.cell? ⟨du,0,none⟩=some (.int .i64 ((aj ah x4_3).f0)):=(a8 cq.out 0).trans rfl
                   have kR:wr.cell? ⟨du,1,none⟩=some (.int .i64 ((aj ah x4_3).f1)):=(a8 cq.out 1).trans rfl
                   have hcz33_2:wr.cell? ⟨du,2,none⟩=some (.slice kE ((aj ah x4_3).f2).length kF):=(a8 cq.out 2).trans rfl
                   have hcz33_3:wr.cell? ⟨du,3,none⟩=some (.slice A163_3 ((aj ah x4_3).f3).length c163_3):=(a8 cq.out 3).trans rfl
                   have kS:=ab cq.out 0
                   have kT:=ab cq.out 1
                   have hfz33_2:=ab cq.out 2
                   have hfz33_3:=ab cq.out 3
                   have p165:0≤(x6_5:Int):=zzF (by first|(with_reducible assumption)|assumption)
                   have q165:x6_5 < (((aj ah x4_3).f3).length:Int):=zzF (by first|(with_reducible assumption)|assumption)
                   obtain ⟨ad165,A165_0,c165_0,e165,gQ,kO,kP⟩:=et HR163_3.out x6_5 p165 q165
                   cases e165
                   replace gQ:=(HB.out.cell (zzE w _ gQ)).trans gQ
                   have HR165_0:=zzA kP
                   have HC165_0:=zzA kO
                   clear kP kO
                   replace p165:=eq_true p165
                   replace q165:=eq_true q165
                   go_wp2
                   go_roundg k5
                   case measure=>have:=HJ1.out;have:=HK2.out;have:=HK3.out;have:=HJ15.out;have:=HK5.out;omega
                   case rel=>exact ⟨(wrap64 (x6_5+1)),(by first|rfl|(simp;done)|(simp [*];done)),H',⟨by have:=HJ1.out;have:=HK2.out;have:=HK3.out;have:=HJ15.out;have:=HK5.out;omega⟩,⟨by (with_reducible repeat (first|refine aa ?_ _|refine ac ?_|refine a9 ?_ _));exact cE.out⟩,⟨by (with_reducible repeat (first|refine aa ?_ _|refine ac ?_|refine a9 ?_ _));exact cq.out⟩,⟨by repeat (first|(with_reducible first|exact HB.out|apply a6|apply a4|apply a5|refine a7 ?_ fZ.out|refine a7 ?_ GE164.out)|exact HB.out)⟩⟩
                 ·rw [if_neg c28] at H
                  exact absurd H (by simp)
                ·rw [if_neg c27] at H
                 have c27b0:decide (x6_5 < (((aj ah x4_3).f3).length:Int))=false:=zzH c27
                 clear c27
                 have H':=zzA H
                 clear H
                 have hnb34:=NB164_161.out
                 have hnc34:=NB161_164.out
                 have hcz35_0:wr.cell? ⟨du,0,none⟩=some (.int .i64 ((aj ah x4_3).f0)):=(a8 cq.out 0).trans rfl
                 have hcz35_1:wr.cell? ⟨du,1,none⟩=some (.int .i64 ((aj ah x4_3).f1)):=(a8 cq.out 1).trans rfl
                 have hcz35_2:wr.cell? ⟨du,2,none⟩=some (.slice kE ((aj ah x4_3).f2).length kF):=(a8 cq.out 2).trans rfl
                 have hcz35_3:wr.cell? ⟨du,3,none⟩=some (.slice A163_3 ((aj ah x4_3).f3).length c163_3):=(a8 cq.out 3).trans rfl
                 have hfz35_0:=ab cq.out 0
                 have hfz35_1:=ab cq.out 1
                 have hfz35_2:=ab cq.out 2
                 have hfz35_3:=ab cq.out 3
                 go_wp2
                 go_roundg k5
                 case measure=>have:=HJ1.out;have:=HK2.out;have:=HK3.out;have:=HJ15.out;have:=HK5.out;omega
                 case rel=>exact ⟨(wrap64 (x4_3+1)),(by first|rfl|(simp;done)|(simp [*];done)),H',⟨by have:=HJ1.out;have:=HK2.out;have:=HK3.out;have:=HJ15.out;have:=HK5.out;omega⟩,⟨by (with_reducible repeat (first|refine aa ?_ _|refine ac ?_|refine a9 ?_ _));exact cE.out⟩,⟨by repeat (first|(with_reducible first|exact HB.out|apply a6|apply a4|apply a5|refine a7 ?_ fZ.out|refine a7 ?_ GE164.out)|exact HB.out)⟩⟩
          ·rw [if_neg c15] at H
           exact absurd H (by simp)
         ·rw [if_neg c14] at H
          have c14b0:decide (x4_3 < (ah.length:Int))=false:=zzH c14
          clear c14
          obtain rfl:=Option.some.inj H
          have hcz36_0:wr.cell? ⟨dO,0,none⟩=some (.slice ax ai.length ap):=(a8 cE.out 0).trans rfl
          have hcz36_1:wr.cell? ⟨dO,1,none⟩=some (.slice au ah.length am):=(a8 cE.out 1).trans rfl
          have hfz36_0:=ab cE.out 0
          have hfz36_1:=ab cE.out 1
          go_wp2
          go_ret
          exact ⟨by first|rfl|(simp [ak,al] <;> rfl)|(simp [*,ak,al] <;> rfl),by repeat (first|(with_reducible first|exact HB.out|apply a6|apply a4|apply a5|refine a7 ?_ fZ.out)|exact HB.out)⟩
def fastiref15_Tries.l0:Nat→Int→Int→List (List Int)→List (S49)→Option (Int)
 | 0,_,_,_,_=>none
 | k+1,x3,x4,x167000,x167001=>if x4 < (x167000.length:Int) then (if x3≤65536 then (if 0≤x4 then (fastiref15_Tries.l0 k (wrap64 (x3 * ((ao x167000 x4).length:Int))) (wrap64 (x4+1)) x167000 x167001) else (none)) else (some x3)) else (some x3)
def fastiref15_Tries.f (k:Nat) (ai:List (List Int)) (ah:List (S49)):Option (Int):=fastiref15_Tries.l0 k 1 0 ai ah
set_option maxHeartbeats 8000000 in
set_option maxRecDepth 100000 in
theorem fastiref15_Tries.calls (k:Nat) (ax:Option Addr) (ap:Nat) (ai:List (List Int)) (au:Option Addr) (am:Nat) (ah:List (S49)) (r:Int) (w:World) (bV:Kd.C (Kd.slice 3 (Kd.int .i64)) w ax ai.length ai) (bX:ai.length≤ap) (bP:Kd.C k49 w au ah.length ah) (bU:ah.length≤am) (h:fastiref15_Tries.f k ai ah=some r) :
  Calls Try.prog 30 #[.agg #[.slice ax ai.length ap,.slice au ah.length am]] w fun e w'=>e=.returned (.int .i64 r)∧Below w.heap.size w w':=by
 have hu25:=Try.underlying25
 have bz:=zzA bV
 have bH:=zzA bX
 clear bV bX
 have bq:=zzA bP
 have bF:=zzA bU
 clear bP bU
 have HB:=zzA (Below.refl w.heap.size w)
 have H:(fastiref15_Tries.l0 k 1 0 ai ah)=some r:=h
 clear h
 have H':=zzA H
 clear H
 go_enter Try.func30,Try.ntmps30
 go_wp2_with (first|((with_reducible refine ay (N:=1) rfl ?_);refine aq ?hg (N:=1) ?hd (cs:=#[.slice ax ai.length ap,.slice au ah.length am]) (t:=25) ?hr ?_;(case hd=>rfl);(case hg=>rfl);(case hr=>first|(go_simp;done)|(go_simp;rfl));intro gb166 hg w2 hbox hb;have n0_:=zzA (ag (by repeat (first|(with_reducible first|exact HB.out|apply a6|apply a4|apply a5)|exact HB.out)) hb);have n1_:=zzA (hbox);have n2_:=zzA ((by rw [hg];exact (ae (by repeat (first|(with_reducible first|exact HB.out|apply a6|apply a4|apply a5)|exact HB.out))):w.heap.size≤gb166));have n3_:=zzA ((by rw [hg];exact (ae (by repeat (first|(with_reducible first|exact HB.out|apply a6|apply a4|apply a5)|exact HB.out))):w.heap.size≤gb166));clear HB;have HB:=n0_;have gR:=n1_;have GW166:=n2_;have GE166:=n3_;clear n0_ n1_ n2_ n3_;clear hb hbox hg))
 go_loopg [3,4] k (fun kq v3 v4 w'=>∃ (x3_1:Int) (x4_1:Int),v3=.int .i64 x3_1∧v4=.int .i64 x4_1∧Aside0 (fastiref15_Tries.l0 kq x3_1 x4_1 ai ah=some r)∧Aside0 (kq≤k)∧Aside0 (w'.heap[gb166]?=some (.cells #[(.slice ax ai.length ap),(.slice au ah.length am)] 25 (0,0)))∧Aside0 (Below w.heap.size w w'))
 case atStart=>exact ⟨(1),(0),(by first|rfl|(simp;done)|(simp [*];done)),(by first|rfl|(simp;done)|(simp [*];done)),H',⟨Nat.le_refl _⟩,⟨by (with_reducible repeat (first|refine aa ?_ _|refine ac ?_|refine a9 ?_ _));exact gR.out⟩,⟨by repeat (first|(with_reducible first|exact HB.out|apply a6|apply a4|apply a5|refine a7 ?_ GE166.out)|exact HB.out)⟩⟩
 case round =>
  clear H'
  try clear p2
  obtain ⟨x3_1,x4_1,rfl,rfl,HA,HK1,gR,HB⟩:=hrel
  cases gk with
  | zero=>exact absurd HA.out (by simp [fastiref15_Tries.l0])
  | succ k1 =>
   have H:=HA.out
   clear HA
   simp only [fastiref15_Tries.l0] at H
   by_cases c3:x4_1 < (ai.length:Int)
   ·rw [if_pos c3] at H
    have kA:decide (x4_1 < (ai.length:Int))=true:=zzG c3
    clear c3
    by_cases c4:x3_1≤65536
    ·rw [if_pos c4] at H
     have f8:decide (x3_1≤65536)=true:=zzG c4
     clear c4
     by_cases c5:0≤x4_1
     ·rw [if_pos c5] at H
      have jU:decide (0≤x4_1)=true:=zzG c5
      clear c5
      have H':=zzA H
      clear H
      have ez:wr.cell? ⟨gb166,0,none⟩=some (.slice ax ai.length ap):=(a8 gR.out 0).trans rfl
      have eA:wr.cell? ⟨gb166,1,none⟩=some (.slice au ah.length am):=(a8 gR.out 1).trans rfl
      have eB:=ab gR.out 0
      have eC:=ab gR.out 1
      have p167:0≤(x4_1:Int):=zzF (by first|(with_reducible assumption)|assumption)
      have q167:x4_1 < (ai.length:Int):=zzF (by first|(with_reducible assumption)|assumption)
      obtain ⟨ad167,A167_0,c167_0,e167,hx167_0,hl167_0,hi167_0⟩:=et bz.out x4_1 p167 q167
      cases e167
      replace hx167_0:=(HB.out.cell (zzE w _ hx167_0)).trans hx167_0
      have HR167_0:=zzA hi167_0
      have HC167_0:=zzA hl167_0
      clear hi167_0 hl167_0
      replace p167:=eq_true p167
      replace q167:=eq_true q167
      go_wp2
      go_roundg k1
      case measure=>have:=HK1.out;omega
      case rel=>exact ⟨(wrap64 (x3_1 * ((ao ai x4_1).length:Int))),(wrap64 (x4_1+1)),(by first|rfl|(simp;done)|(simp [*];done)),(by first|rfl|(simp;done)|(simp [*];done)),H',⟨by have:=HK1.out;omega⟩,⟨by (with_reducible repeat (first|refine aa ?_ _|refine ac ?_|refine a9 ?_ _));exact gR.out⟩,⟨by repeat (first|(with_reducible first|exact HB.out|apply a6|apply a4|apply a5|refine a7 ?_ GE166.out)|exact HB.out)⟩⟩
     ·rw [if_neg c5] at H
      exact absurd H (by simp)
    ·rw [if_neg c4] at H
     have f8:decide (x3_1≤65536)=false:=zzH c4
     clear c4
     obtain rfl:=Option.some.inj H
     have iH:wr.cell? ⟨gb166,0,none⟩=some (.slice ax ai.length ap):=(a8 gR.out 0).trans rfl
     have iI:wr.cell? ⟨gb166,1,none⟩=some (.slice au ah.length am):=(a8 gR.out 1).trans rfl
     have iJ:=ab gR.out 0
     have iK:=ab gR.out 1
     go_wp2
     go_ret
     exact ⟨by first|rfl|(simp [ak,al] <;> rfl)|(simp [*,ak,al] <;> rfl),by repeat (first|(with_reducible first|exact HB.out|apply a6|apply a4|apply a5|refine a7 ?_ GE166.out)|exact HB.out)⟩
   ·rw [if_neg c3] at H
    have kA:decide (x4_1 < (ai.length:Int))=false:=zzH c3
    clear c3
    obtain rfl:=Option.some.inj H
    have eD:wr.cell? ⟨gb166,0,none⟩=some (.slice ax ai.length ap):=(a8 gR.out 0).trans rfl
    have eE:wr.cell? ⟨gb166,1,none⟩=some (.slice au ah.length am):=(a8 gR.out 1).trans rfl
    have eF:=ab gR.out 0
    have eG:=ab gR.out 1
    go_wp2
    go_ret
    exact ⟨by first|rfl|(simp [ak,al] <;> rfl)|(simp [*,ak,al] <;> rfl),by repeat (first|(with_reducible first|exact HB.out|apply a6|apply a4|apply a5|refine a7 ?_ GE166.out)|exact HB.out)⟩
def fastiref15_Few.l0:Nat→Int→List (List Int)→List (S49)→Option (Bool)
 | 0,_,_,_=>none
 | k+1,x3,x169000,kU=>if x3 < (kU.length:Int) then (if 0≤x3 then (if (((aj kU x3).f3).length:Int) > 20 then (some false) else (fastiref15_Few.l0 k (wrap64 (x3+1)) x169000 kU)) else (none)) else ((fastiref15_Tries.f k x169000 kU).bind fun t171=>(if t171≤256 then (some true) else ((fastiref15_Tries.f k x169000 kU).bind fun t172=>(some (decide (t172 > 65536))))))
def fastiref15_Few.f (k:Nat) (ai:List (List Int)) (ah:List (S49)):Option (Bool):=(fastiref15_short.f k ai ah).bind fun t169=>(if t169=true then (if (ah.length:Int) > 8 then (some false) else (fastiref15_Few.l0 k 0 ai ah)) else (if (ai.length:Int)≤100 then (some (decide ((ah.length:Int)≤100))) else (some false)))
set_option maxHeartbeats 8000000 in
set_option maxRecDepth 100000 in
theorem fastiref15_Few.calls (k:Nat) (ax:Option Addr) (ap:Nat) (ai:List (List Int)) (au:Option Addr) (am:Nat) (ah:List (S49)) (r:Bool) (w:World) (bV:Kd.C (Kd.slice 3 (Kd.int .i64)) w ax ai.length ai) (bX:ai.length≤ap) (bP:Kd.C k49 w au ah.length ah) (bU:ah.length≤am) (h:fastiref15_Few.f k ai ah=some r) :
  Calls Try.prog 12 #[.agg #[.slice ax ai.length ap,.slice au ah.length am]] w fun e w'=>e=.returned (.bool r)∧Below w.heap.size w w':=by
 have hu25:=Try.underlying25
 have bz:=zzA bV
 have bH:=zzA bX
 clear bV bX
 have bq:=zzA bP
 have bF:=zzA bU
 clear bP bU
 have HB:=zzA (Below.refl w.heap.size w)
 have H:((fastiref15_short.f k ai ah).bind fun t169=>(if t169=true then (if (ah.length:Int) > 8 then (some false) else (fastiref15_Few.l0 k 0 ai ah)) else (if (ai.length:Int)≤100 then (some (decide ((ah.length:Int)≤100))) else (some false))))=some r:=h
 clear h
 replace H:=Option.bind_eq_some_iff.mp H
 obtain ⟨t169,A20,H⟩:=H
 replace H:(if t169=true then (if (ah.length:Int) > 8 then (some false) else (fastiref15_Few.l0 k 0 ai ah)) else (if (ai.length:Int)≤100 then (some (decide ((ah.length:Int)≤100))) else (some false)))=some r:=H
 have A2:=zzA A20
 clear A20
 by_cases c3:t169=true
 ·subst c3
  have H1:(if (ah.length:Int) > 8 then (some false) else (fastiref15_Few.l0 k 0 ai ah))=some r:=by rw [if_pos rfl] at H;exact H
  clear H
  have H:=H1
  clear H1
  by_cases c4:(ah.length:Int) > 8
  ·rw [if_pos c4] at H
   have f8:decide (8 < (ah.length:Int))=true:=zzG c4
   have c4b1:decide (8 < ah.length)=true:=zzG (by omega)
   clear c4
   obtain rfl:=Option.some.inj H
   go_enter Try.func12,Try.ntmps12
   go_wp2_with (first|((with_reducible refine ay (N:=1) rfl ?_);(try (refine aI (by rfl) ?_;dsimp only));refine aq ?hg (N:=1) ?hd (cs:=#[.slice ax ai.length ap,.slice au ah.length am]) (t:=25) ?hr ?_;(case hd=>rfl);(case hg=>rfl);(case hr=>first|(go_simp;done)|(go_simp;rfl));intro cN hg w5 hbox hb;have n0_:=zzA (ag (by repeat (first|(with_reducible first|exact HB.out|apply a6|apply a4|apply a5)|exact HB.out)) hb);have n1_:=zzA (hbox);have n2_:=zzA ((by rw [hg];exact (ae (by repeat (first|(with_reducible first|exact HB.out|apply a6|apply a4|apply a5)|exact HB.out))):w.heap.size≤cN));have n3_:=zzA ((by rw [hg];exact (ae (by repeat (first|(with_reducible first|exact HB.out|apply a6|apply a4|apply a5)|exact HB.out))):w.heap.size≤cN));clear HB;have HB:=n0_;have bD:=n1_;have GW168:=n2_;have g8:=n3_;clear n0_ n1_ n2_ n3_;clear hb hbox hg;have ez:w5.cell? ⟨cN,0,none⟩=some (.slice ax ai.length ap):=(a8 bD.out 0).trans rfl;have eA:w5.cell? ⟨cN,1,none⟩=some (.slice au ah.length am):=(a8 bD.out 1).trans rfl;have eB:=ab bD.out 0;have eC:=ab bD.out 1)|((with_reducible refine ar (f:=29) rfl ?_);refine bi (some 5) rfl rfl Try.func29 (by kernel_rfl) rfl #[.agg #[.slice ax ai.length ap,.slice au ah.length am]] rfl (by (try simp only [List.map_toArray,List.map_cons,List.map_nil]);first|done|rfl|(simp only [List.length_drop,List.length_take];rfl)) ?_;(with_reducible refine (fastiref15_short.calls k _ _ ai _ _ ah true _ ?side1 ?side2 ?side3 ?side4 A2.out).mono ?_);(case side1=>repeat (first|exact (zzI bz.out HB.out)|(with_reducible refine Kd.C_alloc ?_ _)|(with_reducible refine Kd.C_drewN ?_ _)|(with_reducible refine Kd.C_drew ?_)));(case side2=>exact bH.out);(case side3=>repeat (first|exact (zzI bq.out HB.out)|(with_reducible refine Kd.C_alloc ?_ _)|(with_reducible refine Kd.C_drewN ?_ _)|(with_reducible refine Kd.C_drew ?_)));(case side4=>exact bF.out);rintro e w7 ⟨rfl,hb⟩;refine ⟨_,rfl,?_⟩;have n0_:=zzA (af (g:=cN) (o:=.cells #[.slice ax ai.length ap,.slice au ah.length am] 25 (0,0)) (by (with_reducible repeat (first|refine aa ?_ _|refine ac ?_|refine a9 ?_ _));exact bD.out) hb);have n1_:=zzA (ag (by repeat (first|(with_reducible first|exact HB.out|apply a6|apply a4|apply a5|refine a7 ?_ g8.out)|exact HB.out)) hb);clear bD;clear HB;have bD:=n0_;have HB:=n1_;clear n0_ n1_;(try clear hb);(try clear hb2);(try clear hk);(try clear hi);have eD:w7.cell? ⟨cN,0,none⟩=some (.slice ax ai.length ap):=(a8 bD.out 0).trans rfl;have eE:w7.cell? ⟨cN,1,none⟩=some (.slice au ah.length am):=(a8 bD.out 1).trans rfl;have eF:=ab bD.out 0;have eG:=ab bD.out 1))
   go_ret
   exact ⟨by first|rfl|(simp [ak,al] <;> rfl)|(simp [*,ak,al] <;> rfl),by repeat (first|(with_reducible first|exact HB.out|apply a6|apply a4|apply a5|refine a7 ?_ g8.out)|exact HB.out)⟩
  ·rw [if_neg c4] at H
   have f8:decide (8 < (ah.length:Int))=false:=zzH c4
   have c4b1:decide (8 < ah.length)=false:=zzH (by omega)
   clear c4
   have H':=zzA H
   clear H
   go_enter Try.func12,Try.ntmps12
   go_wp2_with (first|((with_reducible refine ay (N:=1) rfl ?_);(try (refine aI (by rfl) ?_;dsimp only));refine aq ?hg (N:=1) ?hd (cs:=#[.slice ax ai.length ap,.slice au ah.length am]) (t:=25) ?hr ?_;(case hd=>rfl);(case hg=>rfl);(case hr=>first|(go_simp;done)|(go_simp;rfl));intro cN hg w9 hbox hb;have n0_:=zzA (ag (by repeat (first|(with_reducible first|exact HB.out|apply a6|apply a4|apply a5)|exact HB.out)) hb);have n1_:=zzA (hbox);have n2_:=zzA ((by rw [hg];exact (ae (by repeat (first|(with_reducible first|exact HB.out|apply a6|apply a4|apply a5)|exact HB.out))):w.heap.size≤cN));have n3_:=zzA ((by rw [hg];exact (ae (by repeat (first|(with_reducible first|exact HB.out|apply a6|apply a4|apply a5)|exact HB.out))):w.heap.size≤cN));clear HB;have HB:=n0_;have bD:=n1_;have GW168:=n2_;have g8:=n3_;clear n0_ n1_ n2_ n3_;clear hb hbox hg;have ef:w9.cell? ⟨cN,0,none⟩=some (.slice ax ai.length ap):=(a8 bD.out 0).trans rfl;have eh:w9.cell? ⟨cN,1,none⟩=some (.slice au ah.length am):=(a8 bD.out 1).trans rfl;have ei:=ab bD.out 0;have ej:=ab bD.out 1)|((with_reducible refine ar (f:=29) rfl ?_);refine bi (some 5) rfl rfl Try.func29 (by kernel_rfl) rfl #[.agg #[.slice ax ai.length ap,.slice au ah.length am]] rfl (by (try simp only [List.map_toArray,List.map_cons,List.map_nil]);first|done|rfl|(simp only [List.length_drop,List.length_take];rfl)) ?_;(with_reducible refine (fastiref15_short.calls k _ _ ai _ _ ah true _ ?side1 ?side2 ?side3 ?side4 A2.out).mono ?_);(case side1=>repeat (first|exact (zzI bz.out HB.out)|(with_reducible refine Kd.C_alloc ?_ _)|(with_reducible refine Kd.C_drewN ?_ _)|(with_reducible refine Kd.C_drew ?_)));(case side2=>exact bH.out);(case side3=>repeat (first|exact (zzI bq.out HB.out)|(with_reducible refine Kd.C_alloc ?_ _)|(with_reducible refine Kd.C_drewN ?_ _)|(with_reducible refine Kd.C_drew ?_)));(case side4=>exact bF.out);rintro e w11 ⟨rfl,hb⟩;refine ⟨_,rfl,?_⟩;have n0_:=zzA (af (g:=cN) (o:=.cells #[.slice ax ai.length ap,.slice au ah.length am] 25 (0,0)) (by (with_reducible repeat (first|refine aa ?_ _|refine ac ?_|refine a9 ?_ _));exact bD.out) hb);have n1_:=zzA (ag (by repeat (first|(with_reducible first|exact HB.out|apply a6|apply a4|apply a5|refine a7 ?_ g8.out)|exact HB.out)) hb);clear bD;clear HB;have bD:=n0_;have HB:=n1_;clear n0_ n1_;(try clear hb);(try clear hb2);(try clear hk);(try clear hi);have dd:w11.cell? ⟨cN,0,none⟩=some (.slice ax ai.length ap):=(a8 bD.out 0).trans rfl;have de:w11.cell? ⟨cN,1,none⟩=some (.slice au ah.length am):=(a8 bD.out 1).trans rfl;have df:=ab bD.out 0;have dg:=ab bD.out 1))
   go_loopg [3] k (fun kq v3 w'=>∃ (x3_1:Int),v3=.int .i64 x3_1∧Aside0 (fastiref15_Few.l0 kq x3_1 ai ah=some r)∧Aside0 (kq≤k)∧Aside0 (w'.heap[cN]?=some (.cells #[(.slice ax ai.length ap),(.slice au ah.length am)] 25 (0,0)))∧Aside0 (Below w.heap.size w w'))
   case atStart=>exact ⟨(0),(by first|rfl|(simp;done)|(simp [*];done)),H',⟨Nat.le_refl _⟩,⟨by (with_reducible repeat (first|refine aa ?_ _|refine ac ?_|refine a9 ?_ _));exact bD.out⟩,⟨by repeat (first|(with_reducible first|exact HB.out|apply a6|apply a4|apply a5|refine a7 ?_ g8.out)|exact HB.out)⟩⟩
   case round =>
    clear H'
    try clear c1;try clear c2;try clear p2;try clear c3;try clear c4;try clear f8;try clear c4b1;try clear c12;try clear ef;try clear eh;try clear dd;try clear de;try clear ez;try clear eA;try clear eD;try clear eE;try clear ei;try clear ej;try clear df;try clear dg;try clear eB;try clear eC;try clear eF;try clear eG
    obtain ⟨x3_1,rfl,HA,HK1,bD,HB⟩:=hrel
    cases gk with
    | zero=>exact absurd HA.out (by simp [fastiref15_Few.l0])
    | succ k1 =>
     have H:=HA.out
     clear HA
     simp only [fastiref15_Few.l0] at H
     by_cases c13:x3_1 < (ah.length:Int)
     ·rw [if_pos c13] at H
      have c13b0:decide (x3_1 < (ah.length:Int))=true:=zzG c13
      clear c13
      by_cases c14:0≤x3_1
      ·rw [if_pos c14] at H
       have c14b0:decide (0≤x3_1)=true:=zzG c14
       clear c14
       by_cases c15:(((aj ah x3_1).f3).length:Int) > 20
       ·rw [if_pos c15] at H
        have c15b0:decide (20 < (((aj ah x3_1).f3).length:Int))=true:=zzG c15
        have c15b1:decide (20 < ((aj ah x3_1).f3).length)=true:=zzG (by omega)
        clear c15
        obtain rfl:=Option.some.inj H
        have eH:wr.cell? ⟨cN,0,none⟩=some (.slice ax ai.length ap):=(a8 bD.out 0).trans rfl
        have eI:wr.cell? ⟨cN,1,none⟩=some (.slice au ah.length am):=(a8 bD.out 1).trans rfl
        have eJ:=ab bD.out 0
        have eK:=ab bD.out 1
        have p170:0≤(x3_1:Int):=zzF (by first|(with_reducible assumption)|assumption)
        have q170:x3_1 < (ah.length:Int):=zzF (by first|(with_reducible assumption)|assumption)
        obtain ⟨ad170,A170_2,c170_2,A170_3,c170_3,e170,gS,gT,gU,gV,kV,kW,kX,kY⟩:=ex bq.out x3_1 p170 q170
        cases e170
        replace gS:=(HB.out.cell (zzE w _ gS)).trans gS
        replace gT:=(HB.out.cell (zzE w _ gT)).trans gT
        replace gU:=(HB.out.cell (zzE w _ gU)).trans gU
        replace gV:=(HB.out.cell (zzE w _ gV)).trans gV
        have HR170_2:=zzA kW
        have HC170_2:=zzA kV
        clear kW kV
        have HR170_3:=zzA kY
        have HC170_3:=zzA kX
        clear kY kX
        replace p170:=eq_true p170
        replace q170:=eq_true q170
        go_wp2
        go_ret
        exact ⟨by first|rfl|(simp [ak,al] <;> rfl)|(simp [*,ak,al] <;> rfl),by repeat (first|(with_reducible first|exact HB.out|apply a6|apply a4|apply a5|refine a7 ?_ g8.out)|exact HB.out)⟩
       ·rw [if_neg c15] at H
        have c15b0:decide (20 < (((aj ah x3_1).f3).length:Int))=false:=zzH c15
        have c15b1:decide (20 < ((aj ah x3_1).f3).length)=false:=zzH (by omega)
        clear c15
        have H':=zzA H
        clear H
        have fG:wr.cell? ⟨cN,0,none⟩=some (.slice ax ai.length ap):=(a8 bD.out 0).trans rfl
        have fH:wr.cell? ⟨cN,1,none⟩=some (.slice au ah.length am):=(a8 bD.out 1).trans rfl
        have fJ:=ab bD.out 0
        have fK:=ab bD.out 1
        have p170:0≤(x3_1:Int):=zzF (by first|(with_reducible assumption)|assumption)
        have q170:x3_1 < (ah.length:Int):=zzF (by first|(with_reducible assumption)|assumption)
        obtain ⟨ad170,A170_2,c170_2,A170_3,c170_3,e170,gS,gT,gU,gV,kV,kW,kX,kY⟩:=ex bq.out x3_1 p170 q170
        cases e170
        replace gS:=(HB.out.cell (zzE w _ gS)).trans gS
        replace gT:=(HB.out.cell (zzE w _ gT)).trans gT
        replace gU:=(HB.out.cell (zzE w _ gU)).trans gU
        replace gV:=(HB.out.cell (zzE w _ gV)).trans gV
        have HR170_2:=zzA kW
        have HC170_2:=zzA kV
        clear kW kV
        have HR170_3:=zzA kY
        have HC170_3:=zzA kX
        clear kY kX
        replace p170:=eq_true p170
        replace q170:=eq_true q170
        go_wp2
        go_roundg k1
        case measure=>have:=HK1.out;omega
        case rel=>exact ⟨(wrap64 (x3_1+1)),(by first|rfl|(simp;done)|(simp [*];done)),H',⟨by have:=HK1.out;omega⟩,⟨by (with_reducible repeat (first|refine aa ?_ _|refine ac ?_|refine a9 ?_ _));exact bD.out⟩,⟨by repeat (first|(with_reducible first|exact HB.out|apply a6|apply a4|apply a5|refine a7 ?_ g8.out)|exact HB.out)⟩⟩
      ·rw [if_neg c14] at H
       exact absurd H (by simp)
     ·rw [if_neg c13] at H
      have c13b0:decide (x3_1 < (ah.length:Int))=false:=zzH c13
      clear c13
      replace H:=Option.bind_eq_some_iff.mp H
      obtain ⟨t171,A180,H⟩:=H
      replace H:(if t171≤256 then (some true) else ((fastiref15_Tries.f k1 ai ah).bind fun t172=>(some (decide (t172 > 65536)))))=some r:=H
      have A18:=zzA A180
      clear A180
      by_cases c19:t171≤256
      ·rw [if_pos c19] at H
       have c19b0:decide (t171≤256)=true:=zzG c19
       clear c19
       obtain rfl:=Option.some.inj H
       have j8:wr.cell? ⟨cN,0,none⟩=some (.slice ax ai.length ap):=(a8 bD.out 0).trans rfl
       have j9:wr.cell? ⟨cN,1,none⟩=some (.slice au ah.length am):=(a8 bD.out 1).trans rfl
       have ja:=ab bD.out 0
       have jb:=ab bD.out 1
       go_wp2_with (first|((with_reducible refine ar (f:=30) rfl ?_);refine bi (some 37) rfl rfl Try.func30 (by kernel_rfl) rfl #[.agg #[.slice ax ai.length ap,.slice au ah.length am]] rfl (by (try simp only [List.map_toArray,List.map_cons,List.map_nil]);first|done|rfl|(simp only [List.length_drop,List.length_take];rfl)) ?_;(with_reducible refine (fastiref15_Tries.calls k1 _ _ ai _ _ ah t171 _ ?side1 ?side2 ?side3 ?side4 A18.out).mono ?_);(case side1=>repeat (first|exact (zzI bz.out HB.out)|(with_reducible refine Kd.C_alloc ?_ _)|(with_reducible refine Kd.C_drewN ?_ _)|(with_reducible refine Kd.C_drew ?_)));(case side2=>exact bH.out);(case side3=>repeat (first|exact (zzI bq.out HB.out)|(with_reducible refine Kd.C_alloc ?_ _)|(with_reducible refine Kd.C_drewN ?_ _)|(with_reducible refine Kd.C_drew ?_)));(case side4=>exact bF.out);rintro e w21 ⟨rfl,hb⟩;refine ⟨_,rfl,?_⟩;have n0_:=zzA (af (g:=cN) (o:=.cells #[.slice ax ai.length ap,.slice au ah.length am] 25 (0,0)) (by (with_reducible repeat (first|refine aa ?_ _|refine ac ?_|refine a9 ?_ _));exact bD.out) hb);have n1_:=zzA (ag (by repeat (first|(with_reducible first|exact HB.out|apply a6|apply a4|apply a5|refine a7 ?_ g8.out)|exact HB.out)) hb);clear bD;clear HB;have bD:=n0_;have HB:=n1_;clear n0_ n1_;(try clear hb);(try clear hb2);(try clear hk);(try clear hi)))
       go_ret
       exact ⟨by first|rfl|(simp [ak,al] <;> rfl)|(simp [*,ak,al] <;> rfl),by repeat (first|(with_reducible first|exact HB.out|apply a6|apply a4|apply a5|refine a7 ?_ g8.out)|exact HB.out)⟩
      ·rw [if_neg c19] at H
       have c19b0:decide (t171≤256)=false:=zzH c19
       clear c19
       replace H:=Option.bind_eq_some_iff.mp H
       obtain ⟨t172,A220,H⟩:=H
       replace H:(some (decide (t172 > 65536)))=some r:=H
       have A22:=zzA A220
       clear A220
       obtain rfl:=Option.some.inj H
       have jc:wr.cell? ⟨cN,0,none⟩=some (.slice ax ai.length ap):=(a8 bD.out 0).trans rfl
       have jd:wr.cell? ⟨cN,1,none⟩=some (.slice au ah.length am):=(a8 bD.out 1).trans rfl
       have je:=ab bD.out 0
       have jf:=ab bD.out 1
       go_wp2_with (first|((with_reducible refine ar (f:=30) rfl ?_);refine bi (some 37) rfl rfl Try.func30 (by kernel_rfl) rfl #[.agg #[.slice ax ai.length ap,.slice au ah.length am]] rfl (by (try simp only [List.map_toArray,List.map_cons,List.map_nil]);first|done|rfl|(simp only [List.length_drop,List.length_take];rfl)) ?_;(with_reducible refine (fastiref15_Tries.calls k1 _ _ ai _ _ ah t171 _ ?side1 ?side2 ?side3 ?side4 A18.out).mono ?_);(case side1=>repeat (first|exact (zzI bz.out HB.out)|(with_reducible refine Kd.C_alloc ?_ _)|(with_reducible refine Kd.C_drewN ?_ _)|(with_reducible refine Kd.C_drew ?_)));(case side2=>exact bH.out);(case side3=>repeat (first|exact (zzI bq.out HB.out)|(with_reducible refine Kd.C_alloc ?_ _)|(with_reducible refine Kd.C_drewN ?_ _)|(with_reducible refine Kd.C_drew ?_)));(case side4=>exact bF.out);rintro e w24 ⟨rfl,hb⟩;refine ⟨_,rfl,?_⟩;have n0_:=zzA (af (g:=cN) (o:=.cells #[.slice ax ai.length ap,.slice au ah.length am] 25 (0,0)) (by (with_reducible repeat (first|refine aa ?_ _|refine ac ?_|refine a9 ?_ _));exact bD.out) hb);have n1_:=zzA (ag (by repeat (first|(with_reducible first|exact HB.out|apply a6|apply a4|apply a5|refine a7 ?_ g8.out)|exact HB.out)) hb);clear bD;clear HB;have bD:=n0_;have HB:=n1_;clear n0_ n1_;(try clear hb);(try clear hb2);(try clear hk);(try clear hi);have kK:w24.cell? ⟨cN,0,none⟩=some (.slice ax ai.length ap):=(a8 bD.out 0).trans rfl;have kL:w24.cell? ⟨cN,1,none⟩=some (.slice au ah.length am):=(a8 bD.out 1).trans rfl;have kM:=ab bD.out 0;have kN:=ab bD.out 1)|(go_at_call 30;(with_reducible refine (fastiref15_Tries.calls k1 _ _ ai _ _ ah t172 _ ?side1 ?side2 ?side3 ?side4 A22.out).mono ?_);(case side1=>repeat (first|exact (zzI bz.out HB.out)|(with_reducible refine Kd.C_alloc ?_ _)|(with_reducible refine Kd.C_drewN ?_ _)|(with_reducible refine Kd.C_drew ?_)));(case side2=>exact bH.out);(case side3=>repeat (first|exact (zzI bq.out HB.out)|(with_reducible refine Kd.C_alloc ?_ _)|(with_reducible refine Kd.C_drewN ?_ _)|(with_reducible refine Kd.C_drew ?_)));(case side4=>exact bF.out);rintro e w26 ⟨rfl,hb⟩;have n0_:=zzA (af (g:=cN) (o:=.cells #[.slice ax ai.length ap,.slice au ah.length am] 25 (0,0)) (by (with_reducible repeat (first|refine aa ?_ _|refine ac ?_|refine a9 ?_ _));exact bD.out) hb);have n1_:=zzA (ag (by repeat (first|(with_reducible first|exact HB.out|apply a6|apply a4|apply a5|refine a7 ?_ g8.out)|exact HB.out)) hb);clear bD;clear HB;have bD:=n0_;have HB:=n1_;clear n0_ n1_;(try clear hb);(try clear hb2);(try clear hk);(try clear hi)))
       go_ret
       exact ⟨by first|rfl|(simp [ak,al] <;> rfl)|(simp [*,ak,al] <;> rfl),by repeat (first|(with_reducible first|exact HB.out|apply a6|apply a4|apply a5|refine a7 ?_ g8.out)|exact HB.out)⟩
 ·replace c3:=Bool.eq_false_iff.mpr c3
  subst c3
  have H1:(if (ai.length:Int)≤100 then (some (decide ((ah.length:Int)≤100))) else (some false))=some r:=by rw [if_neg (show ¬ (false=true) by decide)] at H;exact H
  clear H
  have H:=H1
  clear H1
  by_cases c27:(ai.length:Int)≤100
  ·rw [if_pos c27] at H
   have c27b0:decide ((ai.length:Int)≤100)=true:=zzG c27
   have c27b1:decide (ai.length≤100)=true:=zzG (by omega)
   clear c27
   obtain rfl:=Option.some.inj H
   go_enter Try.func12,Try.ntmps12
   go_wp2_with (first|((with_reducible refine ay (N:=1) rfl ?_);(try (refine aI (by rfl) ?_;dsimp only));refine aq ?hg (N:=1) ?hd (cs:=#[.slice ax ai.length ap,.slice au ah.length am]) (t:=25) ?hr ?_;(case hd=>rfl);(case hg=>rfl);(case hr=>first|(go_simp;done)|(go_simp;rfl));intro cN hg w28 hbox hb;have n0_:=zzA (ag (by repeat (first|(with_reducible first|exact HB.out|apply a6|apply a4|apply a5)|exact HB.out)) hb);have n1_:=zzA (hbox);have n2_:=zzA ((by rw [hg];exact (ae (by repeat (first|(with_reducible first|exact HB.out|apply a6|apply a4|apply a5)|exact HB.out))):w.heap.size≤cN));have n3_:=zzA ((by rw [hg];exact (ae (by repeat (first|(with_reducible first|exact HB.out|apply a6|apply a4|apply a5)|exact HB.out))):w.heap.size≤cN));clear HB;have HB:=n0_;have bD:=n1_;have GW168:=n2_;have g8:=n3_;clear n0_ n1_ n2_ n3_;clear hb hbox hg;have hcz29_0:w28.cell? ⟨cN,0,none⟩=some (.slice ax ai.length ap):=(a8 bD.out 0).trans rfl;have hcz29_1:w28.cell? ⟨cN,1,none⟩=some (.slice au ah.length am):=(a8 bD.out 1).trans rfl;have hfz29_0:=ab bD.out 0;have hfz29_1:=ab bD.out 1)|((with_reducible refine ar (f:=29) rfl ?_);refine bi (some 5) rfl rfl Try.func29 (by kernel_rfl) rfl #[.agg #[.slice ax ai.length ap,.slice au ah.length am]] rfl (by (try simp only [List.map_toArray,List.map_cons,List.map_nil]);first|done|rfl|(simp only [List.length_drop,List.length_take];rfl)) ?_;(with_reducible refine (fastiref15_short.calls k _ _ ai _ _ ah false _ ?side1 ?side2 ?side3 ?side4 A2.out).mono ?_);(case side1=>repeat (first|exact (zzI bz.out HB.out)|(with_reducible refine Kd.C_alloc ?_ _)|(with_reducible refine Kd.C_drewN ?_ _)|(with_reducible refine Kd.C_drew ?_)));(case side2=>exact bH.out);(case side3=>repeat (first|exact (zzI bq.out HB.out)|(with_reducible refine Kd.C_alloc ?_ _)|(with_reducible refine Kd.C_drewN ?_ _)|(with_reducible refine Kd.C_drew ?_)));(case side4=>exact bF.out);rintro e w30 ⟨rfl,hb⟩;refine ⟨_,rfl,?_⟩;have n0_:=zzA (af (g:=cN) (o:=.cells #[.slice ax ai.length ap,.slice au ah.length am] 25 (0,0)) (by (with_reducible repeat (first|refine aa ?_ _|refine ac ?_|refine a9 ?_ _));exact bD.out) hb);have n1_:=zzA (ag (by repeat (first|(with_reducible first|exact HB.out|apply a6|apply a4|apply a5|refine a7 ?_ g8.out)|exact HB.out)) hb);clear bD;clear HB;have bD:=n0_;have HB:=n1_;clear n0_ n1_;(try clear hb);(try clear hb2);(try clear hk);(try clear hi);have hcz31_0:w30.cell? ⟨cN,0,none⟩=some (.slice ax ai.length ap):=(a8 bD.out 0).trans rfl;have hcz31_1:w30.cell? ⟨cN,1,none⟩=some (.slice au ah.length am):=(a8 bD.out 1).trans rfl;have hfz31_0:=ab bD.out 0;have hfz31_1:=ab bD.out 1))
   go_ret
   exact ⟨by first|rfl|(simp [ak,al] <;> rfl)|(simp [*,ak,al] <;> rfl),by repeat (first|(with_reducible first|exact HB.out|apply a6|apply a4|apply a5|refine a7 ?_ g8.out)|exact HB.out)⟩
  ·rw [if_neg c27] at H
   have c27b0:decide ((ai.length:Int)≤100)=false:=zzH c27
   have c27b1:decide (ai.length≤100)=false:=zzH (by omega)
   clear c27
   obtain rfl:=Option.some.inj H
   go_enter Try.func12,Try.ntmps12
   go_wp2_with (first|((with_reducible refine ay (N:=1) rfl ?_);(try (refine aI (by rfl) ?_;dsimp only));refine aq ?hg (N:=1) ?hd (cs:=#[.slice ax ai.length ap,.slice au ah.length am]) (t:=25) ?hr ?_;(case hd=>rfl);(case hg=>rfl);(case hr=>first|(go_simp;done)|(go_simp;rfl));intro cN hg w32 hbox hb;have n0_:=zzA (ag (by repeat (first|(with_reducible first|exact HB.out|apply a6|apply a4|apply a5)|exact HB.out)) hb);have n1_:=zzA (hbox);have n2_:=zzA ((by rw [hg];exact (ae (by repeat (first|(with_reducible first|exact HB.out|apply a6|apply a4|apply a5)|exact HB.out))):w.heap.size≤cN));have n3_:=zzA ((by rw [hg];exact (ae (by repeat (first|(with_reducible first|exact HB.out|apply a6|apply a4|apply a5)|exact HB.out))):w.heap.size≤cN));clear HB;have HB:=n0_;have bD:=n1_;have GW168:=n2_;have g8:=n3_;clear n0_ n1_ n2_ n3_;clear hb hbox hg;have kQ:w32.cell? ⟨cN,0,none⟩=some (.slice ax ai.length ap):=(a8 bD.out 0).trans rfl;have kR:w32.cell? ⟨cN,1,none⟩=some (.slice au ah.length am):=(a8 bD.out 1).trans rfl;have kS:=ab bD.out 0;have kT:=ab bD.out 1)|((with_reducible refine ar (f:=29) rfl ?_);refine bi (some 5) rfl rfl Try.func29 (by kernel_rfl) rfl #[.agg #[.slice ax ai.length ap,.slice au ah.length am]] rfl (by (try simp only [List.map_toArray,List.map_cons,List.map_nil]);first|done|rfl|(simp only [List.length_drop,List.length_take];rfl)) ?_;(with_reducible refine (fastiref15_short.calls k _ _ ai _ _ ah false _ ?side1 ?side2 ?side3 ?side4 A2.out).mono ?_);(case side1=>repeat (first|exact (zzI bz.out HB.out)|(with_reducible refine Kd.C_alloc ?_ _)|(with_reducible refine Kd.C_drewN ?_ _)|(with_reducible refine Kd.C_drew ?_)));(case side2=>exact bH.out);(case side3=>repeat (first|exact (zzI bq.out HB.out)|(with_reducible refine Kd.C_alloc ?_ _)|(with_reducible refine Kd.C_drewN ?_ _)|(with_reducible refine Kd.C_drew ?_)));(case side4=>exact bF.out);rintro e w34 ⟨rfl,hb⟩;refine ⟨_,rfl,?_⟩;have n0_:=zzA (af (g:=cN) (o:=.cells #[.slice ax ai.length ap,.slice au ah.length am] 25 (0,0)) (by (with_reducible repeat (first|refine aa ?_ _|refine ac ?_|refine a9 ?_ _));exact bD.out) hb);have n1_:=zzA (ag (by repeat (first|(with_reducible first|exact HB.out|apply a6|apply a4|apply a5|refine a7 ?_ g8.out)|exact HB.out)) hb);clear bD;clear HB;have bD:=n0_;have HB:=n1_;clear n0_ n1_;(try clear hb);(try clear hb2);(try clear hk);(try clear hi);have hcz35_0:w34.cell? ⟨cN,0,none⟩=some (.slice ax ai.length ap):=(a8 bD.out 0).trans rfl;have hcz35_1:w34.cell? ⟨cN,1,none⟩=some (.slice au ah.length am):=(a8 bD.out 1).trans rfl;have hfz35_0:=ab bD.out 0;have hfz35_1:=ab bD.out 1))
   go_ret
   exact ⟨by first|rfl|(simp [ak,al] <;> rfl)|(simp [*,ak,al] <;> rfl),by repeat (first|(with_reducible first|exact HB.out|apply a6|apply a4|apply a5|refine a7 ?_ g8.out)|exact HB.out)⟩
def fastiref15_domain.l0:Nat→List Int→Int→Option (Bool)
 | 0,_,_=>none
 | k+1,x0,x3=>if x3 < (x0.length:Int) then (if 0≤x3 then (if (rd x0 x3) < 0 then (some false) else (if (rd x0 x3) > 73048 then (some false) else (if x3 > 0 then (if 0≤(wrap64 (x3 - 1)) then (if (wrap64 (x3 - 1)) < (x0.length:Int) then (if (rd x0 (wrap64 (x3 - 1))) ≥ (rd x0 x3) then (some false) else (fastiref15_domain.l0 k x0 (wrap64 (x3+1)))) else (none)) else (none)) else (fastiref15_domain.l0 k x0 (wrap64 (x3+1)))))) else (none)) else (some (decide ((x0.length:Int) > 0)))
def fastiref15_domain.f (k:Nat) (l0:List Int):Option (Bool):=fastiref15_domain.l0 k l0 0
set_option maxHeartbeats 8000000 in
set_option maxRecDepth 100000 in
theorem fastiref15_domain.calls (k:Nat) (A0:Option Addr) (c0:Nat) (l0:List Int) (r:Bool) (w:World) (hr0:Kd.C (Kd.int .i64) w A0 l0.length l0) (hc0:l0.length≤c0) (h:fastiref15_domain.f k l0=some r) :
  Calls Try.prog 39 #[.slice A0 l0.length c0] w fun e w'=>e=.returned (.bool r)∧Drawn0 w w':=by
 have HR0:=zzA hr0
 have HC0:=zzA hc0
 clear hr0 hc0
 have H:(fastiref15_domain.l0 k l0 0)=some r:=h
 clear h
 have H':=zzA H
 clear H
 go_enter Try.func39,Try.ntmps39
 go_wp2
 repeat (go_quiet (fail);try go_wp2)
 go_loopg [3] k (fun kq v3 w'=>∃ (x3_1:Int),v3=.int .i64 x3_1∧Aside0 (fastiref15_domain.l0 kq l0 x3_1=some r)∧Aside0 (kq≤k)∧Drawn0 w w')
 case atStart=>exact ⟨(0),(by first|rfl|(simp;done)|(simp [*];done)),H',⟨Nat.le_refl _⟩,by repeat (first|exact Drawn0.refl _|apply Drawn0.step)⟩
 case round =>
  clear H'
  obtain ⟨x3_1,rfl,HA,HK1,⟨m1,rfl⟩⟩:=hrel
  cases gk with
  | zero=>exact absurd HA.out (by simp [fastiref15_domain.l0])
  | succ k1 =>
   have H:=HA.out
   clear HA
   simp only [fastiref15_domain.l0] at H
   by_cases c2:x3_1 < (l0.length:Int)
   ·rw [if_pos c2] at H
    have c2b0:decide (x3_1 < (l0.length:Int))=true:=zzG c2
    clear c2
    by_cases c3:0≤x3_1
    ·rw [if_pos c3] at H
     have kA:decide (0≤x3_1)=true:=zzG c3
     clear c3
     by_cases c4:(rd l0 x3_1) < 0
     ·rw [if_pos c4] at H
      have f8:decide ((rd l0 x3_1) < 0)=true:=zzG c4
      clear c4
      obtain rfl:=Option.some.inj H
      have p173:0≤(x3_1:Int):=zzF (by first|(with_reducible assumption)|assumption)
      have q173:x3_1 < (l0.length:Int):=zzF (by first|(with_reducible assumption)|assumption)
      obtain ⟨ad173,e173,hx173_0⟩:=Kd.at_int HR0.out x3_1 p173 q173
      cases e173
      replace p173:=eq_true p173
      replace q173:=eq_true q173
      go_wp2
      repeat (go_quiet (fail);try go_wp2)
      go_ret
      exact ⟨by first|rfl|(simp;done)|(simp [*];done),by repeat (first|exact Drawn0.refl _|apply Drawn0.step)⟩
     ·rw [if_neg c4] at H
      have f8:decide ((rd l0 x3_1) < 0)=false:=zzH c4
      clear c4
      by_cases c5:(rd l0 x3_1) > 73048
      ·rw [if_pos c5] at H
       have jU:decide (73048 < (rd l0 x3_1))=true:=zzG c5
       clear c5
       obtain rfl:=Option.some.inj H
       have p173:0≤(x3_1:Int):=zzF (by first|(with_reducible assumption)|assumption)
       have q173:x3_1 < (l0.length:Int):=zzF (by first|(with_reducible assumption)|assumption)
       obtain ⟨ad173,e173,hx173_0⟩:=Kd.at_int HR0.out x3_1 p173 q173
       cases e173
       replace p173:=eq_true p173
       replace q173:=eq_true q173
       have p174:0≤(x3_1:Int):=zzF (by first|(with_reducible assumption)|assumption)
       have q174:x3_1 < (l0.length:Int):=zzF (by first|(with_reducible assumption)|assumption)
       obtain ⟨ad174,e174,hx174_0⟩:=Kd.at_int HR0.out x3_1 p174 q174
       obtain rfl:ad173=ad174:=(by injection e174)
       replace p174:=eq_true p174
       replace q174:=eq_true q174
       go_wp2
       repeat (go_quiet (fail);try go_wp2)
       go_ret
       exact ⟨by first|rfl|(simp;done)|(simp [*];done),by repeat (first|exact Drawn0.refl _|apply Drawn0.step)⟩
      ·rw [if_neg c5] at H
       have jU:decide (73048 < (rd l0 x3_1))=false:=zzH c5
       clear c5
       by_cases c6:x3_1 > 0
       ·rw [if_pos c6] at H
        have c6b0:decide (0 < x3_1)=true:=zzG c6
        clear c6
        obtain ⟨ji7,hji7⟩ : ∃ j_:Int,(wrap64 (x3_1 - 1))=j_:=⟨_,rfl⟩
        replace H:(if 0≤(ji7) then (if (ji7) < (l0.length:Int) then (if (rd l0 (ji7)) ≥ (rd l0 x3_1) then (some false) else (fastiref15_domain.l0 k1 l0 (wrap64 (x3_1+1)))) else (none)) else (none))=some r:=by first|(rw [hji7] at H;exact H)|(simp only [hji7] at H ⊢;exact H)
        have hji7w:(IntKind.i64.wrap (x3_1 - 1))=ji7:=(av _).trans hji7
        by_cases c8:0≤(ji7)
        ·rw [if_pos c8] at H
         have c8b0:decide (0≤(ji7))=true:=zzG c8
         clear c8
         by_cases c9:(ji7) < (l0.length:Int)
         ·rw [if_pos c9] at H
          have c9b0:decide ((ji7) < (l0.length:Int))=true:=zzG c9
          clear c9
          by_cases c10:(rd l0 (ji7)) ≥ (rd l0 x3_1)
          ·rw [if_pos c10] at H
           have iG:decide ((rd l0 x3_1)≤(rd l0 (ji7)))=true:=zzG c10
           clear c10
           obtain rfl:=Option.some.inj H
           have p173:0≤(x3_1:Int):=zzF (by first|(with_reducible assumption)|assumption)
           have q173:x3_1 < (l0.length:Int):=zzF (by first|(with_reducible assumption)|assumption)
           obtain ⟨ad173,e173,hx173_0⟩:=Kd.at_int HR0.out x3_1 p173 q173
           cases e173
           replace p173:=eq_true p173
           replace q173:=eq_true q173
           have p174:0≤(x3_1:Int):=zzF (by first|(with_reducible assumption)|assumption)
           have q174:x3_1 < (l0.length:Int):=zzF (by first|(with_reducible assumption)|assumption)
           obtain ⟨ad174,e174,hx174_0⟩:=Kd.at_int HR0.out x3_1 p174 q174
           obtain rfl:ad173=ad174:=(by injection e174)
           replace p174:=eq_true p174
           replace q174:=eq_true q174
           have p175:0≤((ji7):Int):=zzF (by first|(with_reducible assumption)|assumption)
           have q175:(ji7) < (l0.length:Int):=zzF (by first|(with_reducible assumption)|assumption)
           obtain ⟨ad175,e175,hx175_0⟩:=Kd.at_int HR0.out (ji7) p175 q175
           obtain rfl:ad173=ad175:=(by injection e175)
           replace p175:=eq_true p175
           replace q175:=eq_true q175
           have p176:0≤(x3_1:Int):=zzF (by first|(with_reducible assumption)|assumption)
           have q176:x3_1 < (l0.length:Int):=zzF (by first|(with_reducible assumption)|assumption)
           obtain ⟨ad176,e176,hx176_0⟩:=Kd.at_int HR0.out x3_1 p176 q176
           obtain rfl:ad173=ad176:=(by injection e176)
           replace p176:=eq_true p176
           replace q176:=eq_true q176
           go_wp2
           repeat (go_quiet (fail);try go_wp2)
           go_ret
           exact ⟨by first|rfl|(simp;done)|(simp only [← hji7] <;> (first|rfl|simp))|(simp [*];done),by repeat (first|exact Drawn0.refl _|apply Drawn0.step)⟩
          ·rw [if_neg c10] at H
           have iG:decide ((rd l0 x3_1)≤(rd l0 (ji7)))=false:=zzH c10
           clear c10
           have H':=zzA H
           clear H
           have p173:0≤(x3_1:Int):=zzF (by first|(with_reducible assumption)|assumption)
           have q173:x3_1 < (l0.length:Int):=zzF (by first|(with_reducible assumption)|assumption)
           obtain ⟨ad173,e173,hx173_0⟩:=Kd.at_int HR0.out x3_1 p173 q173
           cases e173
           replace p173:=eq_true p173
           replace q173:=eq_true q173
           have p174:0≤(x3_1:Int):=zzF (by first|(with_reducible assumption)|assumption)
           have q174:x3_1 < (l0.length:Int):=zzF (by first|(with_reducible assumption)|assumption)
           obtain ⟨ad174,e174,hx174_0⟩:=Kd.at_int HR0.out x3_1 p174 q174
           obtain rfl:ad173=ad174:=(by injection e174)
           replace p174:=eq_true p174
           replace q174:=eq_true q174
           have p175:0≤((ji7):Int):=zzF (by first|(with_reducible assumption)|assumption)
           have q175:(ji7) < (l0.length:Int):=zzF (by first|(with_reducible assumption)|assumption)
           obtain ⟨ad175,e175,hx175_0⟩:=Kd.at_int HR0.out (ji7) p175 q175
           obtain rfl:ad173=ad175:=(by injection e175)
           replace p175:=eq_true p175
           replace q175:=eq_true q175
           have p176:0≤(x3_1:Int):=zzF (by first|(with_reducible assumption)|assumption)
           have q176:x3_1 < (l0.length:Int):=zzF (by first|(with_reducible assumption)|assumption)
           obtain ⟨ad176,e176,hx176_0⟩:=Kd.at_int HR0.out x3_1 p176 q176
           obtain rfl:ad173=ad176:=(by injection e176)
           replace p176:=eq_true p176
           replace q176:=eq_true q176
           go_wp2
           repeat (go_quiet (fail);try go_wp2)
           go_roundg k1
           case measure=>have:=HK1.out;omega
           case rel=>exact ⟨(wrap64 (x3_1+1)),(by first|rfl|(simp;done)|(simp [*];done)),H',⟨by have:=HK1.out;omega⟩,by repeat (first|exact Drawn0.refl _|apply Drawn0.step)⟩
         ·rw [if_neg c9] at H
          exact absurd H (by simp)
        ·rw [if_neg c8] at H
         exact absurd H (by simp)
       ·rw [if_neg c6] at H
        have c6b0:decide (0 < x3_1)=false:=zzH c6
        clear c6
        have H':=zzA H
        clear H
        have p173:0≤(x3_1:Int):=zzF (by first|(with_reducible assumption)|assumption)
        have q173:x3_1 < (l0.length:Int):=zzF (by first|(with_reducible assumption)|assumption)
        obtain ⟨ad173,e173,hx173_0⟩:=Kd.at_int HR0.out x3_1 p173 q173
        cases e173
        replace p173:=eq_true p173
        replace q173:=eq_true q173
        have p174:0≤(x3_1:Int):=zzF (by first|(with_reducible assumption)|assumption)
        have q174:x3_1 < (l0.length:Int):=zzF (by first|(with_reducible assumption)|assumption)
        obtain ⟨ad174,e174,hx174_0⟩:=Kd.at_int HR0.out x3_1 p174 q174
        obtain rfl:ad173=ad174:=(by injection e174)
        replace p174:=eq_true p174
        replace q174:=eq_true q174
        go_wp2
        repeat (go_quiet (fail);try go_wp2)
        go_roundg k1
        case measure=>have:=HK1.out;omega
        case rel=>exact ⟨(wrap64 (x3_1+1)),(by first|rfl|(simp;done)|(simp [*];done)),H',⟨by have:=HK1.out;omega⟩,by repeat (first|exact Drawn0.refl _|apply Drawn0.step)⟩
    ·rw [if_neg c3] at H
     exact absurd H (by simp)
   ·rw [if_neg c2] at H
    have c2b0:decide (x3_1 < (l0.length:Int))=false:=zzH c2
    clear c2
    obtain rfl:=Option.some.inj H
    go_wp2
    repeat (go_quiet (fail);try go_wp2)
    go_ret
    exact ⟨by first|rfl|(simp;done)|(simp [*];done),by repeat (first|exact Drawn0.refl _|apply Drawn0.step)⟩
mutual
def fastiref15_vars.l0:Nat→List Int→Int→Int→Option (Bool)
 | 0,_,_,_=>none
 | k+1,x0,x1,x5=>if x5 < (x0.length:Int) then (if 0≤x5 then (if (rd x0 x5) < 0 then (fastiref15_vars.j1 k x0 x1 x5 true) else (fastiref15_vars.j1 k x0 x1 x5 (decide ((rd x0 x5) ≥ x1)))) else (none)) else (some (decide ((x0.length:Int) > 0)))
def fastiref15_vars.j1:Nat→List Int→Int→Int→Bool→Option (Bool)
 | 0,_,_,_,_=>none
 | k+1,x0,x1,x5,x25=>if x25=true then (some false) else (fastiref15_vars.l1 k x0 x1 x5 0)
def fastiref15_vars.l1:Nat→List Int→Int→Int→Int→Option (Bool)
 | 0,_,_,_,_=>none
 | k+1,x0,x1,x5,x6=>if x6 < x5 then (if 0≤x6 then (if x6 < (x0.length:Int) then (if 0≤x5 then (if x5 < (x0.length:Int) then (if (rd x0 x6)=(rd x0 x5) then (some false) else (fastiref15_vars.l1 k x0 x1 x5 (wrap64 (x6+1)))) else (none)) else (none)) else (none)) else (none)) else (fastiref15_vars.l0 k x0 x1 (wrap64 (x5+1)))
end
def fastiref15_vars.f (k:Nat) (l0:List Int) (a1:Int):Option (Bool):=fastiref15_vars.l0 k l0 a1 0
set_option maxHeartbeats 8000000 in
set_option maxRecDepth 100000 in
theorem fastiref15_vars.calls (k:Nat) (A0:Option Addr) (c0:Nat) (l0:List Int) (a1:Int) (r:Bool) (w:World) (hr0:Kd.C (Kd.int .i64) w A0 l0.length l0) (hc0:l0.length≤c0) (h:fastiref15_vars.f k l0 a1=some r) :
  Calls Try.prog 59 #[.slice A0 l0.length c0,.int .i64 a1] w fun e w'=>e=.returned (.bool r)∧Drawn0 w w':=by
 have HR0:=zzA hr0
 have HC0:=zzA hc0
 clear hr0 hc0
 have H:(fastiref15_vars.l0 k l0 a1 0)=some r:=h
 clear h
 have H':=zzA H
 clear H
 go_enter Try.func59,Try.ntmps59
 go_wp2
 repeat (go_quiet (fail);try go_wp2)
 go_loopg [5] k (fun kq v5 w'=>∃ (x5_1:Int),v5=.int .i64 x5_1∧Aside0 (fastiref15_vars.l0 kq l0 a1 x5_1=some r)∧Aside0 (kq≤k)∧Drawn0 w w')
 case atStart=>exact ⟨(0),(by first|rfl|(simp;done)|(simp [*];done)),H',⟨Nat.le_refl _⟩,by repeat (first|exact Drawn0.refl _|apply Drawn0.step)⟩
 case round =>
  clear H'
  try clear p2
  obtain ⟨x5_1,rfl,HA,HK1,⟨m1,rfl⟩⟩:=hrel
  cases gk with
  | zero=>exact absurd HA.out (by simp [fastiref15_vars.l0])
  | succ k1 =>
   have H:=HA.out
   clear HA
   simp only [fastiref15_vars.l0] at H
   by_cases c3:x5_1 < (l0.length:Int)
   ·rw [if_pos c3] at H
    have kA:decide (x5_1 < (l0.length:Int))=true:=zzG c3
    clear c3
    have HC4:=zzA H
    clear H
    go_upto_region 4 with (fail)
    repeat (go_quiet (fail);go_upto_region 4 with (fail))
    go_cut [25] (fun v25 wc=>∃ (kq:Nat) (x25_3:Bool),v25=.bool x25_3∧Aside0 (fastiref15_vars.j1 kq l0 a1 x5_1 x25_3=some r)∧Aside0 (kq≤k1)∧Drawn0 w wc)
    case first =>
     have H:=HC4.out
     clear HC4
     by_cases c5:0≤x5_1
     ·rw [if_pos c5] at H
      have jU:decide (0≤x5_1)=true:=zzG c5
      clear c5
      (first|rw [jU]|(simp only [av,aw];rw [jU])|skip)
      by_cases c6:(rd l0 x5_1) < 0
      ·rw [if_pos c6] at H
       have c6b0:decide ((rd l0 x5_1) < 0)=true:=zzG c6
       clear c6
       have H':=zzA H
       clear H
       have p177:0≤(x5_1:Int):=zzF (by first|(with_reducible assumption)|assumption)
       have q177:x5_1 < (l0.length:Int):=zzF (by first|(with_reducible assumption)|assumption)
       obtain ⟨ad177,e177,hx177_0⟩:=Kd.at_int HR0.out x5_1 p177 q177
       cases e177
       replace p177:=eq_true p177
       replace q177:=eq_true q177
       go_wp2
       repeat (go_quiet (fail);try go_wp2)
       go_meet
       case rel=>exact ⟨_,(true),(by first|rfl|(simp;done)|(simp [*];done)),H',⟨by have:=HK1.out;first|omega|exact Nat.le_refl _⟩,by repeat (first|exact Drawn0.refl _|apply Drawn0.step)⟩
      ·rw [if_neg c6] at H
       have c6b0:decide ((rd l0 x5_1) < 0)=false:=zzH c6
       clear c6
       have H':=zzA H
       clear H
       have p177:0≤(x5_1:Int):=zzF (by first|(with_reducible assumption)|assumption)
       have q177:x5_1 < (l0.length:Int):=zzF (by first|(with_reducible assumption)|assumption)
       obtain ⟨ad177,e177,hx177_0⟩:=Kd.at_int HR0.out x5_1 p177 q177
       cases e177
       replace p177:=eq_true p177
       replace q177:=eq_true q177
       have p178:0≤(x5_1:Int):=zzF (by first|(with_reducible assumption)|assumption)
       have q178:x5_1 < (l0.length:Int):=zzF (by first|(with_reducible assumption)|assumption)
       obtain ⟨ad178,e178,hx178_0⟩:=Kd.at_int HR0.out x5_1 p178 q178
       obtain rfl:ad177=ad178:=(by injection e178)
       replace p178:=eq_true p178
       replace q178:=eq_true q178
       go_wp2
       repeat (go_quiet (fail);try go_wp2)
       go_meet
       case rel=>exact ⟨_,(decide ((rd l0 x5_1) ≥ a1)),(by first|rfl|(simp;done)|(simp [*];done)),H',⟨by have:=HK1.out;first|omega|exact Nat.le_refl _⟩,by repeat (first|exact Drawn0.refl _|apply Drawn0.step)⟩
     ·rw [if_neg c5] at H
      exact absurd H (by simp)
    case rest =>
     clear HC4
     try clear p1;try clear q1;try clear hx1;try clear p2;try clear c3;try clear kA;try clear c5;try clear jU;try clear c6;try clear c6b0;try clear hx177_0;try clear hx178_0;try clear p177;try clear p178;try clear q177;try clear q178
     obtain ⟨kq,x25_3,rfl,HA,HJ3,⟨mc3,rfl⟩⟩:=hcut
     cases kq with
     | zero=>exact absurd HA.out (by simp [fastiref15_vars.j1])
     | succ kj3 =>
      have H:=HA.out
      clear HA
      simp only [fastiref15_vars.j1] at H
      by_cases c7:x25_3=true
      ·subst c7
       have H1:(some false)=some r:=by rw [if_pos rfl] at H;exact H
       clear H
       have H:=H1
       clear H1
       obtain rfl:=Option.some.inj H
       go_wp2
       repeat (go_quiet (fail);try go_wp2)
       go_ret
       exact ⟨by first|rfl|(simp;done)|(simp [*];done),by repeat (first|exact Drawn0.refl _|apply Drawn0.step)⟩
      ·replace c7:=Bool.eq_false_iff.mpr c7
       subst c7
       have H1:(fastiref15_vars.l1 kj3 l0 a1 x5_1 0)=some r:=by rw [if_neg (show ¬ (false=true) by decide)] at H;exact H
       clear H
       have H:=H1
       clear H1
       have H':=zzA H
       clear H
       go_wp2
       repeat (go_quiet (fail);try go_wp2)
       go_loopg [6] kj3 (fun kq v6 w'=>∃ (x6_3:Int),v6=.int .i64 x6_3∧Aside0 (fastiref15_vars.l1 kq l0 a1 x5_1 x6_3=some r)∧Aside0 (kq≤kj3)∧Drawn0 w w')
       case atStart=>exact ⟨(0),(by first|rfl|(simp;done)|(simp [*];done)),H',⟨Nat.le_refl _⟩,by repeat (first|exact Drawn0.refl _|apply Drawn0.step)⟩
       case round =>
        clear H'
        try clear p1;try clear q1;try clear hx1;try clear p2;try clear c3;try clear kA;try clear c5;try clear jU;try clear c6;try clear c6b0;try clear c7;try clear hx177_0;try clear hx178_0;try clear p177;try clear p178;try clear q177;try clear q178
        obtain ⟨x6_3,rfl,HA,HK3,⟨m3,rfl⟩⟩:=hrel
        cases gk with
        | zero=>exact absurd HA.out (by simp [fastiref15_vars.l1])
        | succ k3 =>
         have H:=HA.out
         clear HA
         simp only [fastiref15_vars.l1] at H
         by_cases c8:x6_3 < x5_1
         ·rw [if_pos c8] at H
          have c8b0:decide (x6_3 < x5_1)=true:=zzG c8
          clear c8
          by_cases c9:0≤x6_3
          ·rw [if_pos c9] at H
           have c9b0:decide (0≤x6_3)=true:=zzG c9
           clear c9
           by_cases c10:x6_3 < (l0.length:Int)
           ·rw [if_pos c10] at H
            have iG:decide (x6_3 < (l0.length:Int))=true:=zzG c10
            clear c10
            by_cases c11:0≤x5_1
            ·rw [if_pos c11] at H
             have c11b0:decide (0≤x5_1)=true:=zzG c11
             clear c11
             by_cases c12:x5_1 < (l0.length:Int)
             ·rw [if_pos c12] at H
              have c12b0:decide (x5_1 < (l0.length:Int))=true:=zzG c12
              clear c12
              by_cases c13:(rd l0 x6_3)=(rd l0 x5_1)
              ·rw [if_pos c13] at H
               have c13b0:((rd l0 x6_3) == (rd l0 x5_1))=true:=beq_iff_eq.mpr c13
               have c13b1:((rd l0 x6_3) != (rd l0 x5_1))=false:=bne_eq_false_iff_eq.mpr c13
               clear c13
               obtain rfl:=Option.some.inj H
               have p179:0≤(x6_3:Int):=zzF (by first|(with_reducible assumption)|assumption)
               have q179:x6_3 < (l0.length:Int):=zzF (by first|(with_reducible assumption)|assumption)
               obtain ⟨ad179,e179,hx179_0⟩:=Kd.at_int HR0.out x6_3 p179 q179
               cases e179
               replace p179:=eq_true p179
               replace q179:=eq_true q179
               have p180:0≤(x5_1:Int):=zzF (by first|(with_reducible assumption)|assumption)
               have q180:x5_1 < (l0.length:Int):=zzF (by first|(with_reducible assumption)|assumption)
               obtain ⟨ad180,e180,hx180_0⟩:=Kd.at_int HR0.out x5_1 p180 q180
               obtain rfl:ad179=ad180:=(by injection e180)
               replace p180:=eq_true p180
               replace q180:=eq_true q180
               go_wp2
               repeat (go_quiet (fail);try go_wp2)
               go_ret
               exact ⟨by first|rfl|(simp;done)|(simp [*];done),by repeat (first|exact Drawn0.refl _|apply Drawn0.step)⟩
              ·rw [if_neg c13] at H
               have c13b0:((rd l0 x6_3) == (rd l0 x5_1))=false:=beq_eq_false_iff_ne.mpr c13
               have c13b1:((rd l0 x6_3) != (rd l0 x5_1))=true:=bne_iff_ne.mpr c13
               have H':=zzA H
               clear H
               have p179:0≤(x6_3:Int):=zzF (by first|(with_reducible assumption)|assumption)
               have q179:x6_3 < (l0.length:Int):=zzF (by first|(with_reducible assumption)|assumption)
               obtain ⟨ad179,e179,hx179_0⟩:=Kd.at_int HR0.out x6_3 p179 q179
               cases e179
               replace p179:=eq_true p179
               replace q179:=eq_true q179
               have p180:0≤(x5_1:Int):=zzF (by first|(with_reducible assumption)|assumption)
               have q180:x5_1 < (l0.length:Int):=zzF (by first|(with_reducible assumption)|assumption)
               obtain ⟨ad180,e180,hx180_0⟩:=Kd.at_int HR0.out x5_1 p180 q180
               obtain rfl:ad179=ad180:=(by injection e180)
               replace p180:=eq_true p180
               replace q180:=eq_true q180
               go_wp2
               repeat (go_quiet (fail);try go_wp2)
               go_roundg k3
               case measure=>have:=HK1.out;have:=HJ3.out;have:=HK3.out;omega
               case rel=>exact ⟨(wrap64 (x6_3+1)),(by first|rfl|(simp;done)|(simp [*];done)),H',⟨by have:=HK1.out;have:=HJ3.out;have:=HK3.out;omega⟩,by repeat (first|exact Drawn0.refl _|apply Drawn0.step)⟩
             ·rw [if_neg c12] at H
              exact absurd H (by simp)
            ·rw [if_neg c11] at H
             exact absurd H (by simp)
           ·rw [if_neg c10] at H
            exact absurd H (by simp)
          ·rw [if_neg c9] at H
           exact absurd H (by simp)
         ·rw [if_neg c8] at H
          have c8b0:decide (x6_3 < x5_1)=false:=zzH c8
          clear c8
          have H':=zzA H
          clear H
          go_wp2
          repeat (go_quiet (fail);try go_wp2)
          go_roundg k3
          case measure=>have:=HK1.out;have:=HJ3.out;have:=HK3.out;omega
          case rel=>exact ⟨(wrap64 (x5_1+1)),(by first|rfl|(simp;done)|(simp [*];done)),H',⟨by have:=HK1.out;have:=HJ3.out;have:=HK3.out;omega⟩,by repeat (first|exact Drawn0.refl _|apply Drawn0.step)⟩
   ·rw [if_neg c3] at H
    have kA:decide (x5_1 < (l0.length:Int))=false:=zzH c3
    clear c3
    obtain rfl:=Option.some.inj H
    go_wp2
    repeat (go_quiet (fail);try go_wp2)
    go_ret
    exact ⟨by first|rfl|(simp;done)|(simp [*];done),by repeat (first|exact Drawn0.refl _|apply Drawn0.step)⟩
mutual
def fastiref15_rule.l0:Nat→Int→Int→Int→List Int→List (List Int)→Option (Bool)
 | 0,_,_,_,_,_=>none
 | k+1,x5,x182000,jg,x182002,jh=>if x5 < (jh.length:Int) then (if 0≤x5 then (if ((ao jh x5).length:Int)=(x182002.length:Int) then (fastiref15_rule.l0 k (wrap64 (x5+1)) x182000 jg x182002 jh) else (some false)) else (none)) else (some (jg == 0))
def fastiref15_rule.j1:Nat→Int→Bool→Int→Int→List Int→List (List Int)→Option (Bool)
 | 0,_,_,_,_,_,_=>none
 | k+1,x12,x35,x182000,jg,x182002,jh=>if x35=true then (if jg=0 then (some ((jh.length:Int) == 0)) else (some false)) else (if x12=3 then (if jg ≥ 1 then (if jg≤73048 then (some ((jh.length:Int) == 0)) else (some false)) else (some false)) else (some false))
end
def fastiref15_rule.f (k:Nat) (bB:Int) (cG:Int) (bR:List Int) (cj:List (List Int)) (a1:Int):Option (Bool):=(fastiref15_vars.f k bR a1).bind fun t182=>(if t182=true then (if bB=1 then (fastiref15_rule.l0 k 0 bB cG bR cj) else (if bB=2 then (fastiref15_rule.j1 k bB (bB == 2) bB cG bR cj) else (fastiref15_rule.j1 k bB (bB == 4) bB cG bR cj))) else (some false))
set_option maxHeartbeats 8000000 in
set_option maxRecDepth 100000 in
theorem fastiref15_rule.calls (k:Nat) (bB:Int) (cG:Int) (dZ:Option Addr) (dP:Nat) (bR:List Int) (dQ:Option Addr) (dR:Nat) (cj:List (List Int)) (a1:Int) (r:Bool) (w:World) (hr0_2:Kd.C (Kd.int .i64) w dZ bR.length bR) (hc0_2:bR.length≤dP) (kZ:Kd.C (Kd.slice 3 (Kd.int .i64)) w dQ cj.length cj) (hc0_3:cj.length≤dR) (h:fastiref15_rule.f k bB cG bR cj a1=some r) :
  Calls Try.prog 40 #[.agg #[.int .i64 bB,.int .i64 cG,.slice dZ bR.length dP,.slice dQ cj.length dR],.int .i64 a1] w fun e w'=>e=.returned (.bool r)∧Below w.heap.size w w':=by
 have hu49:=Try.underlying49
 have iL:=zzA hr0_2
 have l4:=zzA hc0_2
 clear hr0_2 hc0_2
 have HR0_3:=zzA kZ
 have HC0_3:=zzA hc0_3
 clear kZ hc0_3
 have HB:=zzA (Below.refl w.heap.size w)
 have H:((fastiref15_vars.f k bR a1).bind fun t182=>(if t182=true then (if bB=1 then (fastiref15_rule.l0 k 0 bB cG bR cj) else (if bB=2 then (fastiref15_rule.j1 k bB (bB == 2) bB cG bR cj) else (fastiref15_rule.j1 k bB (bB == 4) bB cG bR cj))) else (some false)))=some r:=h
 clear h
 replace H:=Option.bind_eq_some_iff.mp H
 obtain ⟨t182,A30,H⟩:=H
 replace H:(if t182=true then (if bB=1 then (fastiref15_rule.l0 k 0 bB cG bR cj) else (if bB=2 then (fastiref15_rule.j1 k bB (bB == 2) bB cG bR cj) else (fastiref15_rule.j1 k bB (bB == 4) bB cG bR cj))) else (some false))=some r:=H
 have A3:=zzA A30
 clear A30
 by_cases c4:t182=true
 ·subst c4
  have H1:(if bB=1 then (fastiref15_rule.l0 k 0 bB cG bR cj) else (if bB=2 then (fastiref15_rule.j1 k bB (bB == 2) bB cG bR cj) else (fastiref15_rule.j1 k bB (bB == 4) bB cG bR cj)))=some r:=by rw [if_pos rfl] at H;exact H
  clear H
  have H:=H1
  clear H1
  by_cases c5:bB=1
  ·rw [if_pos c5] at H
   have jU:(bB == 1)=true:=beq_iff_eq.mpr c5
   have c5b1:(bB != 1)=false:=bne_eq_false_iff_eq.mpr c5
   clear c5
   have H':=zzA H
   clear H
   go_enter Try.func40,Try.ntmps40
   go_wp2_with (first|((with_reducible refine ay (N:=2) rfl ?_);(try (refine aI (by rfl) ?_;dsimp only));refine aq ?hg (N:=2) ?hd (cs:=#[.int .i64 bB,.int .i64 cG,.slice dZ bR.length dP,.slice dQ cj.length dR]) (t:=49) ?hr ?_;(case hd=>rfl);(case hg=>rfl);(case hr=>first|(go_simp;done)|(go_simp;rfl));intro bj hg w6 hbox hb;have n0_:=zzA (ag (by repeat (first|(with_reducible first|exact HB.out|apply a6|apply a4|apply a5)|exact HB.out)) hb);have n1_:=zzA (hbox);have n2_:=zzA ((by rw [hg];exact (ae (by repeat (first|(with_reducible first|exact HB.out|apply a6|apply a4|apply a5)|exact HB.out))):w.heap.size≤bj));have n3_:=zzA ((by rw [hg];exact (ae (by repeat (first|(with_reducible first|exact HB.out|apply a6|apply a4|apply a5)|exact HB.out))):w.heap.size≤bj));clear HB;have HB:=n0_;have aH:=n1_;have GW181:=n2_;have fl:=n3_;clear n0_ n1_ n2_ n3_;clear hb hbox hg;have iH:w6.cell? ⟨bj,0,none⟩=some (.int .i64 bB):=(a8 aH.out 0).trans rfl;have iI:w6.cell? ⟨bj,1,none⟩=some (.int .i64 cG):=(a8 aH.out 1).trans rfl;have hcz7_2:w6.cell? ⟨bj,2,none⟩=some (.slice dZ bR.length dP):=(a8 aH.out 2).trans rfl;have hcz7_3:w6.cell? ⟨bj,3,none⟩=some (.slice dQ cj.length dR):=(a8 aH.out 3).trans rfl;have iJ:=ab aH.out 0;have iK:=ab aH.out 1;have hfz7_2:=ab aH.out 2;have hfz7_3:=ab aH.out 3)|(go_at_call 59;(with_reducible refine (fastiref15_vars.calls k _ _ bR a1 true _ ?side1 ?side2 A3.out).mono ?_);(case side1=>repeat (first|exact (zzI iL.out HB.out)|(with_reducible refine Kd.C_alloc ?_ _)|(with_reducible refine Kd.C_drewN ?_ _)|(with_reducible refine Kd.C_drew ?_)));(case side2=>exact l4.out);rintro e w' ⟨rfl,⟨nd,rfl⟩⟩;(try first|exact ⟨rfl,_,World.drewN_drewN _ _ _⟩|exact ⟨rfl,_,Eq.trans (World.drewN_drewN _ _ _) (congrArg (World.drewN _) (Nat.add_assoc _ _ _))⟩)))
   repeat (go_quiet (first|((with_reducible refine ay (N:=2) rfl ?_);(try (refine aI (by rfl) ?_;dsimp only));refine aq ?hg (N:=2) ?hd (cs:=#[.int .i64 bB,.int .i64 cG,.slice dZ bR.length dP,.slice dQ cj.length dR]) (t:=49) ?hr ?_;(case hd=>rfl);(case hg=>rfl);(case hr=>first|(go_simp;done)|(go_simp;rfl));intro bj hg w6 hbox hb;have n0_:=zzA (ag (by repeat (first|(with_reducible first|exact HB.out|apply a6|apply a4|apply a5)|exact HB.out)) hb);have n1_:=zzA (hbox);have n2_:=zzA ((by rw [hg];exact (ae (by repeat (first|(with_reducible first|exact HB.out|apply a6|apply a4|apply a5)|exact HB.out))):w.heap.size≤bj));have n3_:=zzA ((by rw [hg];exact (ae (by repeat (first|(with_reducible first|exact HB.out|apply a6|apply a4|apply a5)|exact HB.out))):w.heap.size≤bj));clear HB;have HB:=n0_;have aH:=n1_;have GW181:=n2_;have fl:=n3_;clear n0_ n1_ n2_ n3_;clear hb hbox hg;have iH:w6.cell? ⟨bj,0,none⟩=some (.int .i64 bB):=(a8 aH.out 0).trans rfl;have iI:w6.cell? ⟨bj,1,none⟩=some (.int .i64 cG):=(a8 aH.out 1).trans rfl;have hcz7_2:w6.cell? ⟨bj,2,none⟩=some (.slice dZ bR.length dP):=(a8 aH.out 2).trans rfl;have hcz7_3:w6.cell? ⟨bj,3,none⟩=some (.slice dQ cj.length dR):=(a8 aH.out 3).trans rfl;have iJ:=ab aH.out 0;have iK:=ab aH.out 1;have hfz7_2:=ab aH.out 2;have hfz7_3:=ab aH.out 3)|(go_at_call 59;(with_reducible refine (fastiref15_vars.calls k _ _ bR a1 true _ ?side1 ?side2 A3.out).mono ?_);(case side1=>repeat (first|exact (zzI iL.out HB.out)|(with_reducible refine Kd.C_alloc ?_ _)|(with_reducible refine Kd.C_drewN ?_ _)|(with_reducible refine Kd.C_drew ?_)));(case side2=>exact l4.out);rintro e w' ⟨rfl,⟨nd,rfl⟩⟩;(try first|exact ⟨rfl,_,World.drewN_drewN _ _ _⟩|exact ⟨rfl,_,Eq.trans (World.drewN_drewN _ _ _) (congrArg (World.drewN _) (Nat.add_assoc _ _ _))⟩)));try go_wp2_with (first|((with_reducible refine ay (N:=2) rfl ?_);(try (refine aI (by rfl) ?_;dsimp only));refine aq ?hg (N:=2) ?hd (cs:=#[.int .i64 bB,.int .i64 cG,.slice dZ bR.length dP,.slice dQ cj.length dR]) (t:=49) ?hr ?_;(case hd=>rfl);(case hg=>rfl);(case hr=>first|(go_simp;done)|(go_simp;rfl));intro bj hg w6 hbox hb;have n0_:=zzA (ag (by repeat (first|(with_reducible first|exact HB.out|apply a6|apply a4|apply a5)|exact HB.out)) hb);have n1_:=zzA (hbox);have n2_:=zzA ((by rw [hg];exact (ae (by repeat (first|(with_reducible first|exact HB.out|apply a6|apply a4|apply a5)|exact HB.out))):w.heap.size≤bj));have n3_:=zzA ((by rw [hg];exact (ae (by repeat (first|(with_reducible first|exact HB.out|apply a6|apply a4|apply a5)|exact HB.out))):w.heap.size≤bj));clear HB;have HB:=n0_;have aH:=n1_;have GW181:=n2_;have fl:=n3_;clear n0_ n1_ n2_ n3_;clear hb hbox hg;have iH:w6.cell? ⟨bj,0,none⟩=some (.int .i64 bB):=(a8 aH.out 0).trans rfl;have iI:w6.cell? ⟨bj,1,none⟩=some (.int .i64 cG):=(a8 aH.out 1).trans rfl;have hcz7_2:w6.cell? ⟨bj,2,none⟩=some (.slice dZ bR.length dP):=(a8 aH.out 2).trans rfl;have hcz7_3:w6.cell? ⟨bj,3,none⟩=some (.slice dQ cj.length dR):=(a8 aH.out 3).trans rfl;have iJ:=ab aH.out 0;have iK:=ab aH.out 1;have hfz7_2:=ab aH.out 2;have hfz7_3:=ab aH.out 3)|(go_at_call 59;(with_reducible refine (fastiref15_vars.calls k _ _ bR a1 true _ ?side1 ?side2 A3.out).mono ?_);(case side1=>repeat (first|exact (zzI iL.out HB.out)|(with_reducible refine Kd.C_alloc ?_ _)|(with_reducible refine Kd.C_drewN ?_ _)|(with_reducible refine Kd.C_drew ?_)));(case side2=>exact l4.out);rintro e w' ⟨rfl,⟨nd,rfl⟩⟩;(try first|exact ⟨rfl,_,World.drewN_drewN _ _ _⟩|exact ⟨rfl,_,Eq.trans (World.drewN_drewN _ _ _) (congrArg (World.drewN _) (Nat.add_assoc _ _ _))⟩))))
   go_loopg [5] k (fun kq v5 w'=>∃ (x5_1:Int),v5=.int .i64 x5_1∧Aside0 (fastiref15_rule.l0 kq x5_1 bB cG bR cj=some r)∧Aside0 (kq≤k)∧Aside0 (w'.heap[bj]?=some (.cells #[.int .i64 bB,.int .i64 cG,(.slice dZ bR.length dP),(.slice dQ cj.length dR)] 49 (0,0)))∧Aside0 (Below w.heap.size w w'))
   case atStart=>exact ⟨(0),(by first|rfl|(simp;done)|(simp [*];done)),H',⟨Nat.le_refl _⟩,⟨by (with_reducible repeat (first|refine aa ?_ _|refine ac ?_|refine a9 ?_ _));exact aH.out⟩,⟨by repeat (first|(with_reducible first|exact HB.out|apply a6|apply a4|apply a5|refine a7 ?_ fl.out)|exact HB.out)⟩⟩
   case round =>
    clear H'
    try clear p2;try clear c4;try clear c5;try clear jU;try clear c5b1;try clear iH;try clear iI;try clear hcz7_2;try clear hcz7_3;try clear iJ;try clear iK;try clear hfz7_2;try clear hfz7_3
    obtain ⟨x5_1,rfl,HA,HK1,aH,HB⟩:=hrel
    cases gk with
    | zero=>exact absurd HA.out (by simp [fastiref15_rule.l0])
    | succ k1 =>
     have H:=HA.out
     clear HA
     simp only [fastiref15_rule.l0] at H
     by_cases c8:x5_1 < (cj.length:Int)
     ·rw [if_pos c8] at H
      have c8b0:decide (x5_1 < (cj.length:Int))=true:=zzG c8
      clear c8
      by_cases c9:0≤x5_1
      ·rw [if_pos c9] at H
       have c9b0:decide (0≤x5_1)=true:=zzG c9
       clear c9
       by_cases c10:((ao cj x5_1).length:Int)=(bR.length:Int)
       ·rw [if_pos c10] at H
        have iG:(((ao cj x5_1).length:Int) == (bR.length:Int))=true:=beq_iff_eq.mpr c10
        have c10b1:(((ao cj x5_1).length:Int) != (bR.length:Int))=false:=bne_eq_false_iff_eq.mpr c10
        have c10b2:((ao cj x5_1).length == bR.length)=true:=by first|simpa using c10|(simp at c10 ⊢;omega)
        clear c10
        have H':=zzA H
        clear H
        have cJ:wr.cell? ⟨bj,0,none⟩=some (.int .i64 bB):=(a8 aH.out 0).trans rfl
        have cK:wr.cell? ⟨bj,1,none⟩=some (.int .i64 cG):=(a8 aH.out 1).trans rfl
        have hcz11_2:wr.cell? ⟨bj,2,none⟩=some (.slice dZ bR.length dP):=(a8 aH.out 2).trans rfl
        have hcz11_3:wr.cell? ⟨bj,3,none⟩=some (.slice dQ cj.length dR):=(a8 aH.out 3).trans rfl
        have cL:=ab aH.out 0
        have cM:=ab aH.out 1
        have hfz11_2:=ab aH.out 2
        have hfz11_3:=ab aH.out 3
        have p183:0≤(x5_1:Int):=zzF (by first|(with_reducible assumption)|assumption)
        have q183:x5_1 < (cj.length:Int):=zzF (by first|(with_reducible assumption)|assumption)
        obtain ⟨ad183,A183_0,c183_0,e183,gh,l5,l6⟩:=et HR0_3.out x5_1 p183 q183
        cases e183
        replace gh:=(HB.out.cell (zzE w _ gh)).trans gh
        have HR183_0:=zzA l6
        have HC183_0:=zzA l5
        clear l6 l5
        replace p183:=eq_true p183
        replace q183:=eq_true q183
        go_wp2
        repeat (go_quiet (fail);try go_wp2)
        go_roundg k1
        case measure=>have:=HK1.out;omega
        case rel=>exact ⟨(wrap64 (x5_1+1)),(by first|rfl|(simp;done)|(simp [*];done)),H',⟨by have:=HK1.out;omega⟩,⟨by (with_reducible repeat (first|refine aa ?_ _|refine ac ?_|refine a9 ?_ _));exact aH.out⟩,⟨by repeat (first|(with_reducible first|exact HB.out|apply a6|apply a4|apply a5|refine a7 ?_ fl.out)|exact HB.out)⟩⟩
       ·rw [if_neg c10] at H
        have iG:(((ao cj x5_1).length:Int) == (bR.length:Int))=false:=beq_eq_false_iff_ne.mpr c10
        have c10b1:(((ao cj x5_1).length:Int) != (bR.length:Int))=true:=bne_iff_ne.mpr c10
        have c10b2:((ao cj x5_1).length == bR.length)=false:=by first|simpa using c10|(simp at c10 ⊢;omega)
        obtain rfl:=Option.some.inj H
        have dd:wr.cell? ⟨bj,0,none⟩=some (.int .i64 bB):=(a8 aH.out 0).trans rfl
        have de:wr.cell? ⟨bj,1,none⟩=some (.int .i64 cG):=(a8 aH.out 1).trans rfl
        have hcz12_2:wr.cell? ⟨bj,2,none⟩=some (.slice dZ bR.length dP):=(a8 aH.out 2).trans rfl
        have hcz12_3:wr.cell? ⟨bj,3,none⟩=some (.slice dQ cj.length dR):=(a8 aH.out 3).trans rfl
        have df:=ab aH.out 0
        have dg:=ab aH.out 1
        have hfz12_2:=ab aH.out 2
        have hfz12_3:=ab aH.out 3
        have p183:0≤(x5_1:Int):=zzF (by first|(with_reducible assumption)|assumption)
        have q183:x5_1 < (cj.length:Int):=zzF (by first|(with_reducible assumption)|assumption)
        obtain ⟨ad183,A183_0,c183_0,e183,gh,l5,l6⟩:=et HR0_3.out x5_1 p183 q183
        cases e183
        replace gh:=(HB.out.cell (zzE w _ gh)).trans gh
        have HR183_0:=zzA l6
        have HC183_0:=zzA l5
        clear l6 l5
        replace p183:=eq_true p183
        replace q183:=eq_true q183
        go_wp2
        repeat (go_quiet (fail);try go_wp2)
        go_ret
        exact ⟨by first|rfl|(simp [ak,al] <;> rfl)|(simp [*,ak,al] <;> rfl),by repeat (first|(with_reducible first|exact HB.out|apply a6|apply a4|apply a5|refine a7 ?_ fl.out)|exact HB.out)⟩
      ·rw [if_neg c9] at H
       exact absurd H (by simp)
     ·rw [if_neg c8] at H
      have c8b0:decide (x5_1 < (cj.length:Int))=false:=zzH c8
      clear c8
      obtain rfl:=Option.some.inj H
      have e8:wr.cell? ⟨bj,0,none⟩=some (.int .i64 bB):=(a8 aH.out 0).trans rfl
      have ec:wr.cell? ⟨bj,1,none⟩=some (.int .i64 cG):=(a8 aH.out 1).trans rfl
      have hcz13_2:wr.cell? ⟨bj,2,none⟩=some (.slice dZ bR.length dP):=(a8 aH.out 2).trans rfl
      have hcz13_3:wr.cell? ⟨bj,3,none⟩=some (.slice dQ cj.length dR):=(a8 aH.out 3).trans rfl
      have ed:=ab aH.out 0
      have ee:=ab aH.out 1
      have hfz13_2:=ab aH.out 2
      have hfz13_3:=ab aH.out 3
      go_wp2
      repeat (go_quiet (fail);try go_wp2)
      go_ret
      exact ⟨by first|rfl|(simp [ak,al] <;> rfl)|(simp [*,ak,al] <;> rfl),by repeat (first|(with_reducible first|exact HB.out|apply a6|apply a4|apply a5|refine a7 ?_ fl.out)|exact HB.out)⟩
  ·rw [if_neg c5] at H
   have jU:(bB == 1)=false:=beq_eq_false_iff_ne.mpr c5
   have c5b1:(bB != 1)=true:=bne_iff_ne.mpr c5
   have HC14:=zzA H
   clear H
   go_enter Try.func40,Try.ntmps40
   go_upto_if 35 with (first|((with_reducible refine ay (N:=2) rfl ?_);(try (refine aI (by rfl) ?_;dsimp only));refine aq ?hg (N:=2) ?hd (cs:=#[.int .i64 bB,.int .i64 cG,.slice dZ bR.length dP,.slice dQ cj.length dR]) (t:=49) ?hr ?_;(case hd=>rfl);(case hg=>rfl);(case hr=>first|(go_simp;done)|(go_simp;rfl));intro bj hg w15 hbox hb;have n0_:=zzA (ag (by repeat (first|(with_reducible first|exact HB.out|apply a6|apply a4|apply a5)|exact HB.out)) hb);have n1_:=zzA (hbox);have n2_:=zzA ((by rw [hg];exact (ae (by repeat (first|(with_reducible first|exact HB.out|apply a6|apply a4|apply a5)|exact HB.out))):w.heap.size≤bj));have n3_:=zzA ((by rw [hg];exact (ae (by repeat (first|(with_reducible first|exact HB.out|apply a6|apply a4|apply a5)|exact HB.out))):w.heap.size≤bj));clear HB;have HB:=n0_;have aH:=n1_;have GW181:=n2_;have fl:=n3_;clear n0_ n1_ n2_ n3_;clear hb hbox hg;have eH:w15.cell? ⟨bj,0,none⟩=some (.int .i64 bB):=(a8 aH.out 0).trans rfl;have eI:w15.cell? ⟨bj,1,none⟩=some (.int .i64 cG):=(a8 aH.out 1).trans rfl;have hcz16_2:w15.cell? ⟨bj,2,none⟩=some (.slice dZ bR.length dP):=(a8 aH.out 2).trans rfl;have hcz16_3:w15.cell? ⟨bj,3,none⟩=some (.slice dQ cj.length dR):=(a8 aH.out 3).trans rfl;have eJ:=ab aH.out 0;have eK:=ab aH.out 1;have hfz16_2:=ab aH.out 2;have hfz16_3:=ab aH.out 3)|(go_at_call 59;(with_reducible refine (fastiref15_vars.calls k _ _ bR a1 true _ ?side1 ?side2 A3.out).mono ?_);(case side1=>repeat (first|exact (zzI iL.out HB.out)|(with_reducible refine Kd.C_alloc ?_ _)|(with_reducible refine Kd.C_drewN ?_ _)|(with_reducible refine Kd.C_drew ?_)));(case side2=>exact l4.out);rintro e w' ⟨rfl,⟨nd,rfl⟩⟩;(try first|exact ⟨rfl,_,World.drewN_drewN _ _ _⟩|exact ⟨rfl,_,Eq.trans (World.drewN_drewN _ _ _) (congrArg (World.drewN _) (Nat.add_assoc _ _ _))⟩)))
   repeat (go_quiet (first|((with_reducible refine ay (N:=2) rfl ?_);(try (refine aI (by rfl) ?_;dsimp only));refine aq ?hg (N:=2) ?hd (cs:=#[.int .i64 bB,.int .i64 cG,.slice dZ bR.length dP,.slice dQ cj.length dR]) (t:=49) ?hr ?_;(case hd=>rfl);(case hg=>rfl);(case hr=>first|(go_simp;done)|(go_simp;rfl));intro bj hg w15 hbox hb;have n0_:=zzA (ag (by repeat (first|(with_reducible first|exact HB.out|apply a6|apply a4|apply a5)|exact HB.out)) hb);have n1_:=zzA (hbox);have n2_:=zzA ((by rw [hg];exact (ae (by repeat (first|(with_reducible first|exact HB.out|apply a6|apply a4|apply a5)|exact HB.out))):w.heap.size≤bj));have n3_:=zzA ((by rw [hg];exact (ae (by repeat (first|(with_reducible first|exact HB.out|apply a6|apply a4|apply a5)|exact HB.out))):w.heap.size≤bj));clear HB;have HB:=n0_;have aH:=n1_;have GW181:=n2_;have fl:=n3_;clear n0_ n1_ n2_ n3_;clear hb hbox hg;have eH:w15.cell? ⟨bj,0,none⟩=some (.int .i64 bB):=(a8 aH.out 0).trans rfl;have eI:w15.cell? ⟨bj,1,none⟩=some (.int .i64 cG):=(a8 aH.out 1).trans rfl;have hcz16_2:w15.cell? ⟨bj,2,none⟩=some (.slice dZ bR.length dP):=(a8 aH.out 2).trans rfl;have hcz16_3:w15.cell? ⟨bj,3,none⟩=some (.slice dQ cj.length dR):=(a8 aH.out 3).trans rfl;have eJ:=ab aH.out 0;have eK:=ab aH.out 1;have hfz16_2:=ab aH.out 2;have hfz16_3:=ab aH.out 3)|(go_at_call 59;(with_reducible refine (fastiref15_vars.calls k _ _ bR a1 true _ ?side1 ?side2 A3.out).mono ?_);(case side1=>repeat (first|exact (zzI iL.out HB.out)|(with_reducible refine Kd.C_alloc ?_ _)|(with_reducible refine Kd.C_drewN ?_ _)|(with_reducible refine Kd.C_drew ?_)));(case side2=>exact l4.out);rintro e w' ⟨rfl,⟨nd,rfl⟩⟩;(try first|exact ⟨rfl,_,World.drewN_drewN _ _ _⟩|exact ⟨rfl,_,Eq.trans (World.drewN_drewN _ _ _) (congrArg (World.drewN _) (Nat.add_assoc _ _ _))⟩)));go_upto_if 35 with (first|((with_reducible refine ay (N:=2) rfl ?_);(try (refine aI (by rfl) ?_;dsimp only));refine aq ?hg (N:=2) ?hd (cs:=#[.int .i64 bB,.int .i64 cG,.slice dZ bR.length dP,.slice dQ cj.length dR]) (t:=49) ?hr ?_;(case hd=>rfl);(case hg=>rfl);(case hr=>first|(go_simp;done)|(go_simp;rfl));intro bj hg w15 hbox hb;have n0_:=zzA (ag (by repeat (first|(with_reducible first|exact HB.out|apply a6|apply a4|apply a5)|exact HB.out)) hb);have n1_:=zzA (hbox);have n2_:=zzA ((by rw [hg];exact (ae (by repeat (first|(with_reducible first|exact HB.out|apply a6|apply a4|apply a5)|exact HB.out))):w.heap.size≤bj));have n3_:=zzA ((by rw [hg];exact (ae (by repeat (first|(with_reducible first|exact HB.out|apply a6|apply a4|apply a5)|exact HB.out))):w.heap.size≤bj));clear HB;have HB:=n0_;have aH:=n1_;have GW181:=n2_;have fl:=n3_;clear n0_ n1_ n2_ n3_;clear hb hbox hg;have eH:w15.cell? ⟨bj,0,none⟩=some (.int .i64 bB):=(a8 aH.out 0).trans rfl;have eI:w15.cell? ⟨bj,1,none⟩=some (.int .i64 cG):=(a8 aH.out 1).trans rfl;have hcz16_2:w15.cell? ⟨bj,2,none⟩=some (.slice dZ bR.length dP):=(a8 aH.out 2).trans rfl;have hcz16_3:w15.cell? ⟨bj,3,none⟩=some (.slice dQ cj.length dR):=(a8 aH.out 3).trans rfl;have eJ:=ab aH.out 0;have eK:=ab aH.out 1;have hfz16_2:=ab aH.out 2;have hfz16_3:=ab aH.out 3)|(go_at_call 59;(with_reducible refine (fastiref15_vars.calls k _ _ bR a1 true _ ?side1 ?side2 A3.out).mono ?_);(case side1=>repeat (first|exact (zzI iL.out HB.out)|(with_reducible refine Kd.C_alloc ?_ _)|(with_reducible refine Kd.C_drewN ?_ _)|(with_reducible refine Kd.C_drew ?_)));(case side2=>exact l4.out);rintro e w' ⟨rfl,⟨nd,rfl⟩⟩;(try first|exact ⟨rfl,_,World.drewN_drewN _ _ _⟩|exact ⟨rfl,_,Eq.trans (World.drewN_drewN _ _ _) (congrArg (World.drewN _) (Nat.add_assoc _ _ _))⟩))))
   (try simp only [Act.put,zzB,zzC,zzD])
   go_cut [35] (fun v35 wc=>∃ (kq:Nat) (x35_13:Bool),v35=.bool x35_13∧Aside0 (fastiref15_rule.j1 kq bB x35_13 bB cG bR cj=some r)∧Aside0 (kq≤k)∧Aside0 (wc.heap[bj]?=some (.cells #[.int .i64 bB,.int .i64 cG,(.slice dZ bR.length dP),(.slice dQ cj.length dR)] 49 (0,0)))∧Aside0 (Below w.heap.size w wc))
   case first =>
    have H:=HC14.out
    clear HC14
    by_cases c17:bB=2
    ·rw [if_pos c17] at H
     have gW:(bB == 2)=true:=beq_iff_eq.mpr c17
     have c17b1:(bB != 2)=false:=bne_eq_false_iff_eq.mpr c17
     clear c17
     (first|rw [gW]|(simp only [av,aw];rw [gW])|skip)
     have H':=zzA H
     clear H
     go_wp2
     repeat (go_quiet (fail);try go_wp2)
     go_meet
     case rel=>exact ⟨_,((bB == 2)),(by first|rfl|(simp;done)|(simp [*];done)),H',⟨by first|omega|exact Nat.le_refl _⟩,⟨by (with_reducible repeat (first|refine aa ?_ _|refine ac ?_|refine a9 ?_ _));exact aH.out⟩,⟨by repeat (first|(with_reducible first|exact HB.out|apply a6|apply a4|apply a5|refine a7 ?_ fl.out)|exact HB.out)⟩⟩
    ·rw [if_neg c17] at H
     have gW:(bB == 2)=false:=beq_eq_false_iff_ne.mpr c17
     have c17b1:(bB != 2)=true:=bne_iff_ne.mpr c17
     (first|rw [gW]|(simp only [av,aw];rw [gW])|skip)
     have H':=zzA H
     clear H
     go_wp2
     repeat (go_quiet (fail);try go_wp2)
     go_meet
     case rel=>exact ⟨_,((bB == 4)),(by first|rfl|(simp;done)|(simp [*];done)),H',⟨by first|omega|exact Nat.le_refl _⟩,⟨by (with_reducible repeat (first|refine aa ?_ _|refine ac ?_|refine a9 ?_ _));exact aH.out⟩,⟨by repeat (first|(with_reducible first|exact HB.out|apply a6|apply a4|apply a5|refine a7 ?_ fl.out)|exact HB.out)⟩⟩
   case rest =>
    clear HC14
    try clear c1;try clear p1;try clear q1;try clear hx1;try clear p2;try clear c4;try clear c5;try clear jU;try clear c5b1;try clear p6;try clear c8;try clear c8b0;try clear c9;try clear c9b0;try clear c10;try clear iG;try clear c10b1;try clear c10b2;try clear c17;try clear gW;try clear c17b1;try clear cJ;try clear cK;try clear hcz11_2;try clear hcz11_3;try clear dd;try clear de;try clear hcz12_2;try clear hcz12_3;try clear e8;try clear ec;try clear hcz13_2;try clear hcz13_3;try clear eH;try clear eI;try clear hcz16_2;try clear hcz16_3;try clear iH;try clear iI;try clear hcz7_2;try clear hcz7_3;try clear cL;try clear cM;try clear hfz11_2;try clear hfz11_3;try clear df;try clear dg;try clear hfz12_2;try clear hfz12_3;try clear ed;try clear ee;try clear hfz13_2;try clear hfz13_3;try clear eJ;try clear eK;try clear hfz16_2;try clear hfz16_3;try clear iJ;try clear iK;try clear hfz7_2;try clear hfz7_3;try clear gh;try clear p183;try clear q183
    obtain ⟨kq,x35_13,rfl,HA,HJ13,aH,HB⟩:=hcut
    cases kq with
    | zero=>exact absurd HA.out (by simp [fastiref15_rule.j1])
    | succ kj13 =>
     have H:=HA.out
     clear HA
     simp only [fastiref15_rule.j1] at H
     by_cases c18:x35_13=true
     ·subst c18
      have H1:(if cG=0 then (some ((cj.length:Int) == 0)) else (some false))=some r:=by rw [if_pos rfl] at H;exact H
      clear H
      have H:=H1
      clear H1
      by_cases c19:cG=0
      ·rw [if_pos c19] at H
       have c19b0:(cG == 0)=true:=beq_iff_eq.mpr c19
       have c19b1:(cG != 0)=false:=bne_eq_false_iff_eq.mpr c19
       clear c19
       obtain rfl:=Option.some.inj H
       have j8:wc.cell? ⟨bj,0,none⟩=some (.int .i64 bB):=(a8 aH.out 0).trans rfl
       have j9:wc.cell? ⟨bj,1,none⟩=some (.int .i64 cG):=(a8 aH.out 1).trans rfl
       have hcz20_2:wc.cell? ⟨bj,2,none⟩=some (.slice dZ bR.length dP):=(a8 aH.out 2).trans rfl
       have hcz20_3:wc.cell? ⟨bj,3,none⟩=some (.slice dQ cj.length dR):=(a8 aH.out 3).trans rfl
       have ja:=ab aH.out 0
       have jb:=ab aH.out 1
       have hfz20_2:=ab aH.out 2
       have hfz20_3:=ab aH.out 3
       go_wp2
       repeat (go_quiet (fail);try go_wp2)
       go_ret
       exact ⟨by first|rfl|(simp [ak,al] <;> rfl)|(simp [*,ak,al] <;> rfl),by repeat (first|(with_reducible first|exact HB.out|apply a6|apply a4|apply a5|refine a7 ?_ fl.out)|exact HB.out)⟩
      ·rw [if_neg c19] at H
       have c19b0:(cG == 0)=false:=beq_eq_false_iff_ne.mpr c19
       have c19b1:(cG != 0)=true:=bne_iff_ne.mpr c19
       obtain rfl:=Option.some.inj H
       have hcz21_0:wc.cell? ⟨bj,0,none⟩=some (.int .i64 bB):=(a8 aH.out 0).trans rfl
       have hcz21_1:wc.cell? ⟨bj,1,none⟩=some (.int .i64 cG):=(a8 aH.out 1).trans rfl
       have hcz21_2:wc.cell? ⟨bj,2,none⟩=some (.slice dZ bR.length dP):=(a8 aH.out 2).trans rfl
       have hcz21_3:wc.cell? ⟨bj,3,none⟩=some (.slice dQ cj.length dR):=(a8 aH.out 3).trans rfl
       have hfz21_0:=ab aH.out 0
       have hfz21_1:=ab aH.out 1
       have hfz21_2:=ab aH.out 2
       have hfz21_3:=ab aH.out 3
       go_wp2
       repeat (go_quiet (fail);try go_wp2)
       go_ret
       exact ⟨by first|rfl|(simp [ak,al] <;> rfl)|(simp [*,ak,al] <;> rfl),by repeat (first|(with_reducible first|exact HB.out|apply a6|apply a4|apply a5|refine a7 ?_ fl.out)|exact HB.out)⟩
     ·replace c18:=Bool.eq_false_iff.mpr c18
      subst c18
      have H1:(if bB=3 then (if cG ≥ 1 then (if cG≤73048 then (some ((cj.length:Int) == 0)) else (some false)) else (some false)) else (some false))=some r:=by rw [if_neg (show ¬ (false=true) by decide)] at H;exact H
      clear H
      have H:=H1
      clear H1
      by_cases c22:bB=3
      ·rw [if_pos c22] at H
       have c22b0:(bB == 3)=true:=beq_iff_eq.mpr c22
       have c22b1:(bB != 3)=false:=bne_eq_false_iff_eq.mpr c22
       clear c22
       by_cases c23:cG ≥ 1
       ·rw [if_pos c23] at H
        have c23b0:decide (1≤cG)=true:=zzG c23
        clear c23
        by_cases c24:cG≤73048
        ·rw [if_pos c24] at H
         have c24b0:decide (cG≤73048)=true:=zzG c24
         clear c24
         obtain rfl:=Option.some.inj H
         have kK:wc.cell? ⟨bj,0,none⟩=some (.int .i64 bB):=(a8 aH.out 0).trans rfl
         have kL:wc.cell? ⟨bj,1,none⟩=some (.int .i64 cG):=(a8 aH.out 1).trans rfl
         have hcz25_2:wc.cell? ⟨bj,2,none⟩=some (.slice dZ bR.length dP):=(a8 aH.out 2).trans rfl
         have hcz25_3:wc.cell? ⟨bj,3,none⟩=some (.slice dQ cj.length dR):=(a8 aH.out 3).trans rfl
         have kM:=ab aH.out 0
         have kN:=ab aH.out 1
         have hfz25_2:=ab aH.out 2
         have hfz25_3:=ab aH.out 3
         go_wp2
         repeat (go_quiet (fail);try go_wp2)
         go_ret
         exact ⟨by first|rfl|(simp [ak,al] <;> rfl)|(simp [*,ak,al] <;> rfl),by repeat (first|(with_reducible first|exact HB.out|apply a6|apply a4|apply a5|refine a7 ?_ fl.out)|exact HB.out)⟩
        ·rw [if_neg c24] at H
         have c24b0:decide (cG≤73048)=false:=zzH c24
         clear c24
         obtain rfl:=Option.some.inj H
         have hcz26_0:wc.cell? ⟨bj,0,none⟩=some (.int .i64 bB):=(a8 aH.out 0).trans rfl
         have hcz26_1:wc.cell? ⟨bj,1,none⟩=some (.int .i64 cG):=(a8 aH.out 1).trans rfl
         have hcz26_2:wc.cell? ⟨bj,2,none⟩=some (.slice dZ bR.length dP):=(a8 aH.out 2).trans rfl
         have hcz26_3:wc.cell? ⟨bj,3,none⟩=some (.slice dQ cj.length dR):=(a8 aH.out 3).trans rfl
         have hfz26_0:=ab aH.out 0
         have hfz26_1:=ab aH.out 1
         have hfz26_2:=ab aH.out 2
         have hfz26_3:=ab aH.out 3
         go_wp2
         repeat (go_quiet (fail);try go_wp2)
         go_ret
         exact ⟨by first|rfl|(simp [ak,al] <;> rfl)|(simp [*,ak,al] <;> rfl),by repeat (first|(with_reducible first|exact HB.out|apply a6|apply a4|apply a5|refine a7 ?_ fl.out)|exact HB.out)⟩
       ·rw [if_neg c23] at H
        have c23b0:decide (1≤cG)=false:=zzH c23
        clear c23
        obtain rfl:=Option.some.inj H
        have hcz27_0:wc.cell? ⟨bj,0,none⟩=some (.int .i64 bB):=(a8 aH.out 0).trans rfl
        have hcz27_1:wc.cell? ⟨bj,1,none⟩=some (.int .i64 cG):=(a8 aH.out 1).trans rfl
        have hcz27_2:wc.cell? ⟨bj,2,none⟩=some (.slice dZ bR.length dP):=(a8 aH.out 2).trans rfl
        have hcz27_3:wc.cell? ⟨bj,3,none⟩=some (.slice dQ cj.length dR):=(a8 aH.out 3).trans rfl
        have hfz27_0:=ab aH.out 0
        have hfz27_1:=ab aH.out 1
        have hfz27_2:=ab aH.out 2
        have hfz27_3:=ab aH.out 3
        go_wp2
        repeat (go_quiet (fail);try go_wp2)
        go_ret
        exact ⟨by first|rfl|(simp [ak,al] <;> rfl)|(simp [*,ak,al] <;> rfl),by repeat (first|(with_reducible first|exact HB.out|apply a6|apply a4|apply a5|refine a7 ?_ fl.out)|exact HB.out)⟩
      ·rw [if_neg c22] at H
       have c22b0:(bB == 3)=false:=beq_eq_false_iff_ne.mpr c22
       have c22b1:(bB != 3)=true:=bne_iff_ne.mpr c22
       obtain rfl:=Option.some.inj H
       go_wp2
       repeat (go_quiet (fail);try go_wp2)
       go_ret
       exact ⟨by first|rfl|(simp [ak,al] <;> rfl)|(simp [*,ak,al] <;> rfl),by repeat (first|(with_reducible first|exact HB.out|apply a6|apply a4|apply a5|refine a7 ?_ fl.out)|exact HB.out)⟩
 ·replace c4:=Bool.eq_false_iff.mpr c4
  subst c4
  have H1:(some false)=some r:=by rw [if_neg (show ¬ (false=true) by decide)] at H;exact H
  clear H
  have H:=H1
  clear H1
  obtain rfl:=Option.some.inj H
  go_enter Try.func40,Try.ntmps40
  go_wp2_with (first|((with_reducible refine ay (N:=2) rfl ?_);(try (refine aI (by rfl) ?_;dsimp only));refine aq ?hg (N:=2) ?hd (cs:=#[.int .i64 bB,.int .i64 cG,.slice dZ bR.length dP,.slice dQ cj.length dR]) (t:=49) ?hr ?_;(case hd=>rfl);(case hg=>rfl);(case hr=>first|(go_simp;done)|(go_simp;rfl));intro bj hg w28 hbox hb;have n0_:=zzA (ag (by repeat (first|(with_reducible first|exact HB.out|apply a6|apply a4|apply a5)|exact HB.out)) hb);have n1_:=zzA (hbox);have n2_:=zzA ((by rw [hg];exact (ae (by repeat (first|(with_reducible first|exact HB.out|apply a6|apply a4|apply a5)|exact HB.out))):w.heap.size≤bj));have n3_:=zzA ((by rw [hg];exact (ae (by repeat (first|(with_reducible first|exact HB.out|apply a6|apply a4|apply a5)|exact HB.out))):w.heap.size≤bj));clear HB;have HB:=n0_;have aH:=n1_;have GW181:=n2_;have fl:=n3_;clear n0_ n1_ n2_ n3_;clear hb hbox hg;have hcz29_0:w28.cell? ⟨bj,0,none⟩=some (.int .i64 bB):=(a8 aH.out 0).trans rfl;have hcz29_1:w28.cell? ⟨bj,1,none⟩=some (.int .i64 cG):=(a8 aH.out 1).trans rfl;have hcz29_2:w28.cell? ⟨bj,2,none⟩=some (.slice dZ bR.length dP):=(a8 aH.out 2).trans rfl;have hcz29_3:w28.cell? ⟨bj,3,none⟩=some (.slice dQ cj.length dR):=(a8 aH.out 3).trans rfl;have hfz29_0:=ab aH.out 0;have hfz29_1:=ab aH.out 1;have hfz29_2:=ab aH.out 2;have hfz29_3:=ab aH.out 3)|(go_at_call 59;(with_reducible refine (fastiref15_vars.calls k _ _ bR a1 false _ ?side1 ?side2 A3.out).mono ?_);(case side1=>repeat (first|exact (zzI iL.out HB.out)|(with_reducible refine Kd.C_alloc ?_ _)|(with_reducible refine Kd.C_drewN ?_ _)|(with_reducible refine Kd.C_drew ?_)));(case side2=>exact l4.out);rintro e w' ⟨rfl,⟨nd,rfl⟩⟩;(try first|exact ⟨rfl,_,World.drewN_drewN _ _ _⟩|exact ⟨rfl,_,Eq.trans (World.drewN_drewN _ _ _) (congrArg (World.drewN _) (Nat.add_assoc _ _ _))⟩)))
  repeat (go_quiet (first|((with_reducible refine ay (N:=2) rfl ?_);(try (refine aI (by rfl) ?_;dsimp only));refine aq ?hg (N:=2) ?hd (cs:=#[.int .i64 bB,.int .i64 cG,.slice dZ bR.length dP,.slice dQ cj.length dR]) (t:=49) ?hr ?_;(case hd=>rfl);(case hg=>rfl);(case hr=>first|(go_simp;done)|(go_simp;rfl));intro bj hg w28 hbox hb;have n0_:=zzA (ag (by repeat (first|(with_reducible first|exact HB.out|apply a6|apply a4|apply a5)|exact HB.out)) hb);have n1_:=zzA (hbox);have n2_:=zzA ((by rw [hg];exact (ae (by repeat (first|(with_reducible first|exact HB.out|apply a6|apply a4|apply a5)|exact HB.out))):w.heap.size≤bj));have n3_:=zzA ((by rw [hg];exact (ae (by repeat (first|(with_reducible first|exact HB.out|apply a6|apply a4|apply a5)|exact HB.out))):w.heap.size≤bj));clear HB;have HB:=n0_;have aH:=n1_;have GW181:=n2_;have fl:=n3_;clear n0_ n1_ n2_ n3_;clear hb hbox hg;have hcz29_0:w28.cell? ⟨bj,0,none⟩=some (.int .i64 bB):=(a8 aH.out 0).trans rfl;have hcz29_1:w28.cell? ⟨bj,1,none⟩=some (.int .i64 cG):=(a8 aH.out 1).trans rfl;have hcz29_2:w28.cell? ⟨bj,2,none⟩=some (.slice dZ bR.length dP):=(a8 aH.out 2).trans rfl;have hcz29_3:w28.cell? ⟨bj,3,none⟩=some (.slice dQ cj.length dR):=(a8 aH.out 3).trans rfl;have hfz29_0:=ab aH.out 0;have hfz29_1:=ab aH.out 1;have hfz29_2:=ab aH.out 2;have hfz29_3:=ab aH.out 3)|(go_at_call 59;(with_reducible refine (fastiref15_vars.calls k _ _ bR a1 false _ ?side1 ?side2 A3.out).mono ?_);(case side1=>repeat (first|exact (zzI iL.out HB.out)|(with_reducible refine Kd.C_alloc ?_ _)|(with_reducible refine Kd.C_drewN ?_ _)|(with_reducible refine Kd.C_drew ?_)));(case side2=>exact l4.out);rintro e w' ⟨rfl,⟨nd,rfl⟩⟩;(try first|exact ⟨rfl,_,World.drewN_drewN _ _ _⟩|exact ⟨rfl,_,Eq.trans (World.drewN_drewN _ _ _) (congrArg (World.drewN _) (Nat.add_assoc _ _ _))⟩)));try go_wp2_with (first|((with_reducible refine ay (N:=2) rfl ?_);(try (refine aI (by rfl) ?_;dsimp only));refine aq ?hg (N:=2) ?hd (cs:=#[.int .i64 bB,.int .i64 cG,.slice dZ bR.length dP,.slice dQ cj.length dR]) (t:=49) ?hr ?_;(case hd=>rfl);(case hg=>rfl);(case hr=>first|(go_simp;done)|(go_simp;rfl));intro bj hg w28 hbox hb;have n0_:=zzA (ag (by repeat (first|(with_reducible first|exact HB.out|apply a6|apply a4|apply a5)|exact HB.out)) hb);have n1_:=zzA (hbox);have n2_:=zzA ((by rw [hg];exact (ae (by repeat (first|(with_reducible first|exact HB.out|apply a6|apply a4|apply a5)|exact HB.out))):w.heap.size≤bj));have n3_:=zzA ((by rw [hg];exact (ae (by repeat (first|(with_reducible first|exact HB.out|apply a6|apply a4|apply a5)|exact HB.out))):w.heap.size≤bj));clear HB;have HB:=n0_;have aH:=n1_;have GW181:=n2_;have fl:=n3_;clear n0_ n1_ n2_ n3_;clear hb hbox hg;have hcz29_0:w28.cell? ⟨bj,0,none⟩=some (.int .i64 bB):=(a8 aH.out 0).trans rfl;have hcz29_1:w28.cell? ⟨bj,1,none⟩=some (.int .i64 cG):=(a8 aH.out 1).trans rfl;have hcz29_2:w28.cell? ⟨bj,2,none⟩=some (.slice dZ bR.length dP):=(a8 aH.out 2).trans rfl;have hcz29_3:w28.cell? ⟨bj,3,none⟩=some (.slice dQ cj.length dR):=(a8 aH.out 3).trans rfl;have hfz29_0:=ab aH.out 0;have hfz29_1:=ab aH.out 1;have hfz29_2:=ab aH.out 2;have hfz29_3:=ab aH.out 3)|(go_at_call 59;(with_reducible refine (fastiref15_vars.calls k _ _ bR a1 false _ ?side1 ?side2 A3.out).mono ?_);(case side1=>repeat (first|exact (zzI iL.out HB.out)|(with_reducible refine Kd.C_alloc ?_ _)|(with_reducible refine Kd.C_drewN ?_ _)|(with_reducible refine Kd.C_drew ?_)));(case side2=>exact l4.out);rintro e w' ⟨rfl,⟨nd,rfl⟩⟩;(try first|exact ⟨rfl,_,World.drewN_drewN _ _ _⟩|exact ⟨rfl,_,Eq.trans (World.drewN_drewN _ _ _) (congrArg (World.drewN _) (Nat.add_assoc _ _ _))⟩))))
  go_ret
  exact ⟨by first|rfl|(simp [ak,al] <;> rfl)|(simp [*,ak,al] <;> rfl),by repeat (first|(with_reducible first|exact HB.out|apply a6|apply a4|apply a5|refine a7 ?_ fl.out)|exact HB.out)⟩
mutual
def fastiref15_Check.l0:Nat→Int→List (List Int)→List (S49)→Option (Int)
 | 0,_,_,_=>none
 | k+1,x3,gj,fm=>if x3 < (gj.length:Int) then (if 0≤x3 then ((fastiref15_domain.f k (ao gj x3)).bind fun t187=>(if t187=true then (fastiref15_Check.l0 k (wrap64 (x3+1)) gj fm) else (some 150))) else (none)) else (fastiref15_Check.l1 k 0 gj fm)
def fastiref15_Check.l1:Nat→Int→List (List Int)→List (S49)→Option (Int)
 | 0,_,_,_=>none
 | k+1,x4,gj,fm=>if x4 < (fm.length:Int) then (if 0≤x4 then ((fastiref15_rule.f k ((aj fm x4).f0) ((aj fm x4).f1) ((aj fm x4).f2) ((aj fm x4).f3) (gj.length:Int)).bind fun t189=>(if t189=true then (fastiref15_Check.l1 k (wrap64 (x4+1)) gj fm) else (some 150))) else (none)) else ((fastiref15_Tries.f k gj fm).bind fun t190=>(if t190 > 65536 then (some 2) else (some 0)))
end
def fastiref15_Check.f (k:Nat) (ai:List (List Int)) (ah:List (S49)):Option (Int):=(fastiref15_short.f k ai ah).bind fun t185=>(if t185=true then (if (ai.length:Int)=0 then (some 150) else (fastiref15_Check.l0 k 0 ai ah)) else (some 2))
def fastiref15_Check.T13:Bool × List (List Nat × List Nat):=(true,[([],[]),([0],[0]),([],[]),([1,2],[1,2]),([3],[3]),([],[]),([5],[5]),([6],[6]),([4,7],[4,7]),([8],[8])])
def fastiref15_Check.B13:List Nat:=[0,1,0,7,15,0,32,96,255,511]
theorem fastiref15_Check.tab13:fU .any (gP Try.f18 13)=fastiref15_Check.T13:=by kernel_rfl
theorem fastiref15_Check.bits13:fC fastiref15_Check.T13.2 fastiref15_Check.B13=true:=by kernel_rfl
set_option maxHeartbeats 8000000 in
set_option maxRecDepth 100000 in
theorem fastiref15_Check.calls (k:Nat) (ax:Option Addr) (ap:Nat) (ai:List (List Int)) (au:Option Addr) (am:Nat) (ah:List (S49)) (r:Int) (w:World) (bV:Kd.C (Kd.slice 3 (Kd.int .i64)) w ax ai.length ai) (bX:ai.length≤ap) (bP:Kd.C k49 w au ah.length ah) (bU:ah.length≤am) (h:fastiref15_Check.f k ai ah=some r) :
  Calls Try.prog 18 #[.agg #[.slice ax ai.length ap,.slice au ah.length am]] w fun e w'=>e=.returned (.int .i64 r)∧Below w.heap.size w w':=by
 have hu25:=Try.underlying25
 have hu49:=Try.underlying49
 have bz:=zzA bV
 have bH:=zzA bX
 clear bV bX
 have bq:=zzA bP
 have bF:=zzA bU
 clear bP bU
 have HB:=zzA (Below.refl w.heap.size w)
 have H:((fastiref15_short.f k ai ah).bind fun t185=>(if t185=true then (if (ai.length:Int)=0 then (some 150) else (fastiref15_Check.l0 k 0 ai ah)) else (some 2)))=some r:=h
 clear h
 replace H:=Option.bind_eq_some_iff.mp H
 obtain ⟨t185,A20,H⟩:=H
 replace H:(if t185=true then (if (ai.length:Int)=0 then (some 150) else (fastiref15_Check.l0 k 0 ai ah)) else (some 2))=some r:=H
 have A2:=zzA A20
 clear A20
 by_cases c3:t185=true
 ·subst c3
  have H1:(if (ai.length:Int)=0 then (some 150) else (fastiref15_Check.l0 k 0 ai ah))=some r:=by rw [if_pos rfl] at H;exact H
  clear H
  have H:=H1
  clear H1
  by_cases c4:(ai.length:Int)=0
  ·rw [if_pos c4] at H
   have f8:((ai.length:Int) == 0)=true:=beq_iff_eq.mpr c4
   have c4b1:((ai.length:Int) != 0)=false:=bne_eq_false_iff_eq.mpr c4
   clear c4
   obtain rfl:=Option.some.inj H
   go_enter Try.func18,Try.ntmps18
   go_wp2_with (first|((with_reducible refine ay (N:=1) rfl ?_);refine aq ?hg (N:=1) ?hd (cs:=#[.slice ax ai.length ap,.slice au ah.length am]) (t:=25) ?hr ?_;(case hd=>rfl);(case hg=>rfl);(case hr=>first|(go_simp;done)|(go_simp;rfl));intro cO hg w5 hbox hb;have n0_:=zzA (ag (by repeat (first|(with_reducible first|exact HB.out|apply a6|apply a4|apply a5)|exact HB.out)) hb);have n1_:=zzA (hbox);have n2_:=zzA ((by rw [hg];exact (ae (by repeat (first|(with_reducible first|exact HB.out|apply a6|apply a4|apply a5)|exact HB.out))):w.heap.size≤cO));have n3_:=zzA ((by rw [hg];exact (ae (by repeat (first|(with_reducible first|exact HB.out|apply a6|apply a4|apply a5)|exact HB.out))):w.heap.size≤cO));clear HB;have HB:=n0_;have bm:=n1_;have GW184:=n2_;have fL:=n3_;clear n0_ n1_ n2_ n3_;clear hb hbox hg;have ez:w5.cell? ⟨cO,0,none⟩=some (.slice ax ai.length ap):=(a8 bm.out 0).trans rfl;have eA:w5.cell? ⟨cO,1,none⟩=some (.slice au ah.length am):=(a8 bm.out 1).trans rfl;have eB:=ab bm.out 0;have eC:=ab bm.out 1)|((with_reducible refine ar (f:=29) rfl ?_);refine bi (some 6) rfl rfl Try.func29 (by kernel_rfl) rfl #[.agg #[.slice ax ai.length ap,.slice au ah.length am]] rfl (by (try simp only [List.map_toArray,List.map_cons,List.map_nil]);first|done|rfl|(simp only [List.length_drop,List.length_take];rfl)) ?_;(with_reducible refine (fastiref15_short.calls k _ _ ai _ _ ah true _ ?side1 ?side2 ?side3 ?side4 A2.out).mono ?_);(case side1=>repeat (first|exact (zzI bz.out HB.out)|(with_reducible refine Kd.C_alloc ?_ _)|(with_reducible refine Kd.C_drewN ?_ _)|(with_reducible refine Kd.C_drew ?_)));(case side2=>exact bH.out);(case side3=>repeat (first|exact (zzI bq.out HB.out)|(with_reducible refine Kd.C_alloc ?_ _)|(with_reducible refine Kd.C_drewN ?_ _)|(with_reducible refine Kd.C_drew ?_)));(case side4=>exact bF.out);rintro e w7 ⟨rfl,hb⟩;refine ⟨_,rfl,?_⟩;have n0_:=zzA (af (g:=cO) (o:=.cells #[.slice ax ai.length ap,.slice au ah.length am] 25 (0,0)) (by (with_reducible repeat (first|refine aa ?_ _|refine ac ?_|refine a9 ?_ _));exact bm.out) hb);have n1_:=zzA (ag (by repeat (first|(with_reducible first|exact HB.out|apply a6|apply a4|apply a5|refine a7 ?_ fL.out)|exact HB.out)) hb);clear bm;clear HB;have bm:=n0_;have HB:=n1_;clear n0_ n1_;(try clear hb);(try clear hb2);(try clear hk);(try clear hi);have eD:w7.cell? ⟨cO,0,none⟩=some (.slice ax ai.length ap):=(a8 bm.out 0).trans rfl;have eE:w7.cell? ⟨cO,1,none⟩=some (.slice au ah.length am):=(a8 bm.out 1).trans rfl;have eF:=ab bm.out 0;have eG:=ab bm.out 1))
   go_ret
   exact ⟨by first|rfl|(simp [ak,al] <;> rfl)|(simp [*,ak,al] <;> rfl),by repeat (first|(with_reducible first|exact HB.out|apply a6|apply a4|apply a5|refine a7 ?_ fL.out)|exact HB.out)⟩
  ·rw [if_neg c4] at H
   have f8:((ai.length:Int) == 0)=false:=beq_eq_false_iff_ne.mpr c4
   have c4b1:((ai.length:Int) != 0)=true:=bne_iff_ne.mpr c4
   have c4b2:¬ (ai=[]):=fun h_=>c4 (by rw [h_];rfl)
   have H':=zzA H
   clear H
   go_enter Try.func18,Try.ntmps18
   go_wp2_with (first|((with_reducible refine ay (N:=1) rfl ?_);refine aq ?hg (N:=1) ?hd (cs:=#[.slice ax ai.length ap,.slice au ah.length am]) (t:=25) ?hr ?_;(case hd=>rfl);(case hg=>rfl);(case hr=>first|(go_simp;done)|(go_simp;rfl));intro cO hg w9 hbox hb;have n0_:=zzA (ag (by repeat (first|(with_reducible first|exact HB.out|apply a6|apply a4|apply a5)|exact HB.out)) hb);have n1_:=zzA (hbox);have n2_:=zzA ((by rw [hg];exact (ae (by repeat (first|(with_reducible first|exact HB.out|apply a6|apply a4|apply a5)|exact HB.out))):w.heap.size≤cO));have n3_:=zzA ((by rw [hg];exact (ae (by repeat (first|(with_reducible first|exact HB.out|apply a6|apply a4|apply a5)|exact HB.out))):w.heap.size≤cO));clear HB;have HB:=n0_;have bm:=n1_;have GW184:=n2_;have fL:=n3_;clear n0_ n1_ n2_ n3_;clear hb hbox hg;have ef:w9.cell? ⟨cO,0,none⟩=some (.slice ax ai.length ap):=(a8 bm.out 0).trans rfl;have eh:w9.cell? ⟨cO,1,none⟩=some (.slice au ah.length am):=(a8 bm.out 1).trans rfl;have ei:=ab bm.out 0;have ej:=ab bm.out 1)|((with_reducible refine ar (f:=29) rfl ?_);refine bi (some 6) rfl rfl Try.func29 (by kernel_rfl) rfl #[.agg #[.slice ax ai.length ap,.slice au ah.length am]] rfl (by (try simp only [List.map_toArray,List.map_cons,List.map_nil]);first|done|rfl|(simp only [List.length_drop,List.length_take];rfl)) ?_;(with_reducible refine (fastiref15_short.calls k _ _ ai _ _ ah true _ ?side1 ?side2 ?side3 ?side4 A2.out).mono ?_);(case side1=>repeat (first|exact (zzI bz.out HB.out)|(with_reducible refine Kd.C_alloc ?_ _)|(with_reducible refine Kd.C_drewN ?_ _)|(with_reducible refine Kd.C_drew ?_)));(case side2=>exact bH.out);(case side3=>repeat (first|exact (zzI bq.out HB.out)|(with_reducible refine Kd.C_alloc ?_ _)|(with_reducible refine Kd.C_drewN ?_ _)|(with_reducible refine Kd.C_drew ?_)));(case side4=>exact bF.out);rintro e w11 ⟨rfl,hb⟩;refine ⟨_,rfl,?_⟩;have n0_:=zzA (af (g:=cO) (o:=.cells #[.slice ax ai.length ap,.slice au ah.length am] 25 (0,0)) (by (with_reducible repeat (first|refine aa ?_ _|refine ac ?_|refine a9 ?_ _));exact bm.out) hb);have n1_:=zzA (ag (by repeat (first|(with_reducible first|exact HB.out|apply a6|apply a4|apply a5|refine a7 ?_ fL.out)|exact HB.out)) hb);clear bm;clear HB;have bm:=n0_;have HB:=n1_;clear n0_ n1_;(try clear hb);(try clear hb2);(try clear hk);(try clear hi);have dd:w11.cell? ⟨cO,0,none⟩=some (.slice ax ai.length ap):=(a8 bm.out 0).trans rfl;have de:w11.cell? ⟨cO,1,none⟩=some (.slice au ah.length am):=(a8 bm.out 1).trans rfl;have df:=ab bm.out 0;have dg:=ab bm.out 1))
   go_loopg [3] k (fun kq v3 w'=>∃ (x3_1:Int),v3=.int .i64 x3_1∧Aside0 (fastiref15_Check.l0 kq x3_1 ai ah=some r)∧Aside0 (kq≤k)∧Aside0 (w'.heap[cO]?=some (.cells #[(.slice ax ai.length ap),(.slice au ah.length am)] 25 (0,0)))∧Aside0 (Below w.heap.size w w'))
   case atStart=>exact ⟨(0),(by first|rfl|(simp;done)|(simp [*];done)),H',⟨Nat.le_refl _⟩,⟨by (with_reducible repeat (first|refine aa ?_ _|refine ac ?_|refine a9 ?_ _));exact bm.out⟩,⟨by repeat (first|(with_reducible first|exact HB.out|apply a6|apply a4|apply a5|refine a7 ?_ fL.out)|exact HB.out)⟩⟩
   case round =>
    clear H'
    try clear c1;try clear c2;try clear p2;try clear c3;try clear c4;try clear f8;try clear c4b1;try clear c4b2;try clear ef;try clear eh;try clear dd;try clear de;try clear ez;try clear eA;try clear eD;try clear eE;try clear ei;try clear ej;try clear df;try clear dg;try clear eB;try clear eC;try clear eF;try clear eG
    obtain ⟨x3_1,rfl,HA,HK1,bm,HB⟩:=hrel
    cases gk with
    | zero=>exact absurd HA.out (by simp [fastiref15_Check.l0])
    | succ k1 =>
     have H:=HA.out
     clear HA
     simp only [fastiref15_Check.l0] at H
     by_cases c13:x3_1 < (ai.length:Int)
     ·rw [if_pos c13] at H
      have c13b0:decide (x3_1 < (ai.length:Int))=true:=zzG c13
      clear c13
      by_cases c14:0≤x3_1
      ·rw [if_pos c14] at H
       have c14b0:decide (0≤x3_1)=true:=zzG c14
       clear c14
       replace H:=Option.bind_eq_some_iff.mp H
       obtain ⟨t187,A150,H⟩:=H
       replace H:(if t187=true then (fastiref15_Check.l0 k1 (wrap64 (x3_1+1)) ai ah) else (some 150))=some r:=H
       have A15:=zzA A150
       clear A150
       by_cases c16:t187=true
       ·subst c16
        have H1:(fastiref15_Check.l0 k1 (wrap64 (x3_1+1)) ai ah)=some r:=by rw [if_pos rfl] at H;exact H
        clear H
        have H:=H1
        clear H1
        have H':=zzA H
        clear H
        have fG:wr.cell? ⟨cO,0,none⟩=some (.slice ax ai.length ap):=(a8 bm.out 0).trans rfl
        have fH:wr.cell? ⟨cO,1,none⟩=some (.slice au ah.length am):=(a8 bm.out 1).trans rfl
        have fJ:=ab bm.out 0
        have fK:=ab bm.out 1
        have p186:0≤(x3_1:Int):=zzF (by first|(with_reducible assumption)|assumption)
        have q186:x3_1 < (ai.length:Int):=zzF (by first|(with_reducible assumption)|assumption)
        obtain ⟨ad186,A186_0,c186_0,e186,gl,l7,l8⟩:=et bz.out x3_1 p186 q186
        cases e186
        replace gl:=(HB.out.cell (zzE w _ gl)).trans gl
        have HR186_0:=zzA l8
        have HC186_0:=zzA l7
        clear l8 l7
        replace p186:=eq_true p186
        replace q186:=eq_true q186
        go_wp2_with (first|((with_reducible refine ar (f:=39) rfl ?_);refine bi (some 24) rfl rfl Try.func39 (by kernel_rfl) rfl #[.slice A186_0 (ao ai x3_1).length c186_0] rfl (by (try simp only [List.map_toArray,List.map_cons,List.map_nil]);first|done|rfl|(simp only [List.length_drop,List.length_take];rfl)) ?_;(with_reducible refine (fastiref15_domain.calls k1 _ _ (ao ai x3_1) true _ ?side1 ?side2 A15.out).mono ?_);(case side1=>repeat (first|exact (zzI HR186_0.out HB.out)|(with_reducible refine Kd.C_alloc ?_ _)|(with_reducible refine Kd.C_drewN ?_ _)|(with_reducible refine Kd.C_drew ?_)));(case side2=>exact HC186_0.out);rintro e w' ⟨rfl,⟨nd,rfl⟩⟩;refine ⟨_,rfl,?_⟩))
        go_roundg k1
        case measure=>have:=HK1.out;omega
        case rel=>exact ⟨(wrap64 (x3_1+1)),(by first|rfl|(simp;done)|(simp [*];done)),H',⟨by have:=HK1.out;omega⟩,⟨by (with_reducible repeat (first|refine aa ?_ _|refine ac ?_|refine a9 ?_ _));exact bm.out⟩,⟨by repeat (first|(with_reducible first|exact HB.out|apply a6|apply a4|apply a5|refine a7 ?_ fL.out)|exact HB.out)⟩⟩
       ·replace c16:=Bool.eq_false_iff.mpr c16
        subst c16
        have H1:(some 150)=some r:=by rw [if_neg (show ¬ (false=true) by decide)] at H;exact H
        clear H
        have H:=H1
        clear H1
        obtain rfl:=Option.some.inj H
        have hcz18_0:wr.cell? ⟨cO,0,none⟩=some (.slice ax ai.length ap):=(a8 bm.out 0).trans rfl
        have hcz18_1:wr.cell? ⟨cO,1,none⟩=some (.slice au ah.length am):=(a8 bm.out 1).trans rfl
        have hfz18_0:=ab bm.out 0
        have hfz18_1:=ab bm.out 1
        have p186:0≤(x3_1:Int):=zzF (by first|(with_reducible assumption)|assumption)
        have q186:x3_1 < (ai.length:Int):=zzF (by first|(with_reducible assumption)|assumption)
        obtain ⟨ad186,A186_0,c186_0,e186,gl,l7,l8⟩:=et bz.out x3_1 p186 q186
        cases e186
        replace gl:=(HB.out.cell (zzE w _ gl)).trans gl
        have HR186_0:=zzA l8
        have HC186_0:=zzA l7
        clear l8 l7
        replace p186:=eq_true p186
        replace q186:=eq_true q186
        go_wp2_with (first|((with_reducible refine ar (f:=39) rfl ?_);refine bi (some 24) rfl rfl Try.func39 (by kernel_rfl) rfl #[.slice A186_0 (ao ai x3_1).length c186_0] rfl (by (try simp only [List.map_toArray,List.map_cons,List.map_nil]);first|done|rfl|(simp only [List.length_drop,List.length_take];rfl)) ?_;(with_reducible refine (fastiref15_domain.calls k1 _ _ (ao ai x3_1) false _ ?side1 ?side2 A15.out).mono ?_);(case side1=>repeat (first|exact (zzI HR186_0.out HB.out)|(with_reducible refine Kd.C_alloc ?_ _)|(with_reducible refine Kd.C_drewN ?_ _)|(with_reducible refine Kd.C_drew ?_)));(case side2=>exact HC186_0.out);rintro e w' ⟨rfl,⟨nd,rfl⟩⟩;refine ⟨_,rfl,?_⟩))
        go_ret
        exact ⟨by first|rfl|(simp [ak,al] <;> rfl)|(simp [*,ak,al] <;> rfl),by repeat (first|(with_reducible first|exact HB.out|apply a6|apply a4|apply a5|refine a7 ?_ fL.out)|exact HB.out)⟩
      ·rw [if_neg c14] at H
       exact absurd H (by simp)
     ·rw [if_neg c13] at H
      have c13b0:decide (x3_1 < (ai.length:Int))=false:=zzH c13
      clear c13
      have H':=zzA H
      clear H
      have hcz19_0:wr.cell? ⟨cO,0,none⟩=some (.slice ax ai.length ap):=(a8 bm.out 0).trans rfl
      have hcz19_1:wr.cell? ⟨cO,1,none⟩=some (.slice au ah.length am):=(a8 bm.out 1).trans rfl
      have hfz19_0:=ab bm.out 0
      have hfz19_1:=ab bm.out 1
      go_wp2
      go_loopg [4] k1 (fun kq v4 w'=>∃ (x4_2:Int),v4=.int .i64 x4_2∧Aside0 (fastiref15_Check.l1 kq x4_2 ai ah=some r)∧Aside0 (kq≤k1)∧Aside0 (w'.heap[cO]?=some (.cells #[(.slice ax ai.length ap),(.slice au ah.length am)] 25 (0,0)))∧Aside0 (Below w.heap.size w w'))
      case atStart=>exact ⟨(0),(by first|rfl|(simp;done)|(simp [*];done)),H',⟨Nat.le_refl _⟩,⟨by (with_reducible repeat (first|refine aa ?_ _|refine ac ?_|refine a9 ?_ _));exact bm.out⟩,⟨by repeat (first|(with_reducible first|exact HB.out|apply a6|apply a4|apply a5|refine a7 ?_ fL.out)|exact HB.out)⟩⟩
      case round =>
       clear H'
       try clear c1;try clear p1;try clear q1;try clear hx1;try clear c2;try clear p2;try clear c3;try clear c4;try clear f8;try clear c4b1;try clear c4b2;try clear p6;try clear c13;try clear c13b0;try clear c14;try clear c14b0;try clear c16;try clear c18;try clear p18;try clear q18;try clear hx18;try clear ef;try clear eh;try clear dd;try clear de;try clear fG;try clear fH;try clear hcz18_0;try clear hcz18_1;try clear hcz19_0;try clear hcz19_1;try clear ez;try clear eA;try clear eD;try clear eE;try clear ei;try clear ej;try clear df;try clear dg;try clear fJ;try clear fK;try clear hfz18_0;try clear hfz18_1;try clear hfz19_0;try clear hfz19_1;try clear eB;try clear eC;try clear eF;try clear eG;try clear gl;try clear p186;try clear q186
       obtain ⟨x4_2,rfl,HA,HK2,bm,HB⟩:=hrel
       cases gk with
       | zero=>exact absurd HA.out (by simp [fastiref15_Check.l1])
       | succ k2 =>
        have H:=HA.out
        clear HA
        simp only [fastiref15_Check.l1] at H
        by_cases c20:x4_2 < (ah.length:Int)
        ·rw [if_pos c20] at H
         have c20b0:decide (x4_2 < (ah.length:Int))=true:=zzG c20
         clear c20
         by_cases c21:0≤x4_2
         ·rw [if_pos c21] at H
          have jM:decide (0≤x4_2)=true:=zzG c21
          clear c21
          replace H:=Option.bind_eq_some_iff.mp H
          obtain ⟨t189,A220,H⟩:=H
          replace H:(if t189=true then (fastiref15_Check.l1 k2 (wrap64 (x4_2+1)) ai ah) else (some 150))=some r:=H
          have A22:=zzA A220
          clear A220
          by_cases c23:t189=true
          ·subst c23
           have H1:(fastiref15_Check.l1 k2 (wrap64 (x4_2+1)) ai ah)=some r:=by rw [if_pos rfl] at H;exact H
           clear H
           have H:=H1
           clear H1
           have H':=zzA H
           clear H
           have ji:wr.cell? ⟨cO,0,none⟩=some (.slice ax ai.length ap):=(a8 bm.out 0).trans rfl
           have jk:wr.cell? ⟨cO,1,none⟩=some (.slice au ah.length am):=(a8 bm.out 1).trans rfl
           have jl:=ab bm.out 0
           have jm:=ab bm.out 1
           try go_wp2
           have n0_:=zzA (ac bm.out)
           have n1_:=zzA (a5 HB.out)
           clear bm
           clear HB
           have bm:=n0_
           have HB:=n1_
           clear n0_ n1_
           have p188:0≤(x4_2:Int):=zzF (by first|(with_reducible assumption)|assumption)
           have q188:x4_2 < (ah.length:Int):=zzF (by first|(with_reducible assumption)|assumption)
           obtain ⟨ad188,A188_2,c188_2,A188_3,c188_3,e188,eL,eM,eN,eO,l9,la,lc,ld⟩:=ex bq.out x4_2 p188 q188
           have fM:=eO
           have fN:=eN
           have fO:=eM
           have fP:=eL
           cases e188
           replace eL:=(HB.out.cell (zzE w _ eL)).trans eL
           replace eM:=(HB.out.cell (zzE w _ eM)).trans eM
           replace eN:=(HB.out.cell (zzE w _ eN)).trans eN
           replace eO:=(HB.out.cell (zzE w _ eO)).trans eO
           have le:=zzA la
           have HC188_2:=zzA l9
           clear la l9
           have lf:=zzA ld
           have HC188_3:=zzA lc
           clear ld lc
           replace p188:=eq_true p188
           replace q188:=eq_true q188
           refine ff (n:=10) (S:=fun w'=>w'.cell? ⟨cO,0,none⟩=some (.slice ax ai.length ap)∧w'.cell? ⟨cO,1,none⟩=some (.slice (some ad188) ah.length am)∧w'.cell? (ad188.add ((x4_2).toNat * 4))=some (.int .i64 ((aj ah x4_2).f0))∧w'.cell? ⟨(ad188.add ((x4_2).toNat * 4)).block,(ad188.add ((x4_2).toNat * 4)).off+1,none⟩=some (.int .i64 ((aj ah x4_2).f1))∧w'.cell? ⟨(ad188.add ((x4_2).toNat * 4)).block,(ad188.add ((x4_2).toNat * 4)).off+2,none⟩=some (.slice A188_2 ((aj ah x4_2).f2).length c188_2)∧w'.cell? ⟨(ad188.add ((x4_2).toNat * 4)).block,(ad188.add ((x4_2).toNat * 4)).off+3,none⟩=some (.slice A188_3 ((aj ah x4_2).f3).length c188_3)) (ds:=[]) #[false,false,false,false,false,false,false,false,false,false] (by kernel_rfl) rfl rfl ⟨(a8 bm.out 0).trans rfl,(a8 bm.out 1).trans rfl,((HB.out.cell (zzE w _ fP)).trans fP),((HB.out.cell (zzE w _ fO)).trans fO),((HB.out.cell (zzE w _ fN)).trans fN),((HB.out.cell (zzE w _ fM)).trans fM)⟩ (fun hHeld=>?_);refine dy fastiref15_Check.tab13 fastiref15_Check.bits13 (fun HT_ HW_=>?_)
           generalize wr.drew=w25 at bm HB le lf eL eM eN eO hHeld ⊢
           refine bh (i:=0) (N:=some 33) (v:=?_) (a':=?_) #[true,false,false,false,false,false,false,false,false,false] rfl rfl (aG HT_.out (by kernel_rfl)) (fun _ _ _ h=>h) (Or.inl ⟨by rfl,?_⟩) ?_ ?_
           rotate_left
           ·intro w'
            go_simp
            with_reducible rfl
           rotate_left
           ·simp only [Act.put,zzB,zzC,zzD,av,aw]
            rfl
           refine bh (i:=2) (N:=some 35) (v:=?_) (a':=?_) #[true,false,true,false,false,false,false,false,false,false] rfl rfl (aG HT_.out (by kernel_rfl)) (fun _ _ _ h=>h) (Or.inl ⟨by rfl,?_⟩) ?_ ?_
           rotate_left
           ·intro w'
            go_simp
            with_reducible rfl
           rotate_left
           ·simp only [Act.put,zzB,zzC,zzD,av,aw]
            rfl
           refine bh (i:=5) (N:=some 38) (v:=?_) (a':=?_) #[true,false,true,false,false,true,false,false,false,false] rfl rfl (aG HT_.out (by kernel_rfl)) (fun _ _ _ h=>h) (Or.inl ⟨by rfl,?_⟩) ?_ ?_
           rotate_left
           ·intro w'
            go_simp
            with_reducible rfl
           rotate_left
           ·simp only [Act.put,zzB,zzC,zzD,av,aw]
            rfl
           refine take_ (i:=1) (N:=some 34) (v:=?_) (a':=?_) #[true,true,true,false,false,true,false,false,false,false] rfl rfl (bI HT_.out HW_.out (by kernel_rfl)) (fun _ _ _ h=>h) (Or.inl ⟨by rfl,?_⟩) hHeld ?_ ?_
           rotate_left
           ·rintro w' ⟨s0,s1,s2,s3,s4,s5⟩
            go_simp
            with_reducible rfl
           rotate_left
           ·simp only [Act.put,zzB,zzC,zzD,av,aw]
            rfl
           refine bh (i:=3) (N:=some 36) (v:=?_) (a':=?_) #[true,true,true,true,false,true,false,false,false,false] rfl rfl (aG HT_.out (by kernel_rfl)) (fun _ _ _ h=>h) (Or.inl ⟨by rfl,?_⟩) ?_ ?_
           rotate_left
           ·intro w'
            go_simp
            with_reducible rfl
           rotate_left
           ·simp only [Act.put,zzB,zzC,zzD,av,aw]
            rfl
           refine take_ (i:=4) (N:=some 37) (v:=?_) (a':=?_) #[true,true,true,true,true,true,false,false,false,false] rfl rfl (bI HT_.out HW_.out (by kernel_rfl)) (fun _ _ _ h=>h) (Or.inl ⟨by rfl,?_⟩) hHeld ?_ ?_
           rotate_left
           ·rintro w' ⟨s0,s1,s2,s3,s4,s5⟩
            go_simp
            with_reducible rfl
           rotate_left
           ·simp only [Act.put,zzB,zzC,zzD,av,aw]
            rfl
           refine take_ (i:=6) (N:=some 39) (v:=?_) (a':=?_) #[true,true,true,true,true,true,true,false,false,false] rfl rfl (bI HT_.out HW_.out (by kernel_rfl)) (fun _ _ _ h=>h) (Or.inl ⟨by rfl,?_⟩) hHeld ?_ ?_
           rotate_left
           ·rintro w' ⟨s0,s1,s2,s3,s4,s5⟩
            go_simp
            with_reducible rfl
           rotate_left
           ·simp only [Act.put,zzB,zzC,zzD,av,aw]
            rfl
           refine bh (i:=7) (N:=some 40) (v:=?_) (a':=?_) #[true,true,true,true,true,true,true,true,false,false] rfl rfl (aG HT_.out (by kernel_rfl)) (fun _ _ _ h=>h) (Or.inl ⟨by rfl,?_⟩) ?_ ?_
           rotate_left
           ·intro w'
            go_simp
            with_reducible rfl
           rotate_left
           ·simp only [Act.put,zzB,zzC,zzD,av,aw]
            rfl
           refine ep (i:=8) (N:=some 41) #[true,true,true,true,true,true,true,true,true,false] rfl rfl (bE HT_.out (by kernel_rfl)) (by decide) (fun K hK=>?_)
           refine jH Try.func40 (by kernel_rfl) rfl #[.agg #[.int .i64 ((aj ah x4_2).f0),.int .i64 ((aj ah x4_2).f1),.slice A188_2 ((aj ah x4_2).f2).length c188_2,.slice A188_3 ((aj ah x4_2).f3).length c188_3],.int .i64 (ai.length:Int)] (by rfl) rfl rfl (by (try simp only [List.map_toArray,List.map_cons,List.map_nil]);first|done|rfl|(simp only [List.length_drop,List.length_take];rfl)) ?_
           with_reducible refine (fastiref15_rule.calls k2 ((aj ah x4_2).f0) ((aj ah x4_2).f1) _ _ ((aj ah x4_2).f2) _ _ ((aj ah x4_2).f3) (ai.length:Int) true _ ?side1 ?side2 ?side3 ?side4 A22.out).mono ?_
           (case side1=>repeat (first|exact (zzI le.out HB.out)|(with_reducible refine Kd.C_alloc ?_ _)|(with_reducible refine Kd.C_drewN ?_ _)|(with_reducible refine Kd.C_drew ?_)))
           (case side2=>exact HC188_2.out)
           (case side3=>repeat (first|exact (zzI lf.out HB.out)|(with_reducible refine Kd.C_alloc ?_ _)|(with_reducible refine Kd.C_drewN ?_ _)|(with_reducible refine Kd.C_drew ?_)))
           (case side4=>exact HC188_3.out)
           rintro e w26 ⟨rfl,hb⟩
           refine ⟨_,rfl,?_⟩
           have n0_:=zzA (af (g:=cO) (o:=.cells #[.slice ax ai.length ap,.slice (some ad188) ah.length am] 25 (0,0)) (by (with_reducible repeat (first|refine aa ?_ _|refine ac ?_|refine a9 ?_ _));exact bm.out) hb)
           have n1_:=zzA (ag (by repeat (first|(with_reducible first|exact HB.out|apply a6|apply a4|apply a5|refine a7 ?_ fL.out)|exact HB.out)) hb)
           clear bm
           clear HB
           have bm:=n0_
           have HB:=n1_
           clear n0_ n1_
           (try clear hb)
           (try clear hb2)
           (try clear hk)
           (try clear hi)
           refine hK.out _ _ ⟨(a8 bm.out 0).trans rfl,(a8 bm.out 1).trans rfl,((HB.out.cell (zzE w _ fP)).trans fP),((HB.out.cell (zzE w _ fO)).trans fO),((HB.out.cell (zzE w _ fN)).trans fN),((HB.out.cell (zzE w _ fM)).trans fM)⟩ (fun hHeld=>?_)
           clear hK K
           refine bx (a':=?_) ?_ ?_
           rotate_left
           ·show Act.put _ (some 41) _=_
            simp only [Act.put,zzB,zzC,zzD,av,aw]
            rfl
           refine bh (i:=9) (N:=some 42) (v:=?_) (a':=?_) #[true,true,true,true,true,true,true,true,true,true] rfl rfl (aG HT_.out (by kernel_rfl)) (fun _ _ _ h=>h) (Or.inl ⟨by rfl,?_⟩) ?_ ?_
           rotate_left
           ·intro w'
            go_simp
            with_reducible rfl
           rotate_left
           ·simp only [Act.put,zzB,zzC,zzD,av,aw]
            rfl
           refine gO (dm HT_.out (by kernel_rfl)) ?_
           try go_wp2
           go_roundg k2
           case measure=>have:=HK1.out;have:=HK2.out;omega
           case rel=>exact ⟨(wrap64 (x4_2+1)),(by first|rfl|(simp;done)|(simp [*];done)),H',⟨by have:=HK1.out;have:=HK2.out;omega⟩,⟨by (with_reducible repeat (first|refine aa ?_ _|refine ac ?_|refine a9 ?_ _));exact bm.out⟩,⟨by repeat (first|(with_reducible first|exact HB.out|apply a6|apply a4|apply a5|refine a7 ?_ fL.out)|exact HB.out)⟩⟩
          ·replace c23:=Bool.eq_false_iff.mpr c23
           subst c23
           have H1:(some 150)=some r:=by rw [if_neg (show ¬ (false=true) by decide)] at H;exact H
           clear H
           have H:=H1
           clear H1
           obtain rfl:=Option.some.inj H
           have hcz27_0:wr.cell? ⟨cO,0,none⟩=some (.slice ax ai.length ap):=(a8 bm.out 0).trans rfl
           have hcz27_1:wr.cell? ⟨cO,1,none⟩=some (.slice au ah.length am):=(a8 bm.out 1).trans rfl
           have hfz27_0:=ab bm.out 0
           have hfz27_1:=ab bm.out 1
           try go_wp2
           have n0_:=zzA (ac bm.out)
           have n1_:=zzA (a5 HB.out)
           clear bm
           clear HB
           have bm:=n0_
           have HB:=n1_
           clear n0_ n1_
           have p188:0≤(x4_2:Int):=zzF (by first|(with_reducible assumption)|assumption)
           have q188:x4_2 < (ah.length:Int):=zzF (by first|(with_reducible assumption)|assumption)
           obtain ⟨ad188,A188_2,c188_2,A188_3,c188_3,e188,eL,eM,eN,eO,l9,la,lc,ld⟩:=ex bq.out x4_2 p188 q188
           have fM:=eO
           have fN:=eN
           have fO:=eM
           have fP:=eL
           cases e188
           replace eL:=(HB.out.cell (zzE w _ eL)).trans eL
           replace eM:=(HB.out.cell (zzE w _ eM)).trans eM
           replace eN:=(HB.out.cell (zzE w _ eN)).trans eN
           replace eO:=(HB.out.cell (zzE w _ eO)).trans eO
           have le:=zzA la
           have HC188_2:=zzA l9
           clear la l9
           have lf:=zzA ld
           have HC188_3:=zzA lc
           clear ld lc
           replace p188:=eq_true p188
           replace q188:=eq_true q188
           refine ff (n:=10) (S:=fun w'=>w'.cell? ⟨cO,0,none⟩=some (.slice ax ai.length ap)∧w'.cell? ⟨cO,1,none⟩=some (.slice (some ad188) ah.length am)∧w'.cell? (ad188.add ((x4_2).toNat * 4))=some (.int .i64 ((aj ah x4_2).f0))∧w'.cell? ⟨(ad188.add ((x4_2).toNat * 4)).block,(ad188.add ((x4_2).toNat * 4)).off+1,none⟩=some (.int .i64 ((aj ah x4_2).f1))∧w'.cell? ⟨(ad188.add ((x4_2).toNat * 4)).block,(ad188.add ((x4_2).toNat * 4)).off+2,none⟩=some (.slice A188_2 ((aj ah x4_2).f2).length c188_2)∧w'.cell? ⟨(ad188.add ((x4_2).toNat * 4)).block,(ad188.add ((x4_2).toNat * 4)).off+3,none⟩=some (.slice A188_3 ((aj ah x4_2).f3).length c188_3)) (ds:=[]) #[false,false,false,false,false,false,false,false,false,false] (by kernel_rfl) rfl rfl ⟨(a8 bm.out 0).trans rfl,(a8 bm.out 1).trans rfl,((HB.out.cell (zzE w _ fP)).trans fP),((HB.out.cell (zzE w _ fO)).trans fO),((HB.out.cell (zzE w _ fN)).trans fN),((HB.out.cell (zzE w _ fM)).trans fM)⟩ (fun hHeld=>?_);refine dy fastiref15_Check.tab13 fastiref15_Check.bits13 (fun HT_ HW_=>?_)
           generalize wr.drew=w28 at bm HB le lf eL eM eN eO hHeld ⊢
           refine bh (i:=0) (N:=some 33) (v:=?_) (a':=?_) #[true,false,false,false,false,false,false,false,false,false] rfl rfl (aG HT_.out (by kernel_rfl)) (fun _ _ _ h=>h) (Or.inl ⟨by rfl,?_⟩) ?_ ?_
           rotate_left
           ·intro w'
            go_simp
            with_reducible rfl
           rotate_left
           ·simp only [Act.put,zzB,zzC,zzD,av,aw]
            rfl
           refine bh (i:=2) (N:=some 35) (v:=?_) (a':=?_) #[true,false,true,false,false,false,false,false,false,false] rfl rfl (aG HT_.out (by kernel_rfl)) (fun _ _ _ h=>h) (Or.inl ⟨by rfl,?_⟩) ?_ ?_
           rotate_left
           ·intro w'
            go_simp
            with_reducible rfl
           rotate_left
           ·simp only [Act.put,zzB,zzC,zzD,av,aw]
            rfl
           refine bh (i:=5) (N:=some 38) (v:=?_) (a':=?_) #[true,false,true,false,false,true,false,false,false,false] rfl rfl (aG HT_.out (by kernel_rfl)) (fun _ _ _ h=>h) (Or.inl ⟨by rfl,?_⟩) ?_ ?_
           rotate_left
           ·intro w'
            go_simp
            with_reducible rfl
           rotate_left
           ·simp only [Act.put,zzB,zzC,zzD,av,aw]
            rfl
           refine take_ (i:=1) (N:=some 34) (v:=?_) (a':=?_) #[true,true,true,false,false,true,false,false,false,false] rfl rfl (bI HT_.out HW_.out (by kernel_rfl)) (fun _ _ _ h=>h) (Or.inl ⟨by rfl,?_⟩) hHeld ?_ ?_
           rotate_left
           ·rintro w' ⟨s0,s1,s2,s3,s4,s5⟩
            go_simp
            with_reducible rfl
           rotate_left
           ·simp only [Act.put,zzB,zzC,zzD,av,aw]
            rfl
           refine bh (i:=3) (N:=some 36) (v:=?_) (a':=?_) #[true,true,true,true,false,true,false,false,false,false] rfl rfl (aG HT_.out (by kernel_rfl)) (fun _ _ _ h=>h) (Or.inl ⟨by rfl,?_⟩) ?_ ?_
           rotate_left
           ·intro w'
            go_simp
            with_reducible rfl
           rotate_left
           ·simp only [Act.put,zzB,zzC,zzD,av,aw]
            rfl
           refine take_ (i:=4) (N:=some 37) (v:=?_) (a':=?_) #[true,true,true,true,true,true,false,false,false,false] rfl rfl (bI HT_.out HW_.out (by kernel_rfl)) (fun _ _ _ h=>h) (Or.inl ⟨by rfl,?_⟩) hHeld ?_ ?_
           rotate_left
           ·rintro w' ⟨s0,s1,s2,s3,s4,s5⟩
            go_simp
            with_reducible rfl
           rotate_left
           ·simp only [Act.put,zzB,zzC,zzD,av,aw]
            rfl
           refine take_ (i:=6) (N:=some 39) (v:=?_) (a':=?_) #[true,true,true,true,true,true,true,false,false,false] rfl rfl (bI HT_.out HW_.out (by kernel_rfl)) (fun _ _ _ h=>h) (Or.inl ⟨by rfl,?_⟩) hHeld ?_ ?_
           rotate_left
           ·rintro w' ⟨s0,s1,s2,s3,s4,s5⟩
            go_simp
            with_reducible rfl
           rotate_left
           ·simp only [Act.put,zzB,zzC,zzD,av,aw]
            rfl
           refine bh (i:=7) (N:=some 40) (v:=?_) (a':=?_) #[true,true,true,true,true,true,true,true,false,false] rfl rfl (aG HT_.out (by kernel_rfl)) (fun _ _ _ h=>h) (Or.inl ⟨by rfl,?_⟩) ?_ ?_
           rotate_left
           ·intro w'
            go_simp
            with_reducible rfl
           rotate_left
           ·simp only [Act.put,zzB,zzC,zzD,av,aw]
            rfl
           refine ep (i:=8) (N:=some 41) #[true,true,true,true,true,true,true,true,true,false] rfl rfl (bE HT_.out (by kernel_rfl)) (by decide) (fun K hK=>?_)
           refine jH Try.func40 (by kernel_rfl) rfl #[.agg #[.int .i64 ((aj ah x4_2).f0),.int .i64 ((aj ah x4_2).f1),.slice A188_2 ((aj ah x4_2).f2).length c188_2,.slice A188_3 ((aj ah x4_2).f3).length c188_3],.int .i64 (ai.length:Int)] (by rfl) rfl rfl (by (try simp only [List.map_toArray,List.map_cons,List.map_nil]);first|done|rfl|(simp only [List.length_drop,List.length_take];rfl)) ?_
           with_reducible refine (fastiref15_rule.calls k2 ((aj ah x4_2).f0) ((aj ah x4_2).f1) _ _ ((aj ah x4_2).f2) _ _ ((aj ah x4_2).f3) (ai.length:Int) false _ ?side1 ?side2 ?side3 ?side4 A22.out).mono ?_
           (case side1=>repeat (first|exact (zzI le.out HB.out)|(with_reducible refine Kd.C_alloc ?_ _)|(with_reducible refine Kd.C_drewN ?_ _)|(with_reducible refine Kd.C_drew ?_)))
           (case side2=>exact HC188_2.out)
           (case side3=>repeat (first|exact (zzI lf.out HB.out)|(with_reducible refine Kd.C_alloc ?_ _)|(with_reducible refine Kd.C_drewN ?_ _)|(with_reducible refine Kd.C_drew ?_)))
           (case side4=>exact HC188_3.out)
           rintro e w29 ⟨rfl,hb⟩
           refine ⟨_,rfl,?_⟩
           have n0_:=zzA (af (g:=cO) (o:=.cells #[.slice ax ai.length ap,.slice (some ad188) ah.length am] 25 (0,0)) (by (with_reducible repeat (first|refine aa ?_ _|refine ac ?_|refine a9 ?_ _));exact bm.out) hb)
           have n1_:=zzA (ag (by repeat (first|(with_reducible first|exact HB.out|apply a6|apply a4|apply a5|refine a7 ?_ fL.out)|exact HB.out)) hb)
           clear bm
           clear HB
           have bm:=n0_
           have HB:=n1_
           clear n0_ n1_
           (try clear hb)
           (try clear hb2)
           (try clear hk)
           (try clear hi)
           refine hK.out _ _ ⟨(a8 bm.out 0).trans rfl,(a8 bm.out 1).trans rfl,((HB.out.cell (zzE w _ fP)).trans fP),((HB.out.cell (zzE w _ fO)).trans fO),((HB.out.cell (zzE w _ fN)).trans fN),((HB.out.cell (zzE w _ fM)).trans fM)⟩ (fun hHeld=>?_)
           clear hK K
           refine bx (a':=?_) ?_ ?_
           rotate_left
           ·show Act.put _ (some 41) _=_
            simp only [Act.put,zzB,zzC,zzD,av,aw]
            rfl
           refine bh (i:=9) (N:=some 42) (v:=?_) (a':=?_) #[true,true,true,true,true,true,true,true,true,true] rfl rfl (aG HT_.out (by kernel_rfl)) (fun _ _ _ h=>h) (Or.inl ⟨by rfl,?_⟩) ?_ ?_
           rotate_left
           ·intro w'
            go_simp
            with_reducible rfl
           rotate_left
           ·simp only [Act.put,zzB,zzC,zzD,av,aw]
            rfl
           refine gO (dm HT_.out (by kernel_rfl)) ?_
           try go_wp2
           go_ret
           exact ⟨by first|rfl|(simp [ak,al] <;> rfl)|(simp [*,ak,al] <;> rfl),by repeat (first|(with_reducible first|exact HB.out|apply a6|apply a4|apply a5|refine a7 ?_ fL.out)|exact HB.out)⟩
         ·rw [if_neg c21] at H
          exact absurd H (by simp)
        ·rw [if_neg c20] at H
         have c20b0:decide (x4_2 < (ah.length:Int))=false:=zzH c20
         clear c20
         replace H:=Option.bind_eq_some_iff.mp H
         obtain ⟨t190,A300,H⟩:=H
         replace H:(if t190 > 65536 then (some 2) else (some 0))=some r:=H
         have A30:=zzA A300
         clear A300
         by_cases c31:t190 > 65536
         ·rw [if_pos c31] at H
          have lg:decide (65536 < t190)=true:=zzG c31
          clear c31
          obtain rfl:=Option.some.inj H
          have hcz32_0:wr.cell? ⟨cO,0,none⟩=some (.slice ax ai.length ap):=(a8 bm.out 0).trans rfl
          have hcz32_1:wr.cell? ⟨cO,1,none⟩=some (.slice au ah.length am):=(a8 bm.out 1).trans rfl
          have hfz32_0:=ab bm.out 0
          have hfz32_1:=ab bm.out 1
          go_wp2_with (first|((with_reducible refine ar (f:=30) rfl ?_);refine bi (some 44) rfl rfl Try.func30 (by kernel_rfl) rfl #[.agg #[.slice ax ai.length ap,.slice au ah.length am]] rfl (by (try simp only [List.map_toArray,List.map_cons,List.map_nil]);first|done|rfl|(simp only [List.length_drop,List.length_take];rfl)) ?_;(with_reducible refine (fastiref15_Tries.calls k2 _ _ ai _ _ ah t190 _ ?side1 ?side2 ?side3 ?side4 A30.out).mono ?_);(case side1=>repeat (first|exact (zzI bz.out HB.out)|(with_reducible refine Kd.C_alloc ?_ _)|(with_reducible refine Kd.C_drewN ?_ _)|(with_reducible refine Kd.C_drew ?_)));(case side2=>exact bH.out);(case side3=>repeat (first|exact (zzI bq.out HB.out)|(with_reducible refine Kd.C_alloc ?_ _)|(with_reducible refine Kd.C_drewN ?_ _)|(with_reducible refine Kd.C_drew ?_)));(case side4=>exact bF.out);rintro e w33 ⟨rfl,hb⟩;refine ⟨_,rfl,?_⟩;have n0_:=zzA (af (g:=cO) (o:=.cells #[.slice ax ai.length ap,.slice au ah.length am] 25 (0,0)) (by (with_reducible repeat (first|refine aa ?_ _|refine ac ?_|refine a9 ?_ _));exact bm.out) hb);have n1_:=zzA (ag (by repeat (first|(with_reducible first|exact HB.out|apply a6|apply a4|apply a5|refine a7 ?_ fL.out)|exact HB.out)) hb);clear bm;clear HB;have bm:=n0_;have HB:=n1_;clear n0_ n1_;(try clear hb);(try clear hb2);(try clear hk);(try clear hi)))
          go_ret
          exact ⟨by first|rfl|(simp [ak,al] <;> rfl)|(simp [*,ak,al] <;> rfl),by repeat (first|(with_reducible first|exact HB.out|apply a6|apply a4|apply a5|refine a7 ?_ fL.out)|exact HB.out)⟩
         ·rw [if_neg c31] at H
          have lg:decide (65536 < t190)=false:=zzH c31
          clear c31
          obtain rfl:=Option.some.inj H
          have lh:wr.cell? ⟨cO,0,none⟩=some (.slice ax ai.length ap):=(a8 bm.out 0).trans rfl
          have ll:wr.cell? ⟨cO,1,none⟩=some (.slice au ah.length am):=(a8 bm.out 1).trans rfl
          have lm:=ab bm.out 0
          have ln:=ab bm.out 1
          go_wp2_with (first|((with_reducible refine ar (f:=30) rfl ?_);refine bi (some 44) rfl rfl Try.func30 (by kernel_rfl) rfl #[.agg #[.slice ax ai.length ap,.slice au ah.length am]] rfl (by (try simp only [List.map_toArray,List.map_cons,List.map_nil]);first|done|rfl|(simp only [List.length_drop,List.length_take];rfl)) ?_;(with_reducible refine (fastiref15_Tries.calls k2 _ _ ai _ _ ah t190 _ ?side1 ?side2 ?side3 ?side4 A30.out).mono ?_);(case side1=>repeat (first|exact (zzI bz.out HB.out)|(with_reducible refine Kd.C_alloc ?_ _)|(with_reducible refine Kd.C_drewN ?_ _)|(with_reducible refine Kd.C_drew ?_)));(case side2=>exact bH.out);(case side3=>repeat (first|exact (zzI bq.out HB.out)|(with_reducible refine Kd.C_alloc ?_ _)|(with_reducible refine Kd.C_drewN ?_ _)|(with_reducible refine Kd.C_drew ?_)));(case side4=>exact bF.out);rintro e w35 ⟨rfl,hb⟩;refine ⟨_,rfl,?_⟩;have n0_:=zzA (af (g:=cO) (o:=.cells #[.slice ax ai.length ap,.slice au ah.length am] 25 (0,0)) (by (with_reducible repeat (first|refine aa ?_ _|refine ac ?_|refine a9 ?_ _));exact bm.out) hb);have n1_:=zzA (ag (by repeat (first|(with_reducible first|exact HB.out|apply a6|apply a4|apply a5|refine a7 ?_ fL.out)|exact HB.out)) hb);clear bm;clear HB;have bm:=n0_;have HB:=n1_;clear n0_ n1_;(try clear hb);(try clear hb2);(try clear hk);(try clear hi)))
          go_ret
          exact ⟨by first|rfl|(simp [ak,al] <;> rfl)|(simp [*,ak,al] <;> rfl),by repeat (first|(with_reducible first|exact HB.out|apply a6|apply a4|apply a5|refine a7 ?_ fL.out)|exact HB.out)⟩
 ·replace c3:=Bool.eq_false_iff.mpr c3
  subst c3
  have H1:(some 2)=some r:=by rw [if_neg (show ¬ (false=true) by decide)] at H;exact H
  clear H
  have H:=H1
  clear H1
  obtain rfl:=Option.some.inj H
  go_enter Try.func18,Try.ntmps18
  go_wp2_with (first|((with_reducible refine ay (N:=1) rfl ?_);refine aq ?hg (N:=1) ?hd (cs:=#[.slice ax ai.length ap,.slice au ah.length am]) (t:=25) ?hr ?_;(case hd=>rfl);(case hg=>rfl);(case hr=>first|(go_simp;done)|(go_simp;rfl));intro cO hg w36 hbox hb;have n0_:=zzA (ag (by repeat (first|(with_reducible first|exact HB.out|apply a6|apply a4|apply a5)|exact HB.out)) hb);have n1_:=zzA (hbox);have n2_:=zzA ((by rw [hg];exact (ae (by repeat (first|(with_reducible first|exact HB.out|apply a6|apply a4|apply a5)|exact HB.out))):w.heap.size≤cO));have n3_:=zzA ((by rw [hg];exact (ae (by repeat (first|(with_reducible first|exact HB.out|apply a6|apply a4|apply a5)|exact HB.out))):w.heap.size≤cO));clear HB;have HB:=n0_;have bm:=n1_;have GW184:=n2_;have fL:=n3_;clear n0_ n1_ n2_ n3_;clear hb hbox hg;have hcz37_0:w36.cell? ⟨cO,0,none⟩=some (.slice ax ai.length ap):=(a8 bm.out 0).trans rfl;have hcz37_1:w36.cell? ⟨cO,1,none⟩=some (.slice au ah.length am):=(a8 bm.out 1).trans rfl;have hfz37_0:=ab bm.out 0;have hfz37_1:=ab bm.out 1)|((with_reducible refine ar (f:=29) rfl ?_);refine bi (some 6) rfl rfl Try.func29 (by kernel_rfl) rfl #[.agg #[.slice ax ai.length ap,.slice au ah.length am]] rfl (by (try simp only [List.map_toArray,List.map_cons,List.map_nil]);first|done|rfl|(simp only [List.length_drop,List.length_take];rfl)) ?_;(with_reducible refine (fastiref15_short.calls k _ _ ai _ _ ah false _ ?side1 ?side2 ?side3 ?side4 A2.out).mono ?_);(case side1=>repeat (first|exact (zzI bz.out HB.out)|(with_reducible refine Kd.C_alloc ?_ _)|(with_reducible refine Kd.C_drewN ?_ _)|(with_reducible refine Kd.C_drew ?_)));(case side2=>exact bH.out);(case side3=>repeat (first|exact (zzI bq.out HB.out)|(with_reducible refine Kd.C_alloc ?_ _)|(with_reducible refine Kd.C_drewN ?_ _)|(with_reducible refine Kd.C_drew ?_)));(case side4=>exact bF.out);rintro e w38 ⟨rfl,hb⟩;refine ⟨_,rfl,?_⟩;have n0_:=zzA (af (g:=cO) (o:=.cells #[.slice ax ai.length ap,.slice au ah.length am] 25 (0,0)) (by (with_reducible repeat (first|refine aa ?_ _|refine ac ?_|refine a9 ?_ _));exact bm.out) hb);have n1_:=zzA (ag (by repeat (first|(with_reducible first|exact HB.out|apply a6|apply a4|apply a5|refine a7 ?_ fL.out)|exact HB.out)) hb);clear bm;clear HB;have bm:=n0_;have HB:=n1_;clear n0_ n1_;(try clear hb);(try clear hb2);(try clear hk);(try clear hi)))
  go_ret
  exact ⟨by first|rfl|(simp [ak,al] <;> rfl)|(simp [*,ak,al] <;> rfl),by repeat (first|(with_reducible first|exact HB.out|apply a6|apply a4|apply a5|refine a7 ?_ fL.out)|exact HB.out)⟩
end Go.Proofs.Ytcbpkdemcdikaaa.X
