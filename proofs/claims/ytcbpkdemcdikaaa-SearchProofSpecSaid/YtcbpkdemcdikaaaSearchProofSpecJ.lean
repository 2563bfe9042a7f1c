/- Proved here: parts of the walk and of the plain law of SearchProofSpec, put into one text (names and lines made short by a program). -/
import Derived.Test.YtcbpkdemcdikaaaSearchProofSpecD
import Derived.Test.YtcbpkdemcdikaaaSearchProofSpecF
import Derived.Test.YtcbpkdemcdikaaaSearchProofSpecH
import Derived.Shelf.Abstract
import Derived.Laws.EntriesVeiled
import Derived.Laws.MakeOwn
import Derived.RangeFuncWrites
import Derived.RangeFuncNested
import Derived.RangeFuncBound
import Derived.RangeFuncCalls
import Derived.RangeFuncLeaves
import Derived.OwnWalkIn
import Derived.TacticsInMore
import Derived.LoopNIn
import Derived.LoopIn
import Derived.ArgAppend
import Derived.Test.YtcbpkdemcdikaaaSearchProofSpecE
namespace Go.Proofs.Ytcbpkdemcdikaaa.X
open Go.RowKit Go.Proofs.YtcbpkdemcdikaaaW.PrintWords Go.Proofs.YtcbpkdemcdikaaaW.PrintLast Go.Proofs.YtcbpkdemcdikaaaW.PrintMore
attribute [local go_sem] be bc bn bo aM aK bf bd
set_option linter.unusedVariables false
set_option linter.unusedSimpArgs false
namespace DF
open SF RO
set_option maxHeartbeats 8000000
attribute [local go_sem] Oper.semAt_some
def badB (rs:List S49) (x:List Int):Bool:=rs.any fun r=>brokenB r x
theorem own_one (W:World) (cap:Nat) (h1:1≤cap) (h2:cap≤maxLen):(W.alloc (.cells (madeCells #[.int .i64 0] cap) 3)).ownsRow W.heap.size 3 1 (.slice (some ⟨W.heap.size,0,none⟩) 1 cap) 1 (d7 .i64 [0]):=by
  refine ⟨rfl,.inr ⟨W.heap.size,cap,_,rfl,Nat.le_refl _,bT W _,h1,h2,by rw [size_madeCells];simp [Value.cells],?_⟩⟩
  obtain ⟨c,rfl⟩ : ∃ c,cap=c+1:=⟨cap - 1,by omega⟩
  simp [madeCells,Value.cells,d7,List.range_succ_eq_map]
theorem ke {W:World} {base m n c:Nat} {A:Option Addr} {xs:List Int} (h:W.ownsRow base 3 1 (.slice A n c) n (d7 .i64 xs)) (hm:m≤xs.length) (hn:n=xs.length):W.ownsRow base 3 1 (.slice A (xs.take m).length c) (xs.take m).length (d7 .i64 (xs.take m)):=by
  have hl:(xs.take m).length=m:=by rw [List.length_take];omega
  have h1:=own_take (m:=m) h (by omega)
  rw [hl]
  rwa [Nat.mul_one,show (d7 .i64 xs).take m=d7 .i64 (xs.take m) by simp [d7,List.map_take]] at h1
theorem ownN {W:World} {base n:Nat} {e:TypeId} {size:Nat} {v:Value} {xs:List Value} (m:Nat) (h:W.ownsRow base e size v n xs):(W.drewN m).ownsRow base e size v n xs:=h
theorem add0 (g k:Nat):(⟨g,0,none⟩ : Addr).add k=⟨g,k,none⟩:=by
  by_cases h:k=0 <;> simp [Addr.add,h]
theorem own_keep {A B:World} {base:Nat} {e:TypeId} {size n:Nat} {v:Value} {xs:List Value} (h:A.ownsRow base e size v n xs) (hk:∀ g,v.ownBlock=some g→B.heap[g]?=A.heap[g]?):B.ownsRow base e size v n xs:=by
  refine ⟨h.1,?_⟩
  rcases h.2 with h1|⟨g,cap,cur,h1,h2,h3,h4⟩
  · exact .inl h1
  · exact .inr ⟨g,cap,cur,h1,h2,(hk g (by rw [h1];rfl)).trans h3,h4⟩
noncomputable def T7:Bool × List (List Nat × List Nat):=fU .any (gP Try.f62 7)
theorem tab7:fU .any (gP Try.f62 7)=T7:=rfl
theorem ga {W:World} {p:Addr} {v:Value} (h:W.cell? p=some v) (o:Obj):(W.alloc o).cell? p=some v:=((a6 (Below.refl _ _) o).cell (zzE W p h)).trans h
theorem ne_cut {A B:Option Addr} {n c m d n' c' m' d':Nat} (h:NeRow (.slice A n c) (.slice B m d)):NeRow (.slice A n' c') (.slice B m' d'):=by
  cases A <;> cases B <;> exact h
theorem dq {A B:World} {base n:Nat} {e:TypeId} {size:Nat} {v:Value} {xs:List Value} (h:A.ownsRow base e size v n xs) (hb:Below A.heap.size A B):B.ownsRow base e size v n xs :=
  own_keep h (fun g hg=>hb.block g (own_lt h g hg))
theorem iter_once (n:Nat) (hn:1≤n) (b1 b2:Nat) (A0:Option Addr) (c0:Nat) (ds:List (List Int)) (A1:Option Addr) (c1:Nat) (rs:List S49) (w:World)
    (h1:w.heap[b1]?=some (.cells #[.slice A0 ds.length c0] 22 (0,0))) (h2:w.heap[b2]?=some (.cells #[.slice A1 rs.length c1] 23 (0,0)))
    (hr0:Kd.C (Kd.slice 3 (Kd.int .i64)) w A0 ds.length ds) (hr1:Kd.C k49 w A1 rs.length rs) (hok:∀ r ∈ rs,okR r) (hd:0 < ds.length) (hdl:ds.length≤1000) :
    SeqOnce Fence.wide n Try.prog 62 #[.pointer (some ⟨b1,0,none⟩),.pointer (some ⟨b2,0,none⟩)] (∃ x,sol (badB rs) ds []=some x)
      (fun args W=>∃ x A c,sol (badB rs) ds []=some x∧args=#[.slice A x.length c]∧W.ownsRow (w.heap.size+2) 3 1 (.slice A x.length c) x.length (d7 .i64 x)) w:=by
  intro l Jx W hWz hWg hY
  have e1:=(hWg.block b1 (aJ h1) (fun e=>by cases e)).trans h1
  have e2:=(hWg.block b2 (aJ h2) (fun e=>by cases e)).trans h2
  have hbW:Below w.heap.size w W:=(Below.refl _ w).grown hWg (Nat.le_refl _) (fun k e=>by cases e)
  have hr0W:=zzI hr0 hbW
  have hr1W:=zzI hr1 hbW
  obtain ⟨i3,hi3,hii3⟩:=Option.map_eq_some_iff.1 gG
  simp only [Prod.mk.injEq] at hii3
  obtain ⟨hz3,hs3,hb3⟩:=hii3
  have hmk:∀ W:World,(Instr.makeSlice 26 (.int .i64 1) (.int .i64 (wrap64 ((ds.length:Int)+1)))).run Try.prog W=.ok (.slice (some ⟨W.heap.size,0,none⟩) 1 (ds.length+1)) (W.alloc (.cells (madeCells #[.int .i64 0] (ds.length+1)) 3)):=fun W=>by
    have h:=run_makeSlice (P:=Try.prog) (w:=W) 26 3 i3 (.int .i64 0) Try.underlying26 hi3 hz3 .i64 .i64 1 (ds.length+1) (by omega) (by omega) (by rw [hs3];simp;omega) (by rw [hb3];omega) (by omega)
    rw [hs3] at h
    rw [jJ _ (by omega) (by omega)]
    simpa [Value.cells] using h
  have HI3:=zzA (And.intro hi3 (And.intro hz3 (And.intro hs3 hb3)))
  clear hi3 hz3 hs3 hb3 hr0 hr1 hWg hbW h1 h2
  have HR0:=zzA hr0W;have HR1:=zzA hr1W;have HOK:=zzA hok;have HY:=zzA hY;have HD:=zzA (And.intro hd hdl);have HWZ:=zzA hWz
  have HE1:=zzA e1;have HE2:=zzA e2
  have z1:=a8 e1 0
  simp only [List.getElem?_toArray,List.getElem?_cons_zero] at z1
  clear hr0W hr1W hok hY hWz e1 e2 hd hdl
  refine callsIn_of_wp Try.func62 rfl trivial ?_ rfl
  simp only [Try.ntmps62,List.size_toArray,List.length_cons,List.length_nil,Nat.reduceAdd,Nat.reduceSub,Array.replicate_succ,Array.replicate_zero,List.push_toArray,List.append_toArray,List.nil_append,List.cons_append]
  refine wpIn_wide.2 ?_
  go_wp2_with (fail)
  obtain ⟨g,hg⟩ : ∃ g,W.heap.size=g:=⟨_,rfl⟩
  obtain ⟨cap,hcap⟩ : ∃ cap,ds.length+1=cap:=⟨_,rfl⟩
  have ho0:=own_one W (ds.length+1) (by omega) (by have:=HD.out;simp only [maxLen];omega)
  obtain ⟨W1,hW1⟩ : ∃ W1,W.alloc (.cells (madeCells #[.int .i64 0] (ds.length+1)) 3)=W1:=⟨_,rfl⟩
  have hBW1:Below W.heap.size W W1:=by rw [← hW1];exact a6 (Below.refl _ _) _
  rw [hW1,hcap] at ho0
  rw [hW1,hcap]
  rw [hg] at ho0 ⊢
  have hz1:W1.heap.size=g+1:=by rw [← hW1,← hg];simp
  have HO0:=zzA ho0
  have HB1:=zzA hBW1
  have HG:=zzA hg
  have HCAP:=zzA hcap
  have HZ1:=zzA hz1
  clear ho0 hBW1 hg hcap hW1 hz1 hmk z1
  go_loopg [4,5] (left ds [0] 1) (fun gg v4 v5 wr=>∃ (a x:List Int) (A4:Option Addr) (c4:Nat) (A5:Option Addr) (c5:Nat),v4=.slice A4 a.length c4∧v5=.slice A5 x.length c5 ∧
    Aside0 (wr.ownsRow g 3 1 (.slice A4 a.length c4) a.length (d7 .i64 a))∧Aside0 (wr.ownsRow g 3 1 (.slice A5 x.length c5) x.length (d7 .i64 x))∧Aside0 (NeRow (.slice A4 a.length c4) (.slice A5 x.length c5)) ∧
    Aside0 (a.length≤x.length+1∧a.length≤ds.length∧x.length≤ds.length)∧Aside0 (∀ j,j < a.length→0≤rd a (j:Int)∧(rd a (j:Int)).toNat≤(ds.getD j []).length) ∧
    Aside0 (rest (badB rs) ds a x a.length=sol (badB rs) ds [])∧Aside0 (left ds a a.length≤gg)∧Aside0 (Below W.heap.size W wr))
  case atStart =>
    exact ⟨[0],[],_,_,none,0,rfl,rfl,HO0,⟨World.ownsRow_nil _ _ _ _⟩,⟨fun k _ h=>by simp [Value.ownBlock] at h⟩,⟨by have:=HD.out;simp;omega⟩,⟨fun j hj=>by
      have:j=0:=by simpa using hj
      subst this
      simp [rd]⟩,⟨start_ok HD.out.1⟩,⟨Nat.le_refl _⟩,⟨HB1.out⟩⟩
  case round =>
    obtain ⟨a,x,A4,c4,A5,c5,rfl,rfl,HOA,HOX,HNE,HL,HI,HR,HM,HB⟩:=hrel
    by_cases d0:a.length=0
    · have d0a:decide ((a.length:Int) > 0)=false:=zzH (by omega)
      have d0b:decide ((0:Int) < (a.length:Int))=false:=zzH (by omega)
      have d0c:decide (0 < a.length)=false:=zzH (by omega)
      have HAN:=zzA (show sol (badB rs) ds []=none by rw [← HR.out,d0];rfl)
      clear d0
      go_wp2_with (fail)
      go_end0
      exact ⟨⟨_,rfl⟩,.inl ⟨(fun ⟨x,h⟩=>by rw [HAN.out] at h;cases h),by repeat (first|exact HB.out|apply a4|apply a5)⟩⟩
    · obtain ⟨k,hk⟩ : ∃ k,a.length=k+1:=⟨a.length - 1,by omega⟩
      obtain ⟨q,c4',cur4,e4,hq4,hblk4,hle4,_⟩ : ∃ q cp cur,Value.slice A4 a.length c4=.slice (some ⟨q,0,none⟩) a.length cp∧g≤q∧wr.heap[q]?=some (.cells cur 3 (0,0))∧a.length≤cp∧True:=by
        rcases HOA.out.2 with ⟨_,h0⟩|⟨q,cp,cur,h1,h2,h3,h4,_⟩
        · exact absurd h0 (by omega)
        · exact ⟨q,cp,cur,h1,h2,h3,h4,trivial⟩
      injection e4 with e4a _ e4c
      subst e4a e4c
      have hrdA:=j4 HOA.out
      obtain ⟨_,_,e5,hle5,_⟩:=d3 (enc:=fun x:Int=>Value.int .i64 x) (d:=0) HOX.out
      injection e5 with e5a _ e5c
      subst e5a e5c
      obtain ⟨ad4,e4,hx4⟩:=hrdA.at_ (k:Int) (by omega) (by omega)
      cases e4
      have p0:0≤(k:Int):=by omega
      have q0:(k:Int) < (ds.length:Int):=by have:=HL.out;omega
      obtain ⟨ad0,B0,cc0,e0,hx0W,hl0,hc0⟩:=et HR0.out k p0 q0
      subst e0
      rw [Int.toNat_natCast] at hx0W hx4
      rw [add0 q k] at hx4
      have hlt0:=zzE W _ hx0W
      have hltb:=aJ HE1.out
      have hx0:=(HB.out.cell hlt0).trans hx0W
      have z1:wr.cell? ⟨b1,0,none⟩=some (.slice (some ad0) ds.length c0):=by simpa using a8 (af HE1.out HB.out) 0
      have n0:(k < ds.length)=True:=eq_true (by omega)
      have d0b:decide (((k+1:Nat):Int) > 0)=true:=zzG (by omega)
      have m1:(k < k+1)=True:=eq_true (by omega)
      have m2:((k:Int) < (k:Int)+1)=True:=eq_true (by omega)
      have m3:((k:Int) < ((k+1:Nat):Int))=True:=eq_true (by omega)
      have n1:(k≤c5)=True:=eq_true (by have:=HL.out;omega)
      have n2:((k:Int)≤(c5:Int))=True:=eq_true (by have:=HL.out;omega)
      have n3:(k≤c4)=True:=eq_true (by omega)
      have n4:((k:Int)≤(c4:Int))=True:=eq_true (by omega)
      have HKD:=zzA (show k < 1000 by have:=HL.out;have:=HD.out;omega)
      have HLE5:=zzA hle5
      have HK:=zzA hk
      have HQ:=zzA (And.intro hq4 (aJ hblk4))
      have HLT:=zzA (And.intro hlt0 hltb)
      obtain ⟨i,hi⟩ : ∃ i:Nat,rd a (k:Int)=(i:Int):=⟨(rd a (k:Int)).toNat,by have:=(HI.out k (by omega)).1;omega⟩
      rw [hi] at hx4
      have HIK:=zzA hi
      obtain ⟨row,hrow⟩ : ∃ row,ao ds (k:Int)=row:=⟨_,rfl⟩
      rw [hrow] at hx0W hx0 hl0 hc0
      have HROW:=zzA (show ds.getD k []=row by rw [← hrow];rfl)
      have HC0:=zzA hc0
      have HX0:=zzA hx0W
      replace p0:=eq_true p0
      replace q0:=eq_true q0
      clear d0 hle5 hrdA hi hrow hl0 hc0 hx0W hlt0 hltb hq4 hblk4 hle4
      rw [hk]
      by_cases d1:i=row.length
      · have d1b:((i:Int) == (row.length:Int))=true:=beq_iff_eq.mpr (by omega)
        have HD1:=zzA d1
        clear d1 hk
        have hwk:wrap64 (k:Int)=(k:Int):=jJ _ (by omega) (by have:=HKD.out;omega)
        go_wp2_with (fail)
        clear hwk
        go_quiet (fail)
        go_wp2_with (fail)
        have hlt:(a.take k).length=k:=by rw [List.length_take];have:=HK.out;omega
        have hlx:(x.take k).length=k:=by rw [List.length_take];have:=HL.out;have:=HK.out;omega
        go_roundg (left ds (a.take k) k)
        case measure =>
          have h:=left_pop (ds:=ds) (a:=a) (k:=k) (by rw [HIK.out,HROW.out,Int.toNat_natCast,HD1.out])
          have:=HM.out
          rw [HK.out] at this
          omega
        case rel =>
          refine ⟨a.take k,x.take k,_,_,A5,c5,by rw [hlt],by rw [hlx],⟨ownN _ (ke HOA.out (by have:=HK.out;omega) rfl)⟩,⟨ownN _ (ke HOX.out (by have:=HL.out;have:=HK.out;omega) rfl)⟩,⟨ne_cut HNE.out⟩,⟨by have:=HL.out;have:=HK.out;omega⟩,⟨fun j hj=>by
            rw [hlt] at hj
            rw [rd_take a k j hj]
            exact HI.out j (by have:=HK.out;omega)⟩,⟨?_⟩,⟨by rw [hlt];exact Nat.le_refl _⟩,⟨by repeat (first|exact HB.out|apply a4|apply a5)⟩⟩
          have h:=rest_pop (bad:=badB rs) (ds:=ds) (a:=a) (x:=x) (k:=k) (by rw [HIK.out,HROW.out,Int.toNat_natCast,HD1.out])
          have h2:=HR.out
          rw [HK.out] at h2
          rw [hlt,← h,h2]
      · have d1b:((i:Int) == (row.length:Int))=false:=beq_eq_false_iff_ne.mpr (by omega)
        have hil:i < row.length:=by
          have h:=(HI.out k (by omega)).2
          rw [HIK.out,HROW.out,Int.toNat_natCast] at h
          omega
        clear d1 hk
        have hwk:wrap64 (k:Int)=(k:Int):=jJ _ (by omega) (by have:=HKD.out;omega)
        go_wp2_with (fail)
        clear hwk
        go_quiet (fail)
        go_wp2_with (fail)
        obtain ⟨w3,hw3⟩ : ∃ w3,wr.drewN nq=w3:=⟨_,rfl⟩
        have HB3:Aside0 (Below W.heap.size W w3):=⟨by rw [← hw3];exact a4 HB.out _⟩
        have HSQ:Aside0 (q < w3.heap.size):=⟨by rw [← hw3];exact HQ.out.2⟩
        have HOA3:Aside0 (w3.ownsRow g 3 1 (.slice (some ⟨q,0,none⟩) a.length c4) a.length (d7 .i64 a)):=⟨by rw [← hw3];exact ownN _ HOA.out⟩
        have hlx:(x.take k).length=k:=by rw [List.length_take];have:=HL.out;have:=HK.out;omega
        have HOX4:Aside0 (w3.ownsRow g 3 1 (.slice A5 k c5) k (d7 .i64 (x.take k))):=⟨by rw [← hw3];have h:=ownN nq (ke (m:=k) HOX.out (by have:=HL.out;have:=HK.out;omega) rfl);rw [hlx] at h;exact h⟩
        obtain ⟨adr,er,hxrW⟩:=Kd.at_int HC0.out (i:Int) (by omega) (by omega)
        subst er
        rw [Int.toNat_natCast] at hxrW
        have hltr:=zzE W _ hxrW
        have HLTR:=zzA hltr
        obtain ⟨v,hv⟩ : ∃ v,rd row (i:Int)=v:=⟨_,rfl⟩
        rw [hv] at hxrW
        have HXR:=zzA hxrW
        have HV:=zzA hv
        have z1':w3.drew.cell? ⟨b1,0,none⟩=some (.slice (some ad0) ds.length c0):=by rw [← hw3];simpa using z1
        have hx0':w3.drew.cell? (ad0.add k)=some (.slice (some adr) row.length cc0):=by rw [← hw3];simpa using hx0
        have hx4':w3.drew.cell? ⟨q,k,none⟩=some (.int .i64 i):=by rw [← hw3];simpa using hx4
        have hxr':w3.drew.cell? (adr.add i)=some (.int .i64 v):=(HB3.out.cell hltr).trans hxrW
        have HLX:=zzA hlx
        have m4:(i < row.length)=True:=eq_true hil
        have m5:((i:Int) < (row.length:Int))=True:=eq_true (by omega)
        have m6:(0≤(i:Int))=True:=eq_true (by omega)
        have HIL:=zzA hil
        have HIR:=zzA (show row.length≤9223372036854775807 from Kd.C_max HC0.out)
        have HS3:=zzA (show g≤w3.heap.size by have:=HB3.out.size;have:=HG.out;omega)
        rw [hw3]
        clear hw3 z1 hx0 hx4 hil hlx hltr hxrW hv
        refine ff (n:=14) (S:=fun w'=>w'.cell? ⟨b1,0,none⟩=some (.slice (some ad0) ds.length c0)∧w'.cell? (ad0.add k)=some (.slice (some adr) row.length cc0)∧w'.cell? ⟨q,k,none⟩=some (.int .i64 i)∧w'.cell? (adr.add i)=some (.int .i64 v)) (ds:=[]) #[false,false,false,false,false,false,false,false,false,false,false,false,false,false] (by kernel_rfl) rfl rfl ⟨z1',hx0',hx4',hxr'⟩ (fun hHeld=>?_)
        refine iy tab7 (fun HT_=>?_)
        refine bh (i:=0) (N:=some 33) (v:=?_) (a':=?_) #[true,false,false,false,false,false,false,false,false,false,false,false,false,false] rfl rfl (aG HT_.out (by kernel_rfl)) (fun _ _ _ h=>h) (Or.inl ⟨by rfl,?_⟩) ?_ ?_
        rotate_left
        · intro w'
          go_simp
          with_reducible rfl
        rotate_left
        · simp only [Act.put,zzB,zzC,zzD,av,aw]
          rfl
        refine bh (i:=2) (N:=some 35) (v:=?_) (a':=?_) #[true,false,true,false,false,false,false,false,false,false,false,false,false,false] rfl rfl (aG HT_.out (by kernel_rfl)) (fun _ _ _ h=>h) (Or.inl ⟨by rfl,?_⟩) ?_ ?_
        rotate_left
        · intro w'
          go_simp
          with_reducible rfl
        rotate_left
        · simp only [Act.put,zzB,zzC,zzD,av,aw]
          rfl
        refine bh (i:=5) (N:=some 38) (v:=?_) (a':=?_) #[true,false,true,false,false,true,false,false,false,false,false,false,false,false] rfl rfl (aG HT_.out (by kernel_rfl)) (fun _ _ _ h=>h) (Or.inl ⟨by rfl,?_⟩) ?_ ?_
        rotate_left
        · intro w'
          go_simp
          with_reducible rfl
        rotate_left
        · simp only [Act.put,zzB,zzC,zzD,av,aw]
          rfl
        refine bh (i:=6) (N:=some 39) (v:=?_) (a':=?_) #[true,false,true,false,false,true,true,false,false,false,false,false,false,false] rfl rfl (aG HT_.out (by kernel_rfl)) (fun _ _ _ h=>h) (Or.inl ⟨by rfl,?_⟩) ?_ ?_
        rotate_left
        · intro w'
          go_simp
          with_reducible rfl
        rotate_left
        · simp only [Act.put,zzB,zzC,zzD,av,aw]
          rfl
        refine bh (i:=7) (N:=some 40) (v:=?_) (a':=?_) #[true,false,true,false,false,true,true,true,false,false,false,false,false,false] rfl rfl (aG HT_.out (by kernel_rfl)) (fun _ _ _ h=>h) (Or.inl ⟨by rfl,?_⟩) ?_ ?_
        rotate_left
        · intro w'
          go_simp
          with_reducible rfl
        rotate_left
        · simp only [Act.put,zzB,zzC,zzD,av,aw]
          rfl
        refine take_ (i:=1) (N:=some 34) (v:=?_) (a':=?_) #[true,true,true,false,false,true,true,true,false,false,false,false,false,false] rfl rfl (e7 HT_.out (by kernel_rfl)) (fun _ _ _ h=>h) (Or.inl ⟨by rfl,?_⟩) hHeld ?_ ?_
        rotate_left
        · rintro w' ⟨s0,s1,s2,s3⟩
          go_simp
          with_reducible rfl
        rotate_left
        · simp only [Act.put,zzB,zzC,zzD,av,aw]
          rfl
        refine bh (i:=3) (N:=some 36) (v:=?_) (a':=?_) #[true,true,true,true,false,true,true,true,false,false,false,false,false,false] rfl rfl (aG HT_.out (by kernel_rfl)) (fun _ _ _ h=>h) (Or.inl ⟨by rfl,?_⟩) ?_ ?_
        rotate_left
        · intro w'
          go_simp
          with_reducible rfl
        rotate_left
        · simp only [Act.put,zzB,zzC,zzD,av,aw]
          rfl
        refine take_ (i:=4) (N:=some 37) (v:=?_) (a':=?_) #[true,true,true,true,true,true,true,true,false,false,false,false,false,false] rfl rfl (e7 HT_.out (by kernel_rfl)) (fun _ _ _ h=>h) (Or.inl ⟨by rfl,?_⟩) hHeld ?_ ?_
        rotate_left
        · rintro w' ⟨s0,s1,s2,s3⟩
          go_simp
          with_reducible rfl
        rotate_left
        · simp only [Act.put,zzB,zzC,zzD,av,aw]
          rfl
        refine take_ (i:=8) (N:=some 41) (v:=?_) (a':=?_) #[true,true,true,true,true,true,true,true,true,false,false,false,false,false] rfl rfl (e7 HT_.out (by kernel_rfl)) (fun _ _ _ h=>h) (Or.inl ⟨by rfl,?_⟩) hHeld ?_ ?_
        rotate_left
        · rintro w' ⟨s0,s1,s2,s3⟩
          go_simp
          with_reducible rfl
        rotate_left
        · simp only [Act.put,zzB,zzC,zzD,av,aw]
          rfl
        refine bh (i:=9) (N:=some 42) (v:=?_) (a':=?_) #[true,true,true,true,true,true,true,true,true,true,false,false,false,false] rfl rfl (aG HT_.out (by kernel_rfl)) (fun _ _ _ h=>h) (Or.inl ⟨by rfl,?_⟩) ?_ ?_
        rotate_left
        · intro w'
          go_simp
          with_reducible rfl
        rotate_left
        · simp only [Act.put,zzB,zzC,zzD,av,aw]
          rfl
        refine take_ (i:=10) (N:=some 43) (v:=?_) (a':=?_) #[true,true,true,true,true,true,true,true,true,true,true,false,false,false] rfl rfl (e7 HT_.out (by kernel_rfl)) (fun _ _ _ h=>h) (Or.inl ⟨by rfl,?_⟩) hHeld ?_ ?_
        rotate_left
        · rintro w' ⟨s0,s1,s2,s3⟩
          go_simp
          with_reducible rfl
        rotate_left
        · simp only [Act.put,zzB,zzC,zzD,av,aw]
          rfl
        refine ep (i:=11) (N:=some 44) #[true,true,true,true,true,true,true,true,true,true,true,true,false,false] rfl rfl (bE HT_.out (by kernel_rfl)) (by decide) (fun K hK=>?_)
        refine ew (w1:=w3.drew.alloc (.cells #[.int .i64 v] 3)) (v:=.slice (some ⟨w3.drew.heap.size,0,none⟩) 1 1) rfl (by first|(go_simp;done)|(go_simp;rfl)) ?_
        refine hK.out _ _ ⟨ga z1' _,ga hx0' _,ga hx4' _,ga hxr' _⟩ (fun hHeld=>?_)
        clear hK K
        refine bx (a':=?_) ?_ ?_
        rotate_left
        · show Act.put _ (some 44) _=_
          simp only [Act.put,zzB,zzC,zzD,av,aw]
          rfl
        refine ep (i:=12) (N:=some 45) #[true,true,true,true,true,true,true,true,true,true,true,true,true,false] rfl rfl (bE HT_.out (by kernel_rfl)) (by decide) (fun K hK=>?_)
        refine fq (w0:=w3) (W:=w3.drew) g rfl (.tmp 33) (.tmp 44) 26 3 (.int .i64 0) 1 8 rfl Try.underlying26 gG rfl (by omega) (by omega) (.slice A5 k c5) k (d7 .i64 (x.take k)) [.int .i64 v] rfl rfl rfl (by simp [Value.oneCell']) HOX4.out (a5 (Below.refl _ _)) HS3.out (by have:=HL.out;have:=HK.out;have:=HD.out;omega) ?_
        intro v9 w9 ho9 hb9 hg9 hat9
        obtain ⟨A9,c9,rfl⟩:=fu ho9
        have hB9:Below W.heap.size W w9:=HB3.out.trans (by rw [HG.out];exact hb9)
        have hOA9:w9.ownsRow g 3 1 (.slice (some ⟨q,0,none⟩) a.length c4) a.length (d7 .i64 a):=World.ownsRow.kept (own_drew HOA3.out) hg9 (.inr (fun e=>(ne_cut (n':=k) (c':=c5) (m':=a.length) (d':=c4) (ne_symm HNE.out)) q e.symm rfl))
        have hNE9:NeRow (.slice (some ⟨q,0,none⟩) a.length c4) (.slice A9 (k+1) c9):=ne_append' (ne_cut HNE.out) hat9 (own_drew HOA3.out)
        obtain ⟨ad9,e9,hx9⟩:=(j4 hOA9).at_ (k:Int) (by omega) (by have:=HK.out;omega)
        cases e9
        rw [Int.toNat_natCast,add0 q k,HIK.out] at hx9
        have hOX9:w9.ownsRow g 3 1 (.slice A9 (k+1) c9) (k+1) (d7 .i64 (x.take k ++ [v])):=by
          rw [km];exact ho9
        obtain ⟨cur9,hblk9⟩ : ∃ cur,w9.heap[q]?=some (.cells cur 3 (0,0)):=by
          rcases hOA9.2 with ⟨h,_⟩|⟨q',cp,cur,h1,h2,h3,_⟩
          · cases h
          · injection h1 with h1 _ _
            injection h1 with h1
            injection h1 with h1 _ _
            subst h1
            exact ⟨cur,h3⟩
        have hz9:=ab hblk9 k
        have HB9:=zzA hB9
        have HOA9:=zzA hOA9
        have HOX9:=zzA hOX9
        have HNE9:=zzA hNE9
        have HX9:=zzA hx9
        clear ho9 hb9 hg9 hat9 hB9 hOA9 hOX9 hNE9 hblk9
        refine hK.out _ _ ⟨by simpa using a8 (af HE1.out HB9.out) 0,(HB9.out.cell HLT.out.1).trans HX0.out,HX9.out,(HB9.out.cell HLTR.out).trans HXR.out⟩ (fun hHeld=>?_)
        clear hK K
        refine bx (a':=?_) ?_ ?_
        rotate_left
        · show Act.put _ (some 45) _=_
          simp only [Act.put,zzB,zzC,zzD,av,aw]
          rfl
        refine bh (i:=13) (N:=some 5) (v:=?_) (a':=?_) #[true,true,true,true,true,true,true,true,true,true,true,true,true,true] rfl rfl (aG HT_.out (by kernel_rfl)) (fun _ _ _ h=>h) (Or.inl ⟨by rfl,?_⟩) ?_ ?_
        rotate_left
        · intro w'
          go_simp
          with_reducible rfl
        rotate_left
        · simp only [Act.put,zzB,zzC,zzD,av,aw]
          rfl
        refine gO (dm HT_.out (by kernel_rfl)) ?_
        clear z1' hx0' hx4' hxr' hHeld HT_
        have hne2:b2 ≠ q:=by have:=aJ HE2.out;have:=HQ.out;have:=HG.out;omega
        have hwi:wrap64 ((i:Int)+1)=((i+1:Nat):Int):=by rw [jJ _ (by omega) (by have:=HIL.out;have:=HIR.out;omega)];rfl
        obtain ⟨w10,hw10⟩ : ∃ w10,w9.setCell ⟨q,k,none⟩ (.int .i64 (wrap64 ((i:Int)+1)))=w10:=⟨_,rfl⟩
        have z2:w10.cell? ⟨b2,0,none⟩=some (.slice A1 rs.length c1):=by
          rw [← hw10]
          exact (World.cell?_setCell_far w9 ⟨q,k,none⟩ ⟨b2,0,none⟩ _ (Ne.symm hne2)).trans (by simpa using a8 (af HE2.out HB9.out) 0)
        obtain ⟨a2,ha2⟩ : ∃ a2,a.set k ((i:Int)+1)=a2:=⟨_,rfl⟩
        obtain ⟨x2,hx2⟩ : ∃ x2,x.take k ++ [v]=x2:=⟨_,rfl⟩
        have hla:a2.length=k+1:=by rw [← ha2,List.length_set];exact HK.out
        have hlx2:x2.length=k+1:=by rw [← hx2,List.length_append,HLX.out];rfl
        have hOA10:w10.ownsRow g 3 1 (.slice (some ⟨q,0,none⟩) (k+1) c4) (k+1) (d7 .i64 a2):=by
          have h:=own_put HOA9.out (k:Int) (wrap64 ((i:Int)+1))
          rw [Int.toNat_natCast,hw10,hwi,show ((i+1:Nat):Int)=(i:Int)+1 by omega,ha2,hla,HK.out] at h
          exact h
        have hOX10:w10.ownsRow g 3 1 (.slice A9 (k+1) c9) (k+1) (d7 .i64 x2):=by
          rw [← hw10,← hx2]
          exact gL HOX9.out (fun e=>HNE9.out q rfl e.symm) _
        have hB10:Below W.heap.size W w10:=by
          rw [← hw10]
          exact HB9.out.setCell (p:=⟨q,k,none⟩) (by have:=HQ.out;have:=HG.out;simp only [];omega) _
        have hX':w10.ownsRow g 3 1 (.slice A9 (k+1) c9) x2.length (d7 .i64 x2):=by rw [hlx2];exact hOX10
        obtain ⟨A9',c9',e9,hle9,hrd9⟩:=d3 (enc:=fun x:Int=>Value.int .i64 x) (d:=0) hX'
        clear hX'
        rw [hlx2] at e9
        injection e9 with e9a _ e9c
        subst e9a e9c
        obtain ⟨bb,hbb⟩ : ∃ bb,badB rs x2=bb:=⟨_,rfl⟩
        obtain ⟨fi,hfi⟩ : ∃ fi,cV (fun r=>brokenB r x2) rs 0=fi:=⟨_,rfl⟩
        have hf1:decide (fi ≥ 0)=bb:=by rw [← hfi,gz,← hbb];rfl
        have hf2:decide (0≤fi)=bb:=hf1
        have hf:=first_ok A1 c1 rs A9 c9 x2 w10 (zzI HR1.out hB10) (Kd.C_of_reads hrd9) (by omega) HOK.out
        rw [hlx2,hfi] at hf
        have HF:=zzA hf
        have HBB:=zzA hbb
        have HA2:=zzA ha2
        have HX2:=zzA hx2
        have HOA10:=zzA hOA10
        have HOX10:=zzA hOX10
        have HB10:=zzA hB10
        have HLA:=zzA hla
        have HLX2:=zzA hlx2
        clear hne2 hwi hf hfi hbb ha2 hx2 hOA10 hOX10 hB10 hla hlx2 hle9 hrd9
        have hstep:=rest_step (bad:=badB rs) (ds:=ds) (a:=a) (x:=x) (k:=k) (i:=i) (v:=v) HK.out (by have:=HL.out;have:=HK.out;omega) HIK.out (by rw [HROW.out];exact HIL.out) (by rw [HROW.out];exact HV.out)
        have hleft:=left_step (ds:=ds) (a:=a) (k:=k) (i:=i) HK.out HIK.out (by rw [HROW.out];exact HIL.out)
        rw [HX2.out,HA2.out,HBB.out] at hstep
        rw [HA2.out] at hleft
        have hR:=HR.out
        rw [HK.out,hstep] at hR
        have hM:=HM.out
        rw [HK.out,hleft] at hM
        have hI2:∀ j,j < k+1→0≤rd a2 (j:Int)∧(rd a2 (j:Int)).toNat≤(ds.getD j []).length:=fun j hj=>by
          rw [← HA2.out]
          by_cases hjk:j=k
          · subst hjk
            rw [ku a j _ (by have:=HK.out;omega),HROW.out]
            have:=HIL.out
            exact ⟨by omega,by omega⟩
          · rw [jY a k j _ hjk]
            exact HI.out j (by have:=HK.out;omega)
        have HRR:=zzA hR
        have HMM:=zzA hM
        have HI2:=zzA hI2
        clear hstep hleft hR hM hI2
        cases bb with
        | true =>
          go_wp2_with (go_at_call 60;refine HF.out.mono ?_;rintro e w11 ⟨rfl,hb⟩;have HB11:=zzA hb;have z3:w11.cell? ⟨b1,0,none⟩=some (.slice (some ad0) ds.length c0):=(by simpa using a8 (af HE1.out (HB10.out.trans (hb.mono HB10.out.size))) 0);clear hb)
          go_roundg (left ds a2 (k+1))
          case measure=>have:=HMM.out;omega
          case rel =>
            exact ⟨a2,x2,_,_,A9,c9,by rw [HLA.out],by rw [HLX2.out],⟨by rw [HLA.out];exact dq HOA10.out HB11.out⟩,⟨by rw [HLX2.out];exact dq HOX10.out HB11.out⟩,⟨ne_cut HNE9.out⟩,⟨by have:=HL.out;have:=HK.out;have:=HLA.out;have:=HLX2.out;omega⟩,
              ⟨fun j hj=>HI2.out j (by rw [HLA.out] at hj;exact hj)⟩,⟨by rw [HLA.out];exact HRR.out⟩,⟨by rw [HLA.out];exact Nat.le_refl _⟩,⟨HB10.out.trans (HB11.out.mono HB10.out.size)⟩⟩
        | false =>
          have hkb:=HKD.out
          by_cases d2:k+1 < ds.length
          · have d2a:decide ((k:Int)+1 < (ds.length:Int))=true:=zzG (by omega)
            have d2b:decide (((k+1:Nat):Int) < (ds.length:Int))=true:=zzG (by omega)
            have d2c:decide (k+1 < ds.length)=true:=zzG d2
            have HD2:=zzA d2
            clear d2
            go_wp2_with (first|(go_at_call 60;refine HF.out.mono ?_;rintro e w11 ⟨rfl,hb⟩;have HB11:=zzA hb;have z3:w11.cell? ⟨b1,0,none⟩=some (.slice (some ad0) ds.length c0):=(by simpa using a8 (af HE1.out (HB10.out.trans (hb.mono HB10.out.size))) 0);clear hb)|((with_reducible refine dt (b:=.append) (xs:=#[.tmp 63,.tmp 64]) rfl ?_);at_builtin;refine e6 (w0:=W) g rfl (.tmp 63) (.tmp 64) 26 3 .i64 8 rfl Try.underlying26 gG (by omega) _ a2 0 rfl rfl ?aO ?aB ?aS ?aL ?_;(case aO=>have h:=dq HOA10.out HB11.out;rw [HLA.out];exact h);(case aB=>rw [← HG.out];exact HB10.out.trans (HB11.out.mono HB10.out.size));(case aS=>have h1:=HB10.out.size;have h2:=HB11.out.size;have h3:=HG.out;omega);(case aL=>have:=HLA.out;have:=HKD.out;omega);intro v12 w12 ho12 hb12 hg12 hat12;obtain ⟨A12,c12,hv12⟩:=fu ho12;subst hv12;have HOA12:=zzA ho12;have HB12:=zzA hb12;have HOX12:=zzA (World.ownsRow.kept (dq HOX10.out HB11.out) hg12 (.inr (fun e=>HNE9.out q rfl e)));have HNE12:=zzA (ne_append (v':=.slice A9 (k+1) c9) (ne_cut (n':=k+1) (c':=c4) (m':=k+1) (d':=c9) HNE9.out) hat12 (dq HOX10.out HB11.out));clear ho12 hb12 hg12 hat12))
            have hl12:(a2 ++ [0]).length=k+1+1:=by rw [List.length_append,HLA.out];rfl
            go_roundg (left ds (a2 ++ [0]) (k+1+1))
            case measure =>
              have h1:=left_in HLA.out HD2.out
              have h2:=HMM.out
              omega
            case rel =>
              refine ⟨a2 ++ [0],x2,A12,c12,A9,c9,(by rw [List.length_append];rfl),by rw [HLX2.out],⟨HOA12.out⟩,⟨by rw [HLX2.out];exact HOX12.out⟩,⟨ne_cut HNE12.out⟩,⟨by have:=HLX2.out;have:=HD2.out;omega⟩,⟨fun j hj=>?_⟩,⟨?_⟩,⟨by rw [hl12];exact Nat.le_refl _⟩,⟨by rw [HG.out];exact HB12.out⟩⟩
              · by_cases hjk:j < k+1
                · rw [ky a2 0 j (by have:=HLA.out;omega)]
                  exact HI2.out j hjk
                · have hj2:j=k+1:=by omega
                  subst hj2
                  rw [show rd (a2 ++ [0]) ((k+1:Nat):Int)=0 by rw [← HLA.out];exact jX a2 0]
                  exact ⟨by omega,by simp⟩
              · rw [hl12,← rest_in HLA.out HLX2.out HD2.out]
                exact HRR.out
          · have d2a:decide ((k:Int)+1 < (ds.length:Int))=false:=zzH (by omega)
            have d2b:decide (((k+1:Nat):Int) < (ds.length:Int))=false:=zzH (by omega)
            have d2c:decide (k+1 < ds.length)=false:=zzH d2
            have HD2:=zzA (show k+1=ds.length by have:=HL.out;have:=HK.out;omega)
            clear d2
            go_upto_region 12 with (go_at_call 60;refine HF.out.mono ?_;rintro e w11 ⟨rfl,hb⟩;have HB11:=zzA hb;have z3:w11.cell? ⟨b1,0,none⟩=some (.slice (some ad0) ds.length c0):=(by simpa using a8 (af HE1.out (HB10.out.trans (hb.mono HB10.out.size))) 0);clear hb)
            have hsol:sol (badB rs) ds []=some x2:=by
              have h:=HRR.out
              rw [if_neg (by decide),sol_end HD2.out] at h
              exact h.symm
            have hBW:Below W.heap.size W w11:=HB10.out.trans (HB11.out.mono HB10.out.size)
            obtain ⟨fn,tmps,assign,body,hy,hRd⟩:=HY.out #[.slice A9 (k+1) c9] w11 ⟨x2,hsol⟩ ⟨x2,A9,c9,hsol,by rw [HLX2.out],by rw [HLX2.out,← HWZ.out,HG.out];exact dq HOX10.out HB11.out⟩ hBW
            have HSOL:=zzA hsol
            clear hsol hBW
            refine (wpIn_wide (n:=n)).1 ?_
            gi_wp2
            refine hRd.mono ?_
            rintro e W3 ⟨rfl,hJx⟩
            gi_wp2
            try go_wp2_with (fail)
            refine bodyPost_ret (results_none rfl _ _ _) rfl ?_
            exact ⟨⟨_,rfl⟩,.inr ⟨⟨x2,HSOL.out⟩,hJx⟩⟩
end DF
end Go.Proofs.Ytcbpkdemcdikaaa.X
namespace Go.Proofs.Ytcbpkdemcdikaaa.X
open Go.RowKit Go.Proofs.YtcbpkdemcdikaaaW.PrintWords Go.Proofs.YtcbpkdemcdikaaaW.PrintLast Go.Proofs.YtcbpkdemcdikaaaW.PrintMore
attribute [local go_sem] be bc bn bo aM aK bf bd
set_option linter.unusedVariables false
set_option linter.unusedSimpArgs false
namespace DF
open SF RO
set_option maxHeartbeats 8000000
attribute [local go_sem] Oper.semAt_some
theorem clone_ok (A:Option Addr) (c:Nat) (l:List Int) (w:World) (hr:ReadsInt w .i64 A l.length l) (hl:0 < l.length) (hl2:l.length≤100000) :
    Calls Try.prog 53 #[.slice A l.length c] w fun e w'=>∃ v,e=.returned v∧w'.ownsRow w.heap.size 3 1 v l.length (d7 .i64 l)∧Below w.heap.size w w':=by
  obtain ⟨ad,e,_⟩:=hr.2.2 hl
  subst e
  have HR:=zzA hr
  have HL:=zzA hl2
  have hno:=World.ownsRow_lit (base:=w.heap.size) (e:=3) (size:=1) w #[] 0 (Nat.le_refl _) (by simp [maxLen]) rfl
  have HO:=zzA hno
  have heq:∀ W,Sem.run Try.prog (binOp BinOp.eql 26 (Value.slice (some ad) l.length c) (Value.slice none 0 0)) W=.ok (.bool false) W:=fun W=>by rfl
  clear hr hl hl2 hno
  go_enter Try.func53,Try.ntmps53
  go_wp2_with ((with_reducible refine dt (b:=.append) (xs:=#[.tmp 5,.tmp 6]) rfl ?_);at_builtin;refine jL (w0:=w) w.heap.size rfl (.tmp 5) (.tmp 6) 26 3 .i64 8 rfl Try.underlying26 gG (by omega) _ [] l (some ad) l.length c rfl rfl ?aO ?aR ?aB ?aS ?aL ?_;(case aO=>exact HO.out);(case aR=>exact HR.out.below (a6 (Below.refl _ _) _));(case aB=>exact a6 (Below.refl _ _) _);(case aS=>simp);(case aL=>have:=HL.out;simp;omega);intro v9 w9 ho hb hg hat;have HO9:=zzA ho;have HB9:=zzA hb;clear ho hb hg hat)
  go_ret
  exact ⟨_,rfl,by simpa using HO9.out,HB9.out⟩
theorem jy (A0:Option Addr) (n0 c0:Nat) (A1:Option Addr) (n1 c1:Nat) (w:World) :
    Calls Try.prog 46 #[.slice A0 n0 c0,.slice A1 n1 c1] w fun e w'=>e=.returned (.func (.func 62) #[] #[.pointer (some ⟨w.heap.size,0,none⟩),.pointer (some ⟨w.heap.size+1,0,none⟩)])∧w'=(w.alloc (.cells #[.slice A0 n0 c0] 22)).alloc (.cells #[.slice A1 n1 c1] 23):=by
  go_enter Try.func46,Try.ntmps46
  go_wp2_with (fail)
  go_ret
  exact ⟨rfl,rfl⟩
theorem jz {α β:Type} (f:α→Option β):∀ (l:List α) {b:β},l.findSome? f=some b→∃ a ∈ l,f a=some b
  | [],b,h=>by cases h
  | a :: l,b,h=>by
    rw [List.findSome?_cons] at h
    cases hf:f a with
    | some c =>
      rw [hf] at h
      cases h
      exact ⟨a,by simp,hf⟩
    | none =>
      rw [hf] at h
      obtain ⟨a',h1,h2⟩:=jz f l h
      exact ⟨a',by simp [h1],h2⟩
theorem sol_len (bad:List Int→Bool):∀ (ds:List (List Int)) (x y:List Int),sol bad ds x=some y→y.length=x.length+ds.length
  | [],x,y,h=>by cases h;rfl
  | d :: ds,x,y,h=>by
    obtain ⟨v,_,hv⟩:=jz _ d h
    split at hv
    · cases hv
    · have:=sol_len bad ds (x ++ [v]) y hv
      simp at this
      simp;omega
theorem keeps_below {B:Nat} {W W':World} (h:Below W.heap.size W W'):KeepsFrom B W W':=⟨h.size,fun k o _ hk _=>(h.block k (aJ hk)).trans hk⟩
theorem solve_ok (A0:Option Addr) (c0:Nat) (ds:List (List Int)) (A1:Option Addr) (c1:Nat) (rs:List S49) (w:World) (hr0:Kd.C (Kd.slice 3 (Kd.int .i64)) w A0 ds.length ds) (hr1:Kd.C k49 w A1 rs.length rs) (hok:∀ r ∈ rs,okR r) (hd:0 < ds.length) (hdl:ds.length≤1000) :
    Calls Try.prog 35 #[.slice A0 ds.length c0,.slice A1 rs.length c1] w fun e w'=>∃ v0_:Value,e=.returned (.tuple #[v0_,.bool (sol (badB rs) ds []).isSome])∧w'.ownsRow w.heap.size 3 1 v0_ ((sol (badB rs) ds []).getD []).length (d7 .i64 ((sol (badB rs) ds []).getD []))∧Below w.heap.size w w':=by
  have HR0:=zzA hr0;have HR1:=zzA hr1;have HOK:=zzA hok;have HD:=zzA (And.intro hd hdl)
  clear hr0 hr1 hok hd hdl
  refine (callsIn_wide (n:=3)).1 ?_
  refine callsIn_of_wp_marks Try.func35 rfl trivial ?_ rfl
  simp only [Try.ntmps35,List.size_toArray,List.length_cons,List.length_nil,Nat.reduceAdd,Nat.reduceSub,Array.replicate_succ,Array.replicate_zero,List.push_toArray,List.append_toArray,List.nil_append,List.cons_append]
  refine wpIn_wide.2 ?_
  go_wp2_with (go_at_call 46;refine (jy A0 ds.length c0 A1 rs.length c1 _).mono ?_;rintro e w' ⟨rfl,rfl⟩)
  obtain ⟨s,hs⟩ : ∃ s,w.heap.size=s:=⟨_,rfl⟩
  obtain ⟨W4,hW4⟩ : ∃ W4,((((w.alloc (.cells #[.slice none 0 0] 26)).alloc (.cells #[.bool false] 4)).alloc (.cells #[.slice A0 ds.length c0] 22)).alloc (.cells #[.slice A1 rs.length c1] 23))=W4:=⟨_,rfl⟩
  have hz4:W4.heap.size=s+1+1+1+1:=by rw [← hW4,← hs];simp
  have hB4:Below w.heap.size w W4:=by rw [← hW4];exact a6 (a6 (a6 (a6 (Below.refl _ _) _) _) _) _
  have k0:W4.heap[s]?=some (.cells #[.slice none 0 0] 26 (0,0)):=by
    rw [← hW4,← hs]
    exact a9 (a9 (a9 (bT w _) _) _) _
  have k1:W4.heap[s+1]?=some (.cells #[.bool false] 4 (0,0)):=by
    rw [← hW4,← hs]
    have h:=bT (w.alloc (.cells #[.slice none 0 0] 26)) (.cells #[.bool false] 4)
    rw [World.size_alloc] at h
    exact a9 (a9 h _) _
  have k2:W4.heap[s+1+1]?=some (.cells #[.slice A0 ds.length c0] 22 (0,0)):=by
    rw [← hW4,← hs]
    have h:=bT ((w.alloc (.cells #[.slice none 0 0] 26)).alloc (.cells #[.bool false] 4)) (.cells #[.slice A0 ds.length c0] 22)
    rw [World.size_alloc,World.size_alloc] at h
    exact a9 h _
  have k3:W4.heap[s+1+1+1]?=some (.cells #[.slice A1 rs.length c1] 23 (0,0)):=by
    rw [← hW4,← hs]
    have h:=bT (((w.alloc (.cells #[.slice none 0 0] 26)).alloc (.cells #[.bool false] 4)).alloc (.cells #[.slice A0 ds.length c0] 22)) (.cells #[.slice A1 rs.length c1] 23)
    rw [World.size_alloc,World.size_alloc,World.size_alloc] at h
    exact h
  rw [hW4,hs]
  have HSEQ:=zzA (iter_once 2 (by omega) (s+1+1) (s+1+1+1) A0 c0 ds A1 c1 rs W4 k2 k3 (zzI HR0.out hB4) (zzI HR1.out hB4) HOK.out HD.out.1 HD.out.2)
  have HB4:=zzA hB4;have HZ4:=zzA hz4;have HS:=zzA hs
  have K0:=zzA k0;have K1:=zzA k1
  clear hW4 hB4 hz4 hs k0 k1 k2 k3
  refine (wpIn_wide (n:=3)).1 ?_
  refine gF rfl (by omega) (gf:=62) rfl trivial (enters_of Try.func62 (by kernel_rfl) rfl) HSEQ.out (fun args W ⟨x,A,c,_,e,_⟩=>by rw [e];rfl) ?hY
    (fun c W=>c=.ret∧∃ x v,sol (badB rs) ds []=some x∧W.heap[s]?=some (.cells #[v] 26 (0,0))∧W.heap[s+1]?=some (.cells #[.bool true] 4 (0,0))∧W.ownsRow s 3 1 v x.length (d7 .i64 x)∧Below s w W) ?hIx
    (fun args=>{ tmps:=#[.slice A0 ds.length c0,.slice A1 rs.length c1,undef,undef,.pointer (some ⟨s,0,none⟩),.pointer (some ⟨s+1,0,none⟩),args.getD 0 undef,.slice A0 ds.length c0,.slice A1 rs.length c1,.func (.func 62) #[] #[.pointer (some ⟨s+1+1,0,none⟩),.pointer (some ⟨s+1+1+1,0,none⟩)],args.getD 0 undef,undef,undef],defers:=[] }) ?assign ?body ?done ?stop
  case hY =>
    rintro args W o o' ⟨x,A,c,h1,h2,h3⟩ hl ho
    exact ⟨x,A,c,h1,h2,ownsRow_putObj h3 _ hl ho⟩
  case hIx =>
    rintro c W o o' ⟨h0,x,v,h1,h2,h3,h4,h5⟩ hl ho
    refine ⟨h0,x,v,h1,?_,?_,ownsRow_putObj h4 _ hl ho,?_⟩
    · rw [World.putObj_heap_other (by have:=HZ4.out;omega)];exact h2
    · rw [World.putObj_heap_other (by have:=HZ4.out;omega)];exact h3
    · exact h5.trans ⟨rfl,rfl,rfl,by rw [World.putObj_size];exact Nat.le_refl _,fun k hk=>World.putObj_heap_other (by have:=HZ4.out;omega)⟩
  case assign =>
    rintro l args W K ⟨x,A,c,_,rfl,_⟩ hK
    gi_wp2
    exact hK
  case body =>
    rintro l args W _ ⟨x,A,c,hx,rfl,ho⟩ hb hsz
    have hlen:=sol_len _ _ _ _ hx
    have b0:=af K0.out hb
    have b1:=af K1.out hb
    have f0:=ab b0 0
    have f1:=ab b1 0
    have z0:=a8 b0 0
    have z1:=a8 b1 0
    simp only [List.getElem?_toArray,List.getElem?_cons_zero] at z0 z1
    have h11:1≤3 - 1 - 1:=by omega
    have hcl:=clone_ok A c x W (j4 ho) (by rw [hlen];have:=HD.out;simp;omega) (by rw [hlen];have:=HD.out;simp;omega)
    have HCL:=zzA hcl
    clear hcl hlen
    rw [show (#[Value.slice A x.length c]:Array Value).getD 0 undef=.slice A x.length c from rfl]
    gi_wp2_with (refine ⟨trivial,?_⟩;gi_at_call 53;refine (CallsIn.inRound l (callsIn_wide.2 HCL.out)).mono ?_;rintro e w' ⟨v,rfl,hv,hbv⟩;obtain ⟨A9,c9,hv9⟩:=fu hv;subst hv9;have b0':=af b0 hbv;have b1':=af b1 hbv;have f0':=ab b0' 0;have f1':=ab b1' 0;have z0':=a8 b0' 0;have z1':=a8 b1' 0;simp only [List.getElem?_toArray,List.getElem?_cons_zero] at z0' z1')
    have hne:s ≠ s+1:=by omega
    have d0:((w'.setCell ⟨s,0,none⟩ (.slice A9 x.length c9)).setCell ⟨s+1,0,none⟩ (.bool true)).heap[s]?=some (.cells #[.slice A9 x.length c9] 26 (0,0)):=by
      rw [Below.heap_setCell _ _ _ _ (by simp)]
      exact dL b0' 0 _
    have d1:((w'.setCell ⟨s,0,none⟩ (.slice A9 x.length c9)).setCell ⟨s+1,0,none⟩ (.bool true)).heap[s+1]?=some (.cells #[.bool true] 4 (0,0)):=by
      have h:(w'.setCell ⟨s,0,none⟩ (.slice A9 x.length c9)).heap[s+1]?=some (.cells #[.bool false] 4 (0,0)):=by
        rw [Below.heap_setCell _ _ _ _ (by simp)]
        exact b1'
      exact dL h 0 _
    refine ⟨(((keeps_below hbv).trans ((KeepsOthers.setCell _ _ _).from _)).trans ((KeepsOthers.setCell _ _ _).from _)),rfl,x,.slice A9 x.length c9,hx,d0,d1,?_,?_⟩
    · have hlt:s+1 < W.heap.size:=aJ b1
      have h1:=gL (p:=⟨s,0,none⟩) hv (fun e=>by have:=d8 hv s e.symm;omega) (.slice A9 x.length c9)
      have h2:=gL (p:=⟨s+1,0,none⟩) h1 (fun e=>by have:=d8 hv (s+1) e.symm;omega) (.bool true)
      exact gw h2 (by omega)
    · have h0:Below s w W:=by rw [← HS.out];exact HB4.out.trans (hb.mono HB4.out.size)
      have h1:Below s w w':=h0.trans (hbv.mono (by have:=aJ b1;omega))
      exact (h1.setCell (p:=⟨s,0,none⟩) (Nat.le_refl _) _).setCell (p:=⟨s+1,0,none⟩) (by simp) _
  case done =>
    intro W hno hb hD
    have hsol:sol (badB rs) ds []=none:=by
      cases h:sol (badB rs) ds [] with
      | none=>rfl
      | some x=>exact absurd ⟨x,h⟩ hno
    have b0:=af K0.out hb
    have b1:=af K1.out hb
    have f0:=ab b0 0
    have f1:=ab b1 0
    have z0:=a8 b0 0
    have z1:=a8 b1 0
    simp only [List.getElem?_toArray,List.getElem?_cons_zero] at z0 z1
    go_wp2_with (fail)
    have d0:((W.setCell ⟨s,0,none⟩ (.slice none 0 0)).setCell ⟨s+1,0,none⟩ (.bool false)).heap[s]?=some (.cells #[.slice none 0 0] 26 (0,0)):=by
      rw [Below.heap_setCell _ _ _ _ (by simp)]
      exact dL b0 0 _
    have d1:((W.setCell ⟨s,0,none⟩ (.slice none 0 0)).setCell ⟨s+1,0,none⟩ (.bool false)).heap[s+1]?=some (.cells #[.bool false] 4 (0,0)):=by
      have h:(W.setCell ⟨s,0,none⟩ (.slice none 0 0)).heap[s+1]?=some (.cells #[.bool false] 4 (0,0)):=by
        rw [Below.heap_setCell _ _ _ _ (by simp)]
        exact b1
      exact dL h 0 _
    have hBe:Below s w ((W.setCell ⟨s,0,none⟩ (.slice none 0 0)).setCell ⟨s+1,0,none⟩ (.bool false)):=by
      have h0:Below s w W:=by rw [← HS.out];exact HB4.out.trans (hb.mono HB4.out.size)
      exact (h0.setCell (p:=⟨s,0,none⟩) (Nat.le_refl _) _).setCell (p:=⟨s+1,0,none⟩) (by simp) _
    have hDe:((W.setCell ⟨s,0,none⟩ (.slice none 0 0)).setCell ⟨s+1,0,none⟩ (.bool false)).heap[W4.heap.size]?=some (.deferred (some [])):=by
      rw [Below.heap_setCell _ _ _ _ (by have:=HZ4.out;simp;omega),Below.heap_setCell _ _ _ _ (by have:=HZ4.out;simp;omega)]
      exact hD
    obtain ⟨We,hWe⟩ : ∃ We,(W.setCell ⟨s,0,none⟩ (.slice none 0 0)).setCell ⟨s+1,0,none⟩ (.bool false)=We:=⟨_,rfl⟩
    rw [hWe] at d0 d1 hBe hDe ⊢
    have e2:(We.putObj W4.heap.size (.deferred none)).heap[s]?=some (.cells #[.slice none 0 0] 26 (0,0)):=by rw [World.putObj_heap_other (by have:=HZ4.out;omega)];exact d0
    have e3:(We.putObj W4.heap.size (.deferred none)).heap[s+1]?=some (.cells #[.bool false] 4 (0,0)):=by rw [World.putObj_heap_other (by have:=HZ4.out;omega)];exact d1
    have z0:=a8 e2 0
    have z1:=a8 e3 0
    simp only [List.getElem?_toArray,List.getElem?_cons_zero] at z0 z1
    refine ⟨by simp,.inl ⟨_,_,rfl,run_takeDeferred hDe,?_⟩⟩
    refine ⟨.tuple #[.slice none 0 0,.bool false],?_,.slice none 0 0,?_,?_,?_⟩
    · simp [results,Try.results35,go_sem,z0,z1]
    · rw [hsol];rfl
    · rw [hsol];exact World.ownsRow_nil _ _ _ _
    · rw [HS.out]
      exact hBe.trans ⟨rfl,rfl,rfl,by rw [World.putObj_size];exact Nat.le_refl _,fun k hk=>World.putObj_heap_other (by have:=HZ4.out;omega)⟩
  case stop =>
    rintro c W _ ⟨rfl,x,v,hx,h2,h3,h4,h5⟩ hD
    gi_wp2
    have e2:(W.putObj W4.heap.size (.deferred none)).heap[s]?=some (.cells #[v] 26 (0,0)):=by rw [World.putObj_heap_other (by have:=HZ4.out;omega)];exact h2
    have e3:(W.putObj W4.heap.size (.deferred none)).heap[s+1]?=some (.cells #[.bool true] 4 (0,0)):=by rw [World.putObj_heap_other (by have:=HZ4.out;omega)];exact h3
    have z0:=a8 e2 0
    have z1:=a8 e3 0
    simp only [List.getElem?_toArray,List.getElem?_cons_zero] at z0 z1
    refine ⟨by simp,.inl ⟨_,_,rfl,run_takeDeferred hD,?_⟩⟩
    refine ⟨.tuple #[v,.bool true],?_,v,?_,?_,?_⟩
    · simp [results,Try.results35,go_sem,z0,z1]
    · rw [hx];rfl
    · rw [hx,HS.out];exact ownsRow_putObj h4 _ hD rfl
    · rw [HS.out]
      exact h5.trans ⟨rfl,rfl,rfl,by rw [World.putObj_size];exact Nat.le_refl _,fun k hk=>World.putObj_heap_other (by have:=HZ4.out;omega)⟩
end DF
end Go.Proofs.Ytcbpkdemcdikaaa.X
namespace Go.Proofs.Ytcbpkdemcdikaaa.X
open Go.RowKit Go.Proofs.YtcbpkdemcdikaaaW.PrintWords Go.Proofs.YtcbpkdemcdikaaaW.PrintLast Go.Proofs.YtcbpkdemcdikaaaW.PrintMore
attribute [local go_sem] be bc bn bo aM aK bf bd   
set_option linter.unusedVariables false
set_option linter.unusedSimpArgs false
def search_solve.f (l0:List (List Int)) (l1:List (S49)):Option (List Int × Bool):=if l1.all SF.okB && decide (0 < l0.length) && decide (l0.length≤1000) then some ((DF.sol (DF.badB l1) l0 []).getD [],(DF.sol (DF.badB l1) l0 []).isSome) else none
theorem search_solve.calls (A0:Option Addr) (c0:Nat) (l0:List (List Int)) (A1:Option Addr) (c1:Nat) (l1:List (S49)) (r1:List Int) (r2:Bool) (w:World) (hr0:Kd.C (Kd.slice 3 (Kd.int .i64)) w A0 l0.length l0) (hc0:l0.length≤c0) (hr1:Kd.C k49 w A1 l1.length l1) (hc1:l1.length≤c1) (h:search_solve.f l0 l1=some (r1,r2)) :
  Calls Try.prog 35 #[.slice A0 l0.length c0,.slice A1 l1.length c1] w fun e w'=>∃ v0_:Value,e=.returned (.tuple #[v0_,.bool r2])∧Kd.R (Kd.int .i64) 3 w' w.heap.size (fun _=>True) v0_ r1∧Below w.heap.size w w':=by
 unfold search_solve.f at h
 split at h
 ·rename_i hk
  simp only [Bool.and_eq_true,decide_eq_true_eq,List.all_eq_true] at hk
  cases h
  refine (DF.solve_ok A0 c0 l0 A1 c1 l1 w hr0 hr1 (fun r hr=>SF.okB_R (hk.1.1 r hr)) hk.1.2 hk.2).mono ?_
  rintro e w' ⟨v,he,ho,hb⟩
  exact ⟨v,he,Kd.R_of_own ho (fun _ _=>trivial),hb⟩
 ·cases h
def search_Solve.f (k:Nat) (ai:List (List Int)) (ah:List (S49)):Option (List Int × Bool × Int):=(search_Check.f k ai ah).bind fun t134=>(if t134=0 then ((search_solve.f ai ah).bind fun lF=>(some (lF.1,lF.2,0))) else (some (([]:List Int),false,t134)))
set_option maxHeartbeats 8000000 in
set_option maxRecDepth 100000 in
theorem search_Solve.calls (k:Nat) (ax:Option Addr) (ap:Nat) (ai:List (List Int)) (au:Option Addr) (am:Nat) (ah:List (S49)) (r1:List Int) (r2:Bool) (r3:Int) (w:World) (bV:Kd.C (Kd.slice 3 (Kd.int .i64)) w ax ai.length ai) (bX:ai.length≤ap) (bP:Kd.C k49 w au ah.length ah) (bU:ah.length≤am) (h:search_Solve.f k ai ah=some (r1,r2,r3)) :
  Calls Try.prog 15 #[.agg #[.slice ax ai.length ap,.slice au ah.length am]] w fun e w'=>∃ v0_:Value,e=.returned (.tuple #[v0_,.bool r2,.int .i64 r3])∧Kd.R (Kd.int .i64) 3 w' w.heap.size (fun _=>True) v0_ r1∧Below w.heap.size w w':=by
 have hu25:=Try.underlying25
 have bz:=zzA bV
 have bH:=zzA bX
 clear bV bX
 have bq:=zzA bP
 have bF:=zzA bU
 clear bP bU
 have HB:=zzA (Below.refl w.heap.size w)
 have H:((search_Check.f k ai ah).bind fun t134=>(if t134=0 then ((search_solve.f ai ah).bind fun lF=>(some (lF.1,lF.2,0))) else (some (([]:List Int),false,t134))))=some (r1,r2,r3):=h
 clear h
 replace H:=Option.bind_eq_some_iff.mp H
 obtain ⟨t134,A20,H⟩:=H
 replace H:(if t134=0 then ((search_solve.f ai ah).bind fun lF=>(some (lF.1,lF.2,0))) else (some (([]:List Int),false,t134)))=some (r1,r2,r3):=H
 have A2:=zzA A20
 clear A20
 by_cases c3:t134=0
 ·rw [if_pos c3] at H
  have kA:(t134 == 0)=true:=beq_iff_eq.mpr c3
  have c3b1:(t134 != 0)=false:=bne_eq_false_iff_eq.mpr c3
  clear c3
  replace H:=Option.bind_eq_some_iff.mp H
  obtain ⟨⟨t135,t136⟩,A40,H⟩:=H
  replace H:(some (t135,t136,0))=some (r1,r2,r3):=H
  have A4:=zzA A40
  clear A40
  simp only [Option.some.injEq,Prod.mk.injEq] at H
  obtain ⟨rfl,rfl,rfl⟩:=H
  go_enter Try.func15,Try.ntmps15
  go_wp2_with (first|((with_reducible refine ay (N:=1) rfl ?_);refine aq ?hg (N:=1) ?hd (cs:=#[.slice ax ai.length ap,.slice au ah.length am]) (t:=25) ?hr ?_;(case hd=>rfl);(case hg=>rfl);(case hr=>first|(go_simp;done)|(go_simp;rfl));intro iM hg w5 hbox hb;have n0_:=zzA (ag (by repeat (first|(with_reducible first|exact HB.out|apply a6|apply a4|apply a5)|exact HB.out)) hb);have n1_:=zzA (hbox);have n2_:=zzA ((by rw [hg];exact (ae (by repeat (first|(with_reducible first|exact HB.out|apply a6|apply a4|apply a5)|exact HB.out))):w.heap.size≤iM));have n3_:=zzA ((by rw [hg];exact (ae (by repeat (first|(with_reducible first|exact HB.out|apply a6|apply a4|apply a5)|exact HB.out))):w.heap.size≤iM));clear HB;have HB:=n0_;have fb:=n1_;have GW133:=n2_;have GE133:=n3_;clear n0_ n1_ n2_ n3_;clear hb hbox hg;have ez:w5.cell? ⟨iM,0,none⟩=some (.slice ax ai.length ap):=(a8 fb.out 0).trans rfl;have eA:w5.cell? ⟨iM,1,none⟩=some (.slice au ah.length am):=(a8 fb.out 1).trans rfl;have eB:=ab fb.out 0;have eC:=ab fb.out 1)|((with_reducible refine ar (f:=17) rfl ?_);refine bi (some 6) rfl rfl Try.func17 (by kernel_rfl) rfl #[.agg #[.slice ax ai.length ap,.slice au ah.length am]] rfl (by (try simp only [List.map_toArray,List.map_cons,List.map_nil]);first|done|rfl|(simp only [List.length_drop,List.length_take];rfl)) ?_;(with_reducible refine (search_Check.calls k _ _ ai _ _ ah t134 _ ?side1 ?side2 ?side3 ?side4 A2.out).mono ?_);(case side1=>repeat (first|exact (zzI bz.out HB.out)|(with_reducible refine Kd.C_alloc ?_ _)|(with_reducible refine Kd.C_drewN ?_ _)|(with_reducible refine Kd.C_drew ?_)));(case side2=>exact bH.out);(case side3=>repeat (first|exact (zzI bq.out HB.out)|(with_reducible refine Kd.C_alloc ?_ _)|(with_reducible refine Kd.C_drewN ?_ _)|(with_reducible refine Kd.C_drew ?_)));(case side4=>exact bF.out);rintro e w7 ⟨rfl,hb⟩;refine ⟨_,rfl,?_⟩;have n0_:=zzA (af (g:=iM) (o:=.cells #[.slice ax ai.length ap,.slice au ah.length am] 25 (0,0)) (by (with_reducible repeat (first|refine aa ?_ _|refine ac ?_|refine a9 ?_ _));exact fb.out) hb);have n1_:=zzA (ag (by repeat (first|(with_reducible first|exact HB.out|apply a6|apply a4|apply a5|refine a7 ?_ GE133.out)|exact HB.out)) hb);clear fb;clear HB;have fb:=n0_;have HB:=n1_;clear n0_ n1_;(try clear hb);(try clear hb2);(try clear hk);(try clear hi);have eD:w7.cell? ⟨iM,0,none⟩=some (.slice ax ai.length ap):=(a8 fb.out 0).trans rfl;have eE:w7.cell? ⟨iM,1,none⟩=some (.slice au ah.length am):=(a8 fb.out 1).trans rfl;have eF:=ab fb.out 0;have eG:=ab fb.out 1)|((with_reducible refine ar (f:=35) rfl ?_);refine bi (some 15) rfl rfl Try.func35 (by kernel_rfl) rfl #[.slice ax ai.length ap,.slice au ah.length am] rfl (by (try simp only [List.map_toArray,List.map_cons,List.map_nil]);first|done|rfl|(simp only [List.length_drop,List.length_take];rfl)) ?_;(with_reducible refine (search_solve.calls _ _ ai _ _ ah t135 t136 _ ?side1 ?side2 ?side3 ?side4 A4.out).mono ?_);(case side1=>repeat (first|exact (zzI bz.out HB.out)|(with_reducible refine Kd.C_alloc ?_ _)|(with_reducible refine Kd.C_drewN ?_ _)|(with_reducible refine Kd.C_drew ?_)));(case side2=>exact bH.out);(case side3=>repeat (first|exact (zzI bq.out HB.out)|(with_reducible refine Kd.C_alloc ?_ _)|(with_reducible refine Kd.C_drewN ?_ _)|(with_reducible refine Kd.C_drew ?_)));(case side4=>exact bF.out);rintro e w9 ⟨v137,rfl,ho0,hb⟩;refine ⟨_,rfl,?_⟩;have n0_:=zzA (Kd.R_lower ho0 (ae (by repeat (first|(with_reducible first|exact HB.out|apply a6|apply a4|apply a5|refine a7 ?_ GE133.out)|exact HB.out))));have n1_:=zzA (af (g:=iM) (o:=.cells #[.slice ax ai.length ap,.slice au ah.length am] 25 (0,0)) (by (with_reducible repeat (first|refine aa ?_ _|refine ac ?_|refine a9 ?_ _));exact fb.out) hb);have n2_:=zzA (ag (by repeat (first|(with_reducible first|exact HB.out|apply a6|apply a4|apply a5|refine a7 ?_ GE133.out)|exact HB.out)) hb);clear fb;clear HB;have HO138:=n0_;have fb:=n1_;have HB:=n2_;clear n0_ n1_ n2_;(try clear hb);(try clear hb2);(try clear hk);(try clear hi);(try clear ho0)))
  go_ret3
  exact ⟨_,by first|rfl|(simp [ak,al] <;> rfl)|(simp [*,ak,al] <;> rfl),by (with_reducible repeat (first|apply Kd.R_alloc|apply Kd.R_drewN|apply Kd.R_drew));exact HO138.out,by repeat (first|(with_reducible first|exact HB.out|apply a6|apply a4|apply a5|refine a7 ?_ GE133.out)|exact HB.out)⟩
 ·rw [if_neg c3] at H
  have kA:(t134 == 0)=false:=beq_eq_false_iff_ne.mpr c3
  have c3b1:(t134 != 0)=true:=bne_iff_ne.mpr c3
  simp only [Option.some.injEq,Prod.mk.injEq] at H
  obtain ⟨rfl,rfl,rfl⟩:=H
  go_enter Try.func15,Try.ntmps15
  go_wp2_with (first|((with_reducible refine ay (N:=1) rfl ?_);refine aq ?hg (N:=1) ?hd (cs:=#[.slice ax ai.length ap,.slice au ah.length am]) (t:=25) ?hr ?_;(case hd=>rfl);(case hg=>rfl);(case hr=>first|(go_simp;done)|(go_simp;rfl));intro iM hg w10 hbox hb;have n0_:=zzA (ag (by repeat (first|(with_reducible first|exact HB.out|apply a6|apply a4|apply a5)|exact HB.out)) hb);have n1_:=zzA (hbox);have n2_:=zzA ((by rw [hg];exact (ae (by repeat (first|(with_reducible first|exact HB.out|apply a6|apply a4|apply a5)|exact HB.out))):w.heap.size≤iM));have n3_:=zzA ((by rw [hg];exact (ae (by repeat (first|(with_reducible first|exact HB.out|apply a6|apply a4|apply a5)|exact HB.out))):w.heap.size≤iM));clear HB;have HB:=n0_;have fb:=n1_;have GW133:=n2_;have GE133:=n3_;clear n0_ n1_ n2_ n3_;clear hb hbox hg;have cJ:w10.cell? ⟨iM,0,none⟩=some (.slice ax ai.length ap):=(a8 fb.out 0).trans rfl;have cK:w10.cell? ⟨iM,1,none⟩=some (.slice au ah.length am):=(a8 fb.out 1).trans rfl;have cL:=ab fb.out 0;have cM:=ab fb.out 1)|((with_reducible refine ar (f:=17) rfl ?_);refine bi (some 6) rfl rfl Try.func17 (by kernel_rfl) rfl #[.agg #[.slice ax ai.length ap,.slice au ah.length am]] rfl (by (try simp only [List.map_toArray,List.map_cons,List.map_nil]);first|done|rfl|(simp only [List.length_drop,List.length_take];rfl)) ?_;(with_reducible refine (search_Check.calls k _ _ ai _ _ ah t134 _ ?side1 ?side2 ?side3 ?side4 A2.out).mono ?_);(case side1=>repeat (first|exact (zzI bz.out HB.out)|(with_reducible refine Kd.C_alloc ?_ _)|(with_reducible refine Kd.C_drewN ?_ _)|(with_reducible refine Kd.C_drew ?_)));(case side2=>exact bH.out);(case side3=>repeat (first|exact (zzI bq.out HB.out)|(with_reducible refine Kd.C_alloc ?_ _)|(with_reducible refine Kd.C_drewN ?_ _)|(with_reducible refine Kd.C_drew ?_)));(case side4=>exact bF.out);rintro e w12 ⟨rfl,hb⟩;refine ⟨_,rfl,?_⟩;have n0_:=zzA (af (g:=iM) (o:=.cells #[.slice ax ai.length ap,.slice au ah.length am] 25 (0,0)) (by (with_reducible repeat (first|refine aa ?_ _|refine ac ?_|refine a9 ?_ _));exact fb.out) hb);have n1_:=zzA (ag (by repeat (first|(with_reducible first|exact HB.out|apply a6|apply a4|apply a5|refine a7 ?_ GE133.out)|exact HB.out)) hb);clear fb;clear HB;have fb:=n0_;have HB:=n1_;clear n0_ n1_;(try clear hb);(try clear hb2);(try clear hk);(try clear hi)))
  go_ret3
  exact ⟨_,by first|rfl|(simp [ak,al] <;> rfl)|(simp [*,ak,al] <;> rfl),by first|exact Kd.R_nil _ _ _ _ _|exact Kd.N_nil _ _ _ _ _|exact Kd.V_nil _ _ _ _ _|exact Kd.Q_nil _ _ _ _ _|exact Kd.S_nil _ _ _ _ _,by repeat (first|(with_reducible first|exact HB.out|apply a6|apply a4|apply a5|refine a7 ?_ GE133.out)|exact HB.out)⟩
def fastiref15_SameInts.l0:Nat→List Int→List Int→Int→Option (Bool)
 | 0,_,_,_=>none
 | k+1,x0,x1,x5=>if x5 < (x0.length:Int) then (if 0≤x5 then (if x5 < (x1.length:Int) then (if (rd x0 x5)=(rd x1 x5) then (fastiref15_SameInts.l0 k x0 x1 (wrap64 (x5+1))) else (some false)) else (none)) else (none)) else (some true)
def fastiref15_SameInts.f (k:Nat) (l0:List Int) (l1:List Int):Option (Bool):=if (l0.length:Int)=(l1.length:Int) then (fastiref15_SameInts.l0 k l0 l1 0) else (some false)
set_option maxHeartbeats 8000000 in
set_option maxRecDepth 100000 in
theorem fastiref15_SameInts.calls (k:Nat) (A0:Option Addr) (c0:Nat) (l0:List Int) (A1:Option Addr) (c1:Nat) (l1:List Int) (r:Bool) (w:World) (hr0:Kd.C (Kd.int .i64) w A0 l0.length l0) (hc0:l0.length≤c0) (hr1:Kd.C (Kd.int .i64) w A1 l1.length l1) (hc1:l1.length≤c1) (h:fastiref15_SameInts.f k l0 l1=some r) :
  Calls Try.prog 19 #[.slice A0 l0.length c0,.slice A1 l1.length c1] w fun e w'=>e=.returned (.bool r)∧Drawn0 w w':=by
 have HR0:=zzA hr0
 have HC0:=zzA hc0
 clear hr0 hc0
 have HR1:=zzA hr1
 have HC1:=zzA hc1
 clear hr1 hc1
 have H:(if (l0.length:Int)=(l1.length:Int) then (fastiref15_SameInts.l0 k l0 l1 0) else (some false))=some r:=h
 clear h
 by_cases c3:(l0.length:Int)=(l1.length:Int)
 ·rw [if_pos c3] at H
  have kA:((l0.length:Int) == (l1.length:Int))=true:=beq_iff_eq.mpr c3
  have c3b1:((l0.length:Int) != (l1.length:Int))=false:=bne_eq_false_iff_eq.mpr c3
  have c3b2:(l0.length == l1.length)=true:=by first|simpa using c3|(simp at c3 ⊢;omega)
  clear c3
  have H':=zzA H
  clear H
  go_enter Try.func19,Try.ntmps19
  go_wp2
  repeat (go_quiet (fail);try go_wp2)
  go_loopg [5] k (fun kq v5 w'=>∃ (x5_1:Int),v5=.int .i64 x5_1∧Aside0 (fastiref15_SameInts.l0 kq l0 l1 x5_1=some r)∧Aside0 (kq≤k)∧Drawn0 w w')
  case atStart=>exact ⟨(0),(by first|rfl|(simp;done)|(simp [*];done)),H',⟨Nat.le_refl _⟩,by repeat (first|exact Drawn0.refl _|apply Drawn0.step)⟩
  case round =>
   clear H'
   try clear c1;try clear p2;try clear c3;try clear kA;try clear c3b1;try clear c3b2
   obtain ⟨x5_1,rfl,HA,HK1,⟨m1,rfl⟩⟩:=hrel
   cases gk with
   | zero=>exact absurd HA.out (by simp [fastiref15_SameInts.l0])
   | succ k1 =>
    have H:=HA.out
    clear HA
    simp only [fastiref15_SameInts.l0] at H
    by_cases c4:x5_1 < (l0.length:Int)
    ·rw [if_pos c4] at H
     have f8:decide (x5_1 < (l0.length:Int))=true:=zzG c4
     clear c4
     by_cases c5:0≤x5_1
     ·rw [if_pos c5] at H
      have jU:decide (0≤x5_1)=true:=zzG c5
      clear c5
      by_cases c6:x5_1 < (l1.length:Int)
      ·rw [if_pos c6] at H
       have c6b0:decide (x5_1 < (l1.length:Int))=true:=zzG c6
       clear c6
       by_cases c7:(rd l0 x5_1)=(rd l1 x5_1)
       ·rw [if_pos c7] at H
        have c7b0:((rd l0 x5_1) == (rd l1 x5_1))=true:=beq_iff_eq.mpr c7
        have c7b1:((rd l0 x5_1) != (rd l1 x5_1))=false:=bne_eq_false_iff_eq.mpr c7
        clear c7
        have H':=zzA H
        clear H
        have p139:0≤(x5_1:Int):=zzF (by first|(with_reducible assumption)|assumption)
        have q139:x5_1 < (l0.length:Int):=zzF (by first|(with_reducible assumption)|assumption)
        obtain ⟨ad139,e139,hx139_0⟩:=Kd.at_int HR0.out x5_1 p139 q139
        cases e139
        replace p139:=eq_true p139
        replace q139:=eq_true q139
        have p140:0≤(x5_1:Int):=zzF (by first|(with_reducible assumption)|assumption)
        have q140:x5_1 < (l1.length:Int):=zzF (by first|(with_reducible assumption)|assumption)
        obtain ⟨ad140,e140,hx140_0⟩:=Kd.at_int HR1.out x5_1 p140 q140
        cases e140
        replace p140:=eq_true p140
        replace q140:=eq_true q140
        go_wp2
        repeat (go_quiet (fail);try go_wp2)
        go_roundg k1
        case measure=>have:=HK1.out;omega
        case rel=>exact ⟨(wrap64 (x5_1+1)),(by first|rfl|(simp;done)|(simp [*];done)),H',⟨by have:=HK1.out;omega⟩,by repeat (first|exact Drawn0.refl _|apply Drawn0.step)⟩
       ·rw [if_neg c7] at H
        have c7b0:((rd l0 x5_1) == (rd l1 x5_1))=false:=beq_eq_false_iff_ne.mpr c7
        have c7b1:((rd l0 x5_1) != (rd l1 x5_1))=true:=bne_iff_ne.mpr c7
        obtain rfl:=Option.some.inj H
        have p139:0≤(x5_1:Int):=zzF (by first|(with_reducible assumption)|assumption)
        have q139:x5_1 < (l0.length:Int):=zzF (by first|(with_reducible assumption)|assumption)
        obtain ⟨ad139,e139,hx139_0⟩:=Kd.at_int HR0.out x5_1 p139 q139
        cases e139
        replace p139:=eq_true p139
        replace q139:=eq_true q139
        have p140:0≤(x5_1:Int):=zzF (by first|(with_reducible assumption)|assumption)
        have q140:x5_1 < (l1.length:Int):=zzF (by first|(with_reducible assumption)|assumption)
        obtain ⟨ad140,e140,hx140_0⟩:=Kd.at_int HR1.out x5_1 p140 q140
        cases e140
        replace p140:=eq_true p140
        replace q140:=eq_true q140
        go_wp2
        repeat (go_quiet (fail);try go_wp2)
        go_ret
        exact ⟨by first|rfl|(simp;done)|(simp [*];done),by repeat (first|exact Drawn0.refl _|apply Drawn0.step)⟩
      ·rw [if_neg c6] at H
       exact absurd H (by simp)
     ·rw [if_neg c5] at H
      exact absurd H (by simp)
    ·rw [if_neg c4] at H
     have f8:decide (x5_1 < (l0.length:Int))=false:=zzH c4
     clear c4
     obtain rfl:=Option.some.inj H
     go_wp2
     repeat (go_quiet (fail);try go_wp2)
     go_ret
     exact ⟨by first|rfl|(simp;done)|(simp [*];done),by repeat (first|exact Drawn0.refl _|apply Drawn0.step)⟩
 ·rw [if_neg c3] at H
  have kA:((l0.length:Int) == (l1.length:Int))=false:=beq_eq_false_iff_ne.mpr c3
  have c3b1:((l0.length:Int) != (l1.length:Int))=true:=bne_iff_ne.mpr c3
  have c3b2:(l0.length == l1.length)=false:=by first|simpa using c3|(simp at c3 ⊢;omega)
  obtain rfl:=Option.some.inj H
  go_enter Try.func19,Try.ntmps19
  go_wp2
  repeat (go_quiet (fail);try go_wp2)
  go_ret
  exact ⟨by first|rfl|(simp;done)|(simp [*];done),by repeat (first|exact Drawn0.refl _|apply Drawn0.step)⟩
end Go.Proofs.Ytcbpkdemcdikaaa.X
namespace Go.Proofs.Ytcbpkdemcdikaaa.X
open Go.RowKit Go.Proofs.YtcbpkdemcdikaaaW.PrintWords Go.Proofs.YtcbpkdemcdikaaaW.PrintLast Go.Proofs.YtcbpkdemcdikaaaW.PrintMore
attribute [local go_sem] be bc bn bo aM aK bf bd
set_option linter.unusedVariables false
set_option linter.unusedSimpArgs false
namespace DF
open SF
set_option maxHeartbeats 8000000
def firI (rs:List S49) (x:List Int):Int:=cV (fun r=>brokenB r x) rs 0
def proveT (rs:List S49):List (List Int)→List Int→S39
  | [],x=>⟨firI rs x,[]⟩
  | d :: ds,x=>if firI rs x ≥ 0 then ⟨firI rs x,[]⟩ else ⟨-1,d.map fun v=>proveT rs ds (x ++ [v])⟩
theorem jR (rs:List S49) (x:List Int):decide (firI rs x ≥ 0)=badB rs x:=gz _ rs 0
theorem proveT_bad (rs:List S49) (ds:List (List Int)) (x:List Int) (h:badB rs x=true):proveT rs ds x=⟨firI rs x,[]⟩:=by
  cases ds with
  | nil=>rfl
  | cons d ds =>
    have h1:firI rs x ≥ 0:=zzF ((jR rs x).trans h)
    unfold proveT
    rw [if_pos h1]
theorem proveT_no (rs:List S49) (d:List Int) (ds:List (List Int)) (x:List Int) (h:badB rs x=false):proveT rs (d :: ds) x=⟨-1,d.map fun v=>proveT rs ds (x ++ [v])⟩:=by
  have h1:¬ firI rs x ≥ 0:=of_decide_eq_false ((jR rs x).trans h)
  show (if firI rs x ≥ 0 then _ else _)=_
  rw [if_neg h1]
theorem sol_kid (rs:List S49) (d:List Int) (ds:List (List Int)) (x:List Int) (h:sol (badB rs) (d :: ds) x=none) (v:Int) (hv:v ∈ d):badB rs (x ++ [v])=true∨sol (badB rs) ds (x ++ [v])=none:=by
  have h1:=List.findSome?_eq_none_iff.mp h v hv
  split at h1
  · rename_i hb;exact .inl hb
  · exact .inr h1
theorem gb {P:Program} {ops:Array Oper} {o:Oper} {a:Act} {Q:Exit→Act→World→Prop} {K:Act→World→Prop} {W w1:World} {v1:Value} (hw:Region.wanted o (yielded ops a.tmps)=true) (s x:Operand) (t:TypeId)
    (ho:o.op=.call { callee:=.builtin .append,args:=#[s,x],argTypes:=#[t,t] }) (vs vx:Value) (hs:a.eval s=vs) (hx:a.eval x=vx) (hr:(Builtin.append_ #[t,t] o.type #[vs,vx]).run P W=.ok v1 w1) (h:K (a.put o.dst v1) w1) :
    if Region.wanted o (yielded ops a.tmps)=true then Oper.wp P o a W K Q else K (a.put o.dst undef) W:=by
  rw [if_pos hw]
  unfold Oper.wp execOp
  simp only [ho,resolve,invoke,builtin,Sem.run_bind,Sem.run_pure,Result.andThen_ok,List.map_toArray,List.map_cons,List.map_nil,hs,hx,hr]
  exact h
theorem ko (A:Option Addr) (x:List Int) (v:Int) (W:World) (hr:ReadsInt W .i64 A x.length x) (hA:A=none→x=[]) (hl:x.length≤100000) :
    ∃ v1 w1,(Builtin.append_ #[26,26] 26 #[.slice A x.length x.length,.slice (some ⟨W.heap.size,0,none⟩) 1 1]).run Try.prog (W.alloc (.cells #[.int .i64 v] 3))=.ok v1 w1∧w1.ownsRow W.heap.size 3 1 v1 (x.length+1) (d7 .i64 (x ++ [v]))∧Below W.heap.size W w1:=by
  obtain ⟨i3,hi3,hii3⟩:=Option.map_eq_some_iff.1 gG
  simp only [Prod.mk.injEq] at hii3
  obtain ⟨hz3,hs3,hb3⟩:=hii3
  have hnews:=World.news_of_block (w:=W.alloc (.cells #[.int .i64 v] 3)) (cs:=#[.int .i64 v]) (t:=3) (fr:=(0,0)) (heap_alloc_new W _)
  have hBa:Below W.heap.size W (W.alloc (.cells #[.int .i64 v] 3)):=a6 (Below.refl _ _) _
  cases A with
  | none =>
    rw [hA rfl]
    obtain ⟨v1,w1,h1,h2,h3,_⟩:=run_append_own (P:=Try.prog) (W.alloc (.cells #[.int .i64 v] 3)) W.heap.size 26 26 3 i3 (.int .i64 0) 1 8 Try.underlying26 hi3 hz3 hs3 hb3 rfl (by omega) (.slice none 0 0) 0 [] (World.ownsRow_nil _ _ _ _) ⟨W.heap.size,0,none⟩ 1 1 [.int .i64 v] rfl hnews (by simp [Value.oneCell']) (by simp [maxLen]) (by omega) (by simp)
    exact ⟨v1,w1,h1,h2,hBa.grown h3 (by simp) (fun k e=>by cases e)⟩
  | some ad =>
    have hrd:ReadsInt (W.alloc (.cells #[.int .i64 v] 3)) .i64 (some ad) x.length x:=hr.below hBa
    obtain ⟨v1,w1,h1,h2,h3⟩:=run_append_arg_grows (P:=Try.prog) (W.alloc (.cells #[.int .i64 v] 3)) 26 26 3 i3 (.int .i64 0) 1 8 Try.underlying26 hi3 hz3 hs3 hb3 rfl (by omega) ad x.length x.length (d7 .i64 x) (by simp [d7]) (fun j u hj=>by
      have hjl:j < x.length:=by have:=(List.getElem?_eq_some_iff.1 hj).1;simpa [d7] using this
      obtain ⟨ad',e,hc⟩:=hrd.2.2 (by omega)
      cases e
      have h:=hc j hjl
      rw [h]
      rw [← hj]
      simp [d7,List.getD,List.getElem?_eq_getElem hjl]) ⟨W.heap.size,0,none⟩ 1 1 [.int .i64 v] rfl hnews (by omega) (by simp only [maxLen];omega) (by omega)
    refine ⟨v1,w1,h1,?_,hBa.grown h3 (by simp) (fun k e=>by cases e)⟩
    have h4:w1.ownsRow W.heap.size 3 1 v1 (x.length+1) (d7 .i64 x ++ [.int .i64 v]):=gw h2 (by simp)
    rw [km]
    exact h4
noncomputable def T8:Bool × List (List Nat × List Nat):=fU .any (gP Try.f41 8)
theorem tab8:fU .any (gP Try.f41 8)=T8:=rfl
theorem prove_bad (rem:List (List Int)) (A0:Option Addr) (c0:Nat) (ds:List (List Int)) (A1:Option Addr) (c1:Nat) (rs:List S49) (Ax:Option Addr) (cx:Nat) (x:List Int) (w:World) (hb:badB rs x=true)
    (hr1:Kd.C k49 w A1 rs.length rs) (hrx:Kd.C (Kd.int .i64) w Ax x.length x) (hcx:x.length≤cx) (hok:∀ r ∈ rs,okR r) :
    Calls Try.prog 41 #[.agg #[.slice A0 ds.length c0,.slice A1 rs.length c1],.slice Ax x.length cx] w fun e w'=>∃ v,e=.returned (.agg #[.int .i64 (proveT rs rem x).f0,v])∧Kd.R k39 39 w' w.heap.size (fun k=>w.heap.size≤k) v (proveT rs rem x).f1∧Below w.heap.size w w':=by
  rw [proveT_bad rs rem x hb]
  have hf1:decide (firI rs x ≥ 0)=true:=(jR rs x).trans hb
  have hf2:decide (0≤firI rs x)=true:=hf1
  have HF:=zzA (fun (W:World) (hbw:Below w.heap.size w W)=>first_ok A1 c1 rs Ax cx x W (zzI hr1 hbw) (zzI hrx hbw) hcx hok)
  clear hr1 hrx hcx hok hb
  obtain ⟨fi,hfi⟩ : ∃ fi,firI rs x=fi:=⟨_,rfl⟩
  have HF2:=zzA (show cV (fun r=>brokenB r x) rs 0=fi from hfi)
  rw [HF2.out] at HF
  rw [hfi] at hf1 hf2 ⊢
  clear hfi HF2
  have HB0:=zzA (a6 (a6 (Below.refl w.heap.size w) (.cells #[.slice A0 ds.length c0,.slice A1 rs.length c1] 25)) (.cells #[.int .i64 0,.slice none 0 0] 39))
  go_enter Try.func41,Try.ntmps41
  go_wp2_with (go_at_call 60;refine (HF.out _ HB0.out).mono ?_;rintro e w5 ⟨rfl,hb5⟩;have hk4:=af (bT (w.alloc (.cells #[.slice A0 ds.length c0,.slice A1 rs.length c1] 25)) (.cells #[.int .i64 0,.slice none 0 0] 39)) hb5;rw [World.size_alloc] at hk4;have HK4:=zzA hk4;have HB5:=zzA (HB0.out.trans (hb5.mono HB0.out.size));have f0:=ab hk4 0;have f1:=ab hk4 1;have z0:=a8 hk4 0;have z1:=a8 hk4 1;simp only [List.getElem?_toArray,List.getElem?_cons_zero,List.getElem?_cons_succ] at z0 z1;clear hb5 hk4)
  have h1:=dL HK4.out 0 (.int .i64 fi)
  have h2:=dL h1 1 (.slice none 0 0)
  simp only [zzB,zzC,zzD] at h2
  obtain ⟨We,hWe⟩ : ∃ We,(w5.setCell ⟨w.heap.size+1,0,none⟩ (.int .i64 fi)).setCell ⟨w.heap.size+1,1,none⟩ (.slice none 0 0)=We:=⟨_,rfl⟩
  have hBe:Below w.heap.size w We:=by
    rw [← hWe]
    exact (HB5.out.setCell (p:=⟨w.heap.size+1,0,none⟩) (by simp) _).setCell (p:=⟨w.heap.size+1,1,none⟩) (by simp) _
  rw [hWe] at h2 ⊢
  have y0:=a8 h2 0
  have y1:=a8 h2 1
  simp only [List.getElem?_toArray,List.getElem?_cons_zero,List.getElem?_cons_succ] at y0 y1
  refine bodyPost_ret (v:=.agg #[.int .i64 fi,.slice none 0 0]) (by simp [results,Try.results41,go_sem,y0,y1]) rfl ?_
  exact ⟨_,rfl,Kd.R_nil _ _ _ _ _,hBe⟩
theorem prove_ok:∀ (rem:List (List Int)) (A0:Option Addr) (c0:Nat) (ds:List (List Int)) (A1:Option Addr) (c1:Nat) (rs:List S49) (Ax:Option Addr) (cx:Nat) (x:List Int) (w:World),ds.drop x.length=rem→x.length≤ds.length→(badB rs x=true∨sol (badB rs) rem x=none) →
    Kd.C (Kd.slice 3 (Kd.int .i64)) w A0 ds.length ds→Kd.C k49 w A1 rs.length rs→Kd.C (Kd.int .i64) w Ax x.length x→x.length≤cx→(Ax=none→x=[])→(∀ r ∈ rs,okR r)→ds.length≤1000→(∀ d ∈ ds,d.length≤1000000) →
    Calls Try.prog 41 #[.agg #[.slice A0 ds.length c0,.slice A1 rs.length c1],.slice Ax x.length cx] w fun e w'=>∃ v,e=.returned (.agg #[.int .i64 (proveT rs rem x).f0,v])∧Kd.R k39 39 w' w.heap.size (fun k=>w.heap.size≤k) v (proveT rs rem x).f1∧Below w.heap.size w w':=by
  intro rem
  induction rem with
  | nil =>
    intro A0 c0 ds A1 c1 rs Ax cx x w hrem hxl hinv hr0 hr1 hrx hcx hAx hok hdl hdd
    refine prove_bad [] A0 c0 ds A1 c1 rs Ax cx x w ?_ hr1 hrx hcx hok
    rcases hinv with h|h
    · exact h
    · cases h
  | cons d rem ih =>
    intro A0 c0 ds A1 c1 rs Ax cx x w hrem hxl hinv hr0 hr1 hrx hcx hAx hok hdl hdd
    cases hb:badB rs x with
    | true=>exact prove_bad _ A0 c0 ds A1 c1 rs Ax cx x w hb hr1 hrx hcx hok
    | false =>
    have hsol:sol (badB rs) (d :: rem) x=none:=by
      rcases hinv with h|h
      · rw [hb] at h;cases h
      · exact h
    have hxl2:x.length < ds.length:=by
      have h:=congrArg List.length hrem
      simp at h
      omega
    have hrem2:ds.drop (x.length+1)=rem:=by
      have h:=congrArg List.tail hrem
      rwa [List.tail_drop] at h
    have hd:ds[x.length]=d:=by
      have h:=congrArg List.head? hrem
      rw [List.head?_drop,List.getElem?_eq_getElem hxl2] at h
      exact Option.some.inj h
    have hdl2:d.length≤1000000:=hdd d (by rw [← hd];exact List.getElem_mem _)
    have hrow:ao ds (x.length:Int)=d:=by simp [ao,List.getD,List.getElem?_eq_getElem hxl2,hd]
    rw [proveT_no rs d rem x hb]
    have hf1:decide (firI rs x ≥ 0)=false:=(jR rs x).trans hb
    have hf2:decide (0≤firI rs x)=false:=hf1
    have HF:=zzA (fun (W:World) (hbw:Below w.heap.size w W)=>first_ok A1 c1 rs Ax cx x W (zzI hr1 hbw) (zzI hrx hbw) hcx hok)
    obtain ⟨fi,hfi⟩ : ∃ fi,firI rs x=fi:=⟨_,rfl⟩
    have HF2:=zzA (show cV (fun r=>brokenB r x) rs 0=fi from hfi)
    rw [HF2.out] at HF
    rw [hfi] at hf1 hf2
    have HR0:=zzA hr0;have HR1:=zzA hr1;have HRX:=zzA hrx;have HCX:=zzA hcx;have HAX:=zzA hAx;have HOK:=zzA hok;have HDL:=zzA hdl;have HDD:=zzA hdd
    have HXL:=zzA hxl2;have HREM:=zzA hrem2;have HROW:=zzA hrow;have HDL2:=zzA hdl2
    have HKID:=zzA (sol_kid rs d rem x hsol)
    have IH:=zzA ih
    have p0:0≤(x.length:Int):=by omega
    have q0:(x.length:Int) < (ds.length:Int):=by omega
    obtain ⟨ad0,B0,cc0,e0,hx0W,hl0,hc0⟩:=et hr0 x.length p0 q0
    subst e0
    rw [Int.toNat_natCast] at hx0W
    rw [hrow] at hx0W hl0 hc0
    have hlt0:=zzE w _ hx0W
    have HX0:=zzA (And.intro hlt0 hx0W)
    have HC0:=zzA hc0
    have n0:(x.length < ds.length)=True:=eq_true hxl2
    replace p0:=eq_true p0
    replace q0:=eq_true q0
    clear hr0 hr1 hrx hcx hAx hok hdl hdd hxl2 hrem hrem2 hd hrow hdl2 hsol hinv hb ih hfi HF2 hx0W hl0 hc0 hlt0 hxl
    have HB0:=zzA (a6 (a6 (Below.refl w.heap.size w) (.cells #[.slice (some ad0) ds.length c0,.slice A1 rs.length c1] 25)) (.cells #[.int .i64 0,.slice none 0 0] 39))
    go_enter Try.func41,Try.ntmps41
    go_wp2_with (go_at_call 60;refine (HF.out _ HB0.out).mono ?_;rintro e w5 ⟨rfl,hb5⟩;have hk4:=af (bT (w.alloc (.cells #[.slice (some ad0) ds.length c0,.slice A1 rs.length c1] 25)) (.cells #[.int .i64 0,.slice none 0 0] 39)) hb5;have hk2:=af (a9 (bT w (.cells #[.slice (some ad0) ds.length c0,.slice A1 rs.length c1] 25)) (.cells #[.int .i64 0,.slice none 0 0] 39)) hb5;rw [World.size_alloc] at hk4;have HK4:=zzA hk4;have HK2:=zzA hk2;have HB5:=zzA (HB0.out.trans (hb5.mono HB0.out.size));have z0:=a8 hk2 0;have z1:=a8 hk2 1;simp only [List.getElem?_toArray,List.getElem?_cons_zero,List.getElem?_cons_succ] at z0 z1;have hx0:=(HB5.out.cell HX0.out.1).trans HX0.out.2;have hne1:(w.heap.size=w5.heap.size)=False:=eq_false (by have:=aJ hk2;omega);have hx6:=ga hx0 (.cells #[.int .i64 (-1),.slice none 0 0] 39);have z6:=ga z0 (.cells #[.int .i64 (-1),.slice none 0 0] 39);clear hb5 hk4 hk2)
    obtain ⟨W6,hW6⟩ : ∃ W6,w5.alloc (.cells #[.int .i64 (-1),.slice none 0 0] 39)=W6:=⟨_,rfl⟩
    obtain ⟨b6,hb6⟩ : ∃ b6,w5.heap.size=b6:=⟨_,rfl⟩
    have hBK6:W6.heap[b6]?=some (.cells #[.int .i64 (-1),.slice none 0 0] 39 (0,0)):=by rw [← hW6,← hb6];exact bT w5 _
    have hB6:Below b6 w5 W6:=by rw [← hW6,← hb6];exact a6 (Below.refl _ _) _
    have hz6:W6.heap.size=b6+1:=by rw [← hW6,← hb6];simp
    have hsb:w.heap.size+1 < b6:=by rw [← hb6];exact aJ HK4.out
    rw [hW6,hb6]
    have HBK6:=zzA hBK6;have HB6:=zzA hB6;have HZ6:=zzA hz6;have HSB:=zzA hsb;have HSZ5:=zzA hb6
    clear hW6 hBK6 hB6 hz6 hsb hb6 hne1 hx6 z6 z0 z1 hx0 hf1 hf2 HF
    go_loopg [8,25] d.length (fun gg _ v25 wr=>∃ (kk:Nat) (Av:Option Addr) (cv:Nat),v25=.int .i64 kk∧Aside0 (kk≤d.length)∧Aside0 (d.length - kk≤gg) ∧
      Aside0 (wr.heap[b6]?=some (.cells #[.int .i64 (-1),.slice Av kk cv] 39 (0,0)))∧Aside0 (Kd.R k39 39 wr (b6+1) (fun k=>b6+1≤k) (.slice Av kk cv) ((d.take kk).map fun v=>proveT rs rem (x ++ [v])))∧Aside0 (Below b6 w5 wr)∧Aside0 (b6+1≤wr.heap.size))
    case atStart=>exact ⟨0,none,0,rfl,⟨Nat.zero_le _⟩,⟨by omega⟩,HBK6,⟨Kd.R_nil _ _ _ _ _⟩,HB6,⟨by have:=HZ6.out;omega⟩⟩
    case round =>
      obtain ⟨kk,Av,cv,rfl,HK,HG,HBK,HR,HB,HSZ⟩:=hrel
      have HBw:=zzA (show Below w.heap.size w wr from HB5.out.trans (HB.out.mono (by have:=HSB.out;omega)))
      by_cases c4:kk < d.length
      · have c4b:decide ((kk:Int) < (d.length:Int))=true:=zzG (by omega)
        have c4n:decide (kk < d.length)=true:=zzG c4
        have p1:0≤(kk:Int):=by omega
        have q1:(kk:Int) < (d.length:Int):=by omega
        obtain ⟨adr,er,hxr⟩:=Kd.at_int (zzI HC0.out HBw.out) kk p1 q1
        subst er
        rw [Int.toNat_natCast] at hxr
        have n1:(kk < d.length)=True:=eq_true c4
        have m1:(x.length≤cx)=True:=eq_true HCX.out
        have m2:((x.length:Int)≤(cx:Int))=True:=eq_true (by have:=HCX.out;omega)
        replace p1:=eq_true p1
        replace q1:=eq_true q1
        obtain ⟨v,hv⟩ : ∃ v,rd d (kk:Int)=v:=⟨_,rfl⟩
        rw [hv] at hxr
        have HV:=zzA hv
        have HC:=zzA c4
        clear c4 hv
        have HSF:=zzA (fun (W':World) (hb:Below b6 w5 W') (h6:W'.heap[b6]?=some (.cells #[.int .i64 (-1),.slice Av kk cv] 39 (0,0)))=>(show W'.cell? ⟨b6,1,none⟩=some (.slice Av kk cv)∧W'.cell? ⟨w.heap.size,0,none⟩=some (.slice (some ad0) ds.length c0)∧W'.cell? ⟨w.heap.size,1,none⟩=some (.slice A1 rs.length c1) from by
          have hk2:W'.heap[w.heap.size]?=some (.cells #[.slice (some ad0) ds.length c0,.slice A1 rs.length c1] 25 (0,0)):=(hb.block w.heap.size (by have:=HSB.out;omega)).trans HK2.out
          exact ⟨by simpa using a8 h6 1,by simpa using a8 hk2 0,by simpa using a8 hk2 1⟩))
        have HBd:=zzA (show Below w.heap.size w wr.drew from a5 HBw.out)
        have HBb:=zzA (show Below b6 w5 wr.drew from ⟨HB.out.os,HB.out.tape,HB.out.output,HB.out.size,HB.out.block⟩)
        obtain ⟨v1,w1,hrun,hown,hb1⟩:=ko Ax x v wr.drew (show ReadsInt wr.drew .i64 Ax x.length x from Kd.reads_of_C (d:=0) (zzI HRX.out HBd.out)) HAX.out (by have:=HXL.out;have:=HDL.out;omega)
        obtain ⟨A9,c9,hv9⟩:=fu hown
        subst hv9
        obtain ⟨kid,hkid⟩ : ∃ kid,proveT rs rem (x ++ [v])=kid:=⟨_,rfl⟩
        have hxl9:(x ++ [v]).length=x.length+1:=by simp
        have hsz:b6+1≤wr.drew.heap.size:=HSZ.out
        have hb51:Below b6 w5 w1:=HBb.out.trans (hb1.mono (by omega))
        have hbk1:w1.heap[b6]?=some (.cells #[.int .i64 (-1),.slice Av kk cv] 39 (0,0)):=(hb1.block b6 (by omega)).trans HBK.out
        have hbw1:Below w.heap.size w w1:=HB5.out.trans (hb51.mono (by have:=HSB.out;omega))
        have hown2:w1.ownsRow wr.drew.heap.size 3 1 (.slice A9 (x ++ [v]).length c9) (x ++ [v]).length (d7 .i64 (x ++ [v])):=by rw [hxl9];exact hown
        obtain ⟨A9',c9',e9,hle9,hrd9⟩:=d3 (enc:=fun x:Int=>Value.int .i64 x) (d:=0) hown2
        injection e9 with e9a _ e9c
        subst e9a e9c
        have hvd:v ∈ d:=by rw [← HV.out,show rd d (kk:Int)=d[kk]'HC.out by simp [rd,List.getD,List.getElem?_eq_getElem HC.out]];exact List.getElem_mem _
        have hcall:=IH.out (some ad0) c0 ds A1 c1 rs A9 c9 (x ++ [v]) w1 (by rw [hxl9];exact HREM.out) (by rw [hxl9];have:=HXL.out;omega) (HKID.out v hvd) (zzI HR0.out hbw1) (zzI HR1.out hbw1) (Kd.C_of_reads hrd9) hle9 (fun e=>by
          obtain ⟨_,e',_⟩:=hrd9.2.2 (by omega)
          rw [e] at e';cases e') HOK.out HDL.out HDD.out
        rw [hkid,hxl9] at hcall
        have HRUN:=zzA hrun
        have HCALL:=zzA hcall
        have HB51:=zzA hb51;have HBK1:=zzA hbk1;have HSZ1:=zzA (show wr.heap.size≤w1.heap.size from hb1.size);have HB1:=zzA (show Below wr.heap.size wr w1 from ⟨hb1.os,hb1.tape,hb1.output,hb1.size,hb1.block⟩)
        have HKD:=zzA hkid
        have hS0:=HSF.out wr.drew HBb.out HBK.out
        clear hrun hown hb1 hb51 hbk1 hbw1 hown2 hle9 hrd9 hvd hcall hkid hxl9 hsz
        go_wp2_with (fail)
        refine ff (n:=17) (S:=fun w'=>w'.cell? ⟨b6,1,none⟩=some (.slice Av kk cv)∧w'.cell? ⟨w.heap.size,0,none⟩=some (.slice (some ad0) ds.length c0)∧w'.cell? ⟨w.heap.size,1,none⟩=some (.slice A1 rs.length c1)) (ds:=[16]) #[false,false,false,false,false,false,false,false,false,false,false,false,false,false,false,false,false] (by kernel_rfl) rfl rfl ⟨hS0.1,hS0.2.1,hS0.2.2⟩ (fun hHeld=>?_)
        refine iy tab8 (fun HT_=>?_)
        refine bh (i:=0) (N:=some 29) (v:=?_) (a':=?_) #[true,false,false,false,false,false,false,false,false,false,false,false,false,false,false,false,false] rfl rfl (aG HT_.out (by kernel_rfl)) (fun _ _ _ h=>h) (Or.inl ⟨by rfl,?_⟩) ?_ ?_
        rotate_left
        · intro w'
          go_simp
          with_reducible rfl
        rotate_left
        · simp only [Act.put,zzB,zzC,zzD,av,aw]
          rfl
        refine bh (i:=3) (N:=some 32) (v:=?_) (a':=?_) #[true,false,false,true,false,false,false,false,false,false,false,false,false,false,false,false,false] rfl rfl (aG HT_.out (by kernel_rfl)) (fun _ _ _ h=>h) (Or.inl ⟨by rfl,?_⟩) ?_ ?_
        rotate_left
        · intro w'
          go_simp
          with_reducible rfl
        rotate_left
        · simp only [Act.put,zzB,zzC,zzD,av,aw]
          rfl
        refine bh (i:=4) (N:=some 33) (v:=?_) (a':=?_) #[true,false,false,true,true,false,false,false,false,false,false,false,false,false,false,false,false] rfl rfl (aG HT_.out (by kernel_rfl)) (fun _ _ _ h=>h) (Or.inl ⟨by rfl,?_⟩) ?_ ?_
        rotate_left
        · intro w'
          go_simp
          with_reducible rfl
        rotate_left
        · simp only [Act.put,zzB,zzC,zzD,av,aw]
          rfl
        refine bh (i:=5) (N:=some 34) (v:=?_) (a':=?_) #[true,false,false,true,true,true,false,false,false,false,false,false,false,false,false,false,false] rfl rfl (aG HT_.out (by kernel_rfl)) (fun _ _ _ h=>h) (Or.inl ⟨by rfl,?_⟩) ?_ ?_
        rotate_left
        · intro w'
          go_simp
          with_reducible rfl
        rotate_left
        · simp only [Act.put,zzB,zzC,zzD,av,aw]
          rfl
        refine bh (i:=6) (N:=some 35) (v:=?_) (a':=?_) #[true,false,false,true,true,true,true,false,false,false,false,false,false,false,false,false,false] rfl rfl (aG HT_.out (by kernel_rfl)) (fun _ _ _ h=>h) (Or.inl ⟨by rfl,?_⟩) ?_ ?_
        rotate_left
        · intro w'
          go_simp
          with_reducible rfl
        rotate_left
        · simp only [Act.put,zzB,zzC,zzD,av,aw]
          rfl
        refine bh (i:=7) (N:=some 36) (v:=?_) (a':=?_) #[true,false,false,true,true,true,true,true,false,false,false,false,false,false,false,false,false] rfl rfl (aG HT_.out (by kernel_rfl)) (fun _ _ _ h=>h) (Or.inl ⟨by rfl,?_⟩) ?_ ?_
        rotate_left
        · intro w'
          go_simp
          with_reducible rfl
        rotate_left
        · simp only [Act.put,zzB,zzC,zzD,av,aw]
          rfl
        refine bh (i:=8) (N:=some 37) (v:=?_) (a':=?_) #[true,false,false,true,true,true,true,true,true,false,false,false,false,false,false,false,false] rfl rfl (aG HT_.out (by kernel_rfl)) (fun _ _ _ h=>h) (Or.inl ⟨by rfl,?_⟩) ?_ ?_
        rotate_left
        · intro w'
          go_simp
          with_reducible rfl
        rotate_left
        · simp only [Act.put,zzB,zzC,zzD,av,aw]
          rfl
        refine bh (i:=9) (N:=some 38) (v:=?_) (a':=?_) #[true,false,false,true,true,true,true,true,true,true,false,false,false,false,false,false,false] rfl rfl (aG HT_.out (by kernel_rfl)) (fun _ _ _ h=>h) (Or.inl ⟨by rfl,?_⟩) ?_ ?_
        rotate_left
        · intro w'
          go_simp
          with_reducible rfl
        rotate_left
        · simp only [Act.put,zzB,zzC,zzD,av,aw]
          rfl
        refine take_ (i:=1) (N:=some 30) (v:=?_) (a':=?_) #[true,true,false,true,true,true,true,true,true,true,false,false,false,false,false,false,false] rfl rfl (e7 HT_.out (by kernel_rfl)) (fun _ _ _ h=>h) (Or.inl ⟨by rfl,?_⟩) hHeld ?_ ?_
        rotate_left
        · rintro w' ⟨s0,s1,s2⟩
          go_simp
          with_reducible rfl
        rotate_left
        · simp only [Act.put,zzB,zzC,zzD,av,aw]
          rfl
        refine take_ (i:=2) (N:=some 31) (v:=?_) (a':=?_) #[true,true,true,true,true,true,true,true,true,true,false,false,false,false,false,false,false] rfl rfl (e7 HT_.out (by kernel_rfl)) (fun _ _ _ h=>h) (Or.inl ⟨by rfl,?_⟩) hHeld ?_ ?_
        rotate_left
        · rintro w' ⟨s0,s1,s2⟩
          go_simp
          with_reducible rfl
        rotate_left
        · simp only [Act.put,zzB,zzC,zzD,av,aw]
          rfl
        refine ep (i:=10) (N:=some 39) #[true,true,true,true,true,true,true,true,true,true,true,false,false,false,false,false,false] rfl rfl (bE HT_.out (by kernel_rfl)) (by decide) (fun K hK=>?_)
        refine ew (w1:=wr.drew.alloc (.cells #[.int .i64 v] 3)) (v:=.slice (some ⟨wr.drew.heap.size,0,none⟩) 1 1) rfl (by first|(go_simp;done)|(go_simp;rfl)) ?_
        refine hK.out _ _ (HSF.out _ (HBb.out.alloc (by have:=HSZ.out;show b6≤wr.heap.size;omega) _) (a9 (w:=wr.drew) HBK.out _)) (fun hHeld=>?_)
        clear hK K
        refine bx (a':=?_) ?_ ?_
        rotate_left
        · show Act.put _ (some 39) _=_
          simp only [Act.put,zzB,zzC,zzD,av,aw]
          rfl
        refine ep (i:=11) (N:=some 40) #[true,true,true,true,true,true,true,true,true,true,true,true,false,false,false,false,false] rfl rfl (bE HT_.out (by kernel_rfl)) (by decide) (fun K hK=>?_)
        refine gb rfl (.tmp 37) (.tmp 39) 26 rfl (.slice Ax x.length x.length) (.slice (some ⟨wr.drew.heap.size,0,none⟩) 1 1) rfl rfl HRUN.out ?_
        refine hK.out _ _ (HSF.out _ HB51.out HBK1.out) (fun hHeld=>?_)
        clear hK K
        refine bx (a':=?_) ?_ ?_
        rotate_left
        · show Act.put _ (some 40) _=_
          simp only [Act.put,zzB,zzC,zzD,av,aw]
          rfl
        refine ep (i:=12) (N:=some 41) #[true,true,true,true,true,true,true,true,true,true,true,true,true,false,false,false,false] rfl rfl (bE HT_.out (by kernel_rfl)) (by decide) (fun K hK=>?_)
        refine jH Try.func41 (by kernel_rfl) rfl #[.agg #[.slice (some ad0) ds.length c0,.slice A1 rs.length c1],.slice A9 (x.length+1) c9] (by rfl) rfl rfl (by (try simp only [List.map_toArray,List.map_cons,List.map_nil]);first|done|rfl) ?_
        refine HCALL.out.mono ?_
        rintro e w2 ⟨v2,rfl,hr2,hb2⟩
        refine ⟨_,rfl,?_⟩
        obtain ⟨A2v,c2v,hv2⟩:=Kd.R_slice hr2
        subst hv2
        have hb52:Below b6 w5 w2:=HB51.out.trans (hb2.mono (by have h1:=HSZ.out;have h2:=HSZ1.out;omega))
        have hbk2:w2.heap[b6]?=some (.cells #[.int .i64 (-1),.slice Av kk cv] 39 (0,0)):=(hb2.block b6 (by have h1:=HSZ.out;have h2:=HSZ1.out;omega)).trans HBK1.out
        have hbr2:Below wr.heap.size wr w2:=HB1.out.trans (hb2.mono HSZ1.out)
        have HR2:=zzA hr2;have HB52:=zzA hb52;have HBK2:=zzA hbk2;have HBR2:=zzA hbr2;have HSZ2:=zzA hb2.size
        clear hr2 hb2 hb52 hbk2 hbr2
        refine hK.out _ _ (HSF.out _ HB52.out HBK2.out) (fun hHeld=>?_)
        clear hK K
        refine bx (a':=?_) ?_ ?_
        rotate_left
        · show Act.put _ (some 41) _=_
          simp only [Act.put,zzB,zzC,zzD,av,aw]
          rfl
        refine ep (i:=13) (N:=some 42) #[true,true,true,true,true,true,true,true,true,true,true,true,true,true,false,false,false] rfl rfl (bE HT_.out (by kernel_rfl)) (by decide) (fun K hK=>?_)
        refine ew (w1:=w2.alloc (.cells #[.int .i64 kid.f0,.slice A2v kid.f1.length c2v] 39)) (v:=.slice (some ⟨w2.heap.size,0,none⟩) 1 1) rfl (by first|(go_simp;done)|(go_simp;rfl)) ?_
        refine hK.out _ _ (HSF.out _ (HB52.out.alloc (by have h1:=HSZ.out;have h2:=HSZ1.out;have h3:=HSZ2.out;omega) _) (a9 HBK2.out _)) (fun hHeld=>?_)
        clear hK K
        refine bx (a':=?_) ?_ ?_
        rotate_left
        · show Act.put _ (some 42) _=_
          simp only [Act.put,zzB,zzC,zzD,av,aw]
          rfl
        refine ep (i:=14) (N:=some 43) #[true,true,true,true,true,true,true,true,true,true,true,true,true,true,true,false,false] rfl rfl (bE HT_.out (by kernel_rfl)) (by decide) (fun K hK=>?_)
        obtain ⟨kids,hkids⟩ : ∃ kids,(d.take kk).map (fun v=>proveT rs rem (x ++ [v]))=kids:=⟨_,rfl⟩
        have hkl:kids.length=kk:=by rw [← hkids,List.length_map,List.length_take];have:=HC.out;omega
        have hrk:=HR.out
        rw [hkids] at hrk
        refine Kd.R_append_step k39 (w0:=w2) (W:=w2) (b6+1) rfl (.tmp 30) (.tmp 42) 37 39 (.agg #[.int .i64 0,.slice none 0 0]) 32 rfl Try.underlying37 info39 rfl (by decide) (by omega) (.slice Av kk cv) kids kid [.int .i64 kid.f0,.slice A2v kid.f1.length c2v] (fun k=>b6+1≤k) (fun k=>w1.heap.size≤k) rfl rfl ?aP ?aQ ?aF ?aO (Below.refl _ _) ?aS ?aL ?_
        case aP=>exact k39_mkM w2 (b6+1) _ kid (Kd.R_lower HR2.out (by have h1:=HSZ.out;have h2:=HSZ1.out;omega))
        case aQ =>
          intro k hk
          refine ⟨by have h1:=HSZ.out;have h2:=HSZ1.out;omega,fun e=>?_⟩
          have h3:=Kd.R_lt hrk k e.symm
          have h2:=HSZ1.out
          omega
        case aF =>
          intro k hk
          have h1:=HSZ.out;have h2:=HSZ1.out;have h3:=HSZ2.out
          omega
        case aO=>exact Kd.R_below hrk HBR2.out
        case aS=>have h1:=HSZ.out;have h2:=HSZ1.out;have h3:=HSZ2.out;omega
        case aL=>rw [hkl];have h1:=HC.out;have h2:=HDL2.out;omega
        intro v3 w3 hr3 hb3 hg3 hat3
        obtain ⟨A3v,c3v,hv3⟩:=Kd.R_slice hr3
        subst hv3
        have hl3:(kids ++ [kid]).length=kk+1:=by rw [List.length_append,hkl];rfl
        rw [hl3] at hr3
        have hb53:Below b6 w5 w3:=HB52.out.trans (hb3.mono (by omega))
        have hbk3:w3.heap[b6]?=some (.cells #[.int .i64 (-1),.slice Av kk cv] 39 (0,0)):=(hb3.block b6 (by omega)).trans HBK2.out
        have hkk:kids ++ [kid]=(d.take (kk+1)).map (fun v=>proveT rs rem (x ++ [v])):=by
          rw [iv d kk HC.out,List.map_append,hkids,HV.out,← HKD.out]
          rfl
        rw [hkk] at hr3
        have HR3:=zzA hr3;have HB53:=zzA hb53;have HBK3:=zzA hbk3;have HSZ3:=zzA hb3.size
        rw [hl3]
        clear hr3 hb3 hg3 hat3 hb53 hbk3 hkk hl3 hkl hrk hkids
        refine hK.out _ _ (HSF.out _ HB53.out HBK3.out) (fun hHeld=>?_)
        clear hK K
        refine bx (a':=?_) ?_ ?_
        rotate_left
        · show Act.put _ (some 43) _=_
          simp only [Act.put,zzB,zzC,zzD,av,aw]
          rfl
        refine bh (i:=15) (N:=some 44) (v:=?_) (a':=?_) #[true,true,true,true,true,true,true,true,true,true,true,true,true,true,true,true,false] rfl rfl (aG HT_.out (by kernel_rfl)) (fun _ _ _ h=>h) (Or.inl ⟨by rfl,?_⟩) ?_ ?_
        rotate_left
        · intro w'
          go_simp
          with_reducible rfl
        rotate_left
        · simp only [Act.put,zzB,zzC,zzD,av,aw]
          rfl
        refine last_ (i:=16) (N:=none) #[true,true,true,true,true,true,true,true,true,true,true,true,true,true,true,true,true] rfl rfl (bE HT_.out (by kernel_rfl)) (by decide) (fun K hK=>?_)
        have hs9:w3.cell? ⟨b6,1,none⟩=some (.slice Av kk cv):=by simpa using a8 HBK3.out 1
        have hf9:=ab HBK3.out 1
        refine skip_ (w1:=w3.setCell ⟨b6,1,none⟩ (.slice A3v (kk+1) c3v)) (by rfl) rfl (by first|(go_simp;done)|(go_simp;rfl)) ?_
        refine hK.out _ _ ?_
        clear hK K
        refine gO (dm HT_.out (by kernel_rfl)) ?_
        clear hs9 hf9 hHeld HT_ hS0
        go_wp2_with (fail)
        go_roundg (d.length - (kk+1))
        case measure=>have:=HG.out;have:=HC.out;omega
        case rel =>
          have hbk4:=dL HBK3.out 1 (.slice A3v (kk+1) c3v)
          exact ⟨kk+1,A3v,c3v,by rw [jJ _ (by omega) (by have:=HDL2.out;have:=HC.out;omega)];rfl,⟨HC.out⟩,⟨by omega⟩,⟨hbk4⟩,⟨Kd.R_far (p:=⟨b6,1,none⟩) HR3.out (fun k hk=>by simp only [];omega) _⟩,⟨HB53.out.setCell (p:=⟨b6,1,none⟩) (Nat.le_refl _) _⟩,⟨by have h1:=HSZ.out;have h2:=HSZ1.out;have h3:=HSZ2.out;have h4:=HSZ3.out;simp;omega⟩⟩
      · have c4b:decide ((kk:Int) < (d.length:Int))=false:=zzH (by omega)
        have c4n:decide (kk < d.length)=false:=zzH c4
        have hkk:kk=d.length:=by have:=HK.out;omega
        subst hkk
        have hk4:wr.heap[w.heap.size+1]?=some (.cells #[.int .i64 0,.slice none 0 0] 39 (0,0)):=(HB.out.block _ (by have:=HSB.out;omega)).trans HK4.out
        have y0:=a8 HBK.out 0
        have y1:=a8 HBK.out 1
        have z0:=a8 hk4 0
        have z1:=a8 hk4 1
        have f0:=ab hk4 0
        have f1:=ab hk4 1
        simp only [List.getElem?_toArray,List.getElem?_cons_zero,List.getElem?_cons_succ] at y0 y1 z0 z1
        have HK5:=zzA hk4
        clear c4 hk4
        go_wp2_with (fail)
        have h1:=dL HK5.out 0 (.int .i64 (-1))
        have h2:=dL h1 1 (.slice Av d.length cv)
        simp only [zzB,zzC,zzD] at h2
        obtain ⟨We,hWe⟩ : ∃ We,(wr.setCell ⟨w.heap.size+1,0,none⟩ (.int .i64 (-1))).setCell ⟨w.heap.size+1,1,none⟩ (.slice Av d.length cv)=We:=⟨_,rfl⟩
        have hBe:Below w.heap.size w We:=by
          rw [← hWe]
          exact (HBw.out.setCell (p:=⟨w.heap.size+1,0,none⟩) (by simp) _).setCell (p:=⟨w.heap.size+1,1,none⟩) (by simp) _
        have hRe:Kd.R k39 39 We (b6+1) (fun k=>b6+1≤k) (.slice Av d.length cv) (d.map fun v=>proveT rs rem (x ++ [v])):=by
          have h:=HR.out
          rw [List.take_length] at h
          rw [← hWe]
          exact Kd.R_far (p:=⟨w.heap.size+1,1,none⟩) (Kd.R_far (p:=⟨w.heap.size+1,0,none⟩) h (fun k hk=>by have:=HSB.out;simp only [];omega) _) (fun k hk=>by have:=HSB.out;simp only [];omega) _
        rw [hWe] at h2 ⊢
        have e0:=a8 h2 0
        have e1:=a8 h2 1
        simp only [List.getElem?_toArray,List.getElem?_cons_zero,List.getElem?_cons_succ] at e0 e1
        refine bodyPost_ret (v:=.agg #[.int .i64 (-1),.slice Av d.length cv]) (by simp [results,Try.results41,go_sem,e0,e1]) rfl ?_
        exact ⟨_,rfl,Kd.R_mono (Kd.R_lower hRe (by have:=HSB.out;omega)) (fun k hk=>by have:=HSB.out;omega),hBe⟩
end DF
end Go.Proofs.Ytcbpkdemcdikaaa.X
namespace Go.Proofs.Ytcbpkdemcdikaaa.X
open Go.RowKit Go.Proofs.YtcbpkdemcdikaaaW.PrintWords Go.Proofs.YtcbpkdemcdikaaaW.PrintLast Go.Proofs.YtcbpkdemcdikaaaW.PrintMore
attribute [local go_sem] be bc bn bo aM aK bf bd   
set_option linter.unusedVariables false
set_option linter.unusedSimpArgs false
def search_prove.f (ai:List (List Int)) (ah:List (S49)) (l1:List Int):Option (Int × (List (S39))) :=
 if ah.all SF.okB && decide (ai.length≤1000) && ai.all (fun d=>decide (d.length≤1000000)) && decide (l1=[]) && (DF.badB ah [] || (DF.sol (DF.badB ah) ai []).isNone) then some ((DF.proveT ah ai []).f0,(DF.proveT ah ai []).f1) else none
theorem search_prove.calls (ax:Option Addr) (ap:Nat) (ai:List (List Int)) (au:Option Addr) (am:Nat) (ah:List (S49)) (A1:Option Addr) (c1:Nat) (l1:List Int) (r1:Int) (r2:List (S39)) (w:World) (bV:Kd.C (Kd.slice 3 (Kd.int .i64)) w ax ai.length ai) (bX:ai.length≤ap) (bP:Kd.C k49 w au ah.length ah) (bU:ah.length≤am) (hr1:Kd.C (Kd.int .i64) w A1 l1.length l1) (hc1:l1.length≤c1) (h:search_prove.f ai ah l1=some (r1,r2)) :
  Calls Try.prog 41 #[.agg #[.slice ax ai.length ap,.slice au ah.length am],.slice A1 l1.length c1] w fun e w'=>∃ v1_:Value,e=.returned (.agg #[.int .i64 r1,v1_])∧Kd.R k39 39 w' w.heap.size (fun _=>True) v1_ r2∧Below w.heap.size w w':=by
 unfold search_prove.f at h
 split at h
 ·rename_i hk
  simp only [Bool.and_eq_true,decide_eq_true_eq,List.all_eq_true,Bool.or_eq_true,Option.isNone_iff_eq_none] at hk
  obtain ⟨⟨⟨⟨h1,h2⟩,h3⟩,h4⟩,h5⟩:=hk
  subst h4
  cases h
  refine (DF.prove_ok ai ax ap ai au am ah A1 c1 [] w rfl (Nat.zero_le _) h5 bV bP hr1 hc1 (fun _=>rfl) (fun r hr=>SF.okB_R (h1 r hr)) h2 h3).mono ?_
  rintro e w' ⟨v,he,hr,hb⟩
  exact ⟨v,he,Kd.R_mono hr (fun _ _=>trivial),hb⟩
 ·cases h
def search_Refute.f (k:Nat) (ai:List (List Int)) (ah:List (S49)):Option (Int × (List (S39)) × Bool × Int):=(search_Solve.f k ai ah).bind fun iN=>(if iN.2.2=0 then (if iN.2.1=true then (some (0,([]:List (S39)),false,iN.2.2)) else ((search_prove.f ai ah ([]:List Int)).bind fun iO=>(some (iO.1,iO.2,true,0)))) else (some (0,([]:List (S39)),false,iN.2.2)))
set_option maxHeartbeats 8000000 in
set_option maxRecDepth 100000 in
theorem search_Refute.calls (k:Nat) (ax:Option Addr) (ap:Nat) (ai:List (List Int)) (au:Option Addr) (am:Nat) (ah:List (S49)) (r1:Int) (r2:List (S39)) (r3:Bool) (r4:Int) (w:World) (bV:Kd.C (Kd.slice 3 (Kd.int .i64)) w ax ai.length ai) (bX:ai.length≤ap) (bP:Kd.C k49 w au ah.length ah) (bU:ah.length≤am) (h:search_Refute.f k ai ah=some (r1,r2,r3,r4)) :
  Calls Try.prog 20 #[.agg #[.slice ax ai.length ap,.slice au ah.length am]] w fun e w'=>∃ v1_:Value,e=.returned (.tuple #[.agg #[.int .i64 r1,v1_],.bool r3,.int .i64 r4])∧Kd.R k39 39 w' w.heap.size (fun _=>True) v1_ r2∧Below w.heap.size w w':=by
 have hu25:=Try.underlying25
 have hu39:=Try.underlying39
 have bz:=zzA bV
 have bH:=zzA bX
 clear bV bX
 have bq:=zzA bP
 have bF:=zzA bU
 clear bP bU
 have HB:=zzA (Below.refl w.heap.size w)
 have H:((search_Solve.f k ai ah).bind fun iN=>(if iN.2.2=0 then (if iN.2.1=true then (some (0,([]:List (S39)),false,iN.2.2)) else ((search_prove.f ai ah ([]:List Int)).bind fun iO=>(some (iO.1,iO.2,true,0)))) else (some (0,([]:List (S39)),false,iN.2.2))))=some (r1,r2,r3,r4):=h
 clear h
 replace H:=Option.bind_eq_some_iff.mp H
 obtain ⟨⟨t143,t146,t147⟩,A20,H⟩:=H
 replace H:(if t147=0 then (if t146=true then (some (0,([]:List (S39)),false,t147)) else ((search_prove.f ai ah ([]:List Int)).bind fun iO=>(some (iO.1,iO.2,true,0)))) else (some (0,([]:List (S39)),false,t147)))=some (r1,r2,r3,r4):=H
 have A2:=zzA A20
 clear A20
 by_cases c3:t147=0
 ·rw [if_pos c3] at H
  have kA:(t147 == 0)=true:=beq_iff_eq.mpr c3
  have c3b1:(t147 != 0)=false:=bne_eq_false_iff_eq.mpr c3
  clear c3
  by_cases c4:t146=true
  ·subst c4
   have H1:(some (0,([]:List (S39)),false,t147))=some (r1,r2,r3,r4):=by rw [if_pos rfl] at H;exact H
   clear H
   have H:=H1
   clear H1
   simp only [Option.some.injEq,Prod.mk.injEq] at H
   obtain ⟨rfl,rfl,rfl,rfl⟩:=H
   go_enter Try.func20,Try.ntmps20
   go_wp2_with (first|((with_reducible refine ay (N:=1) rfl ?_);refine aq ?hg (N:=1) ?hd (cs:=#[.slice ax ai.length ap,.slice au ah.length am]) (t:=25) ?hr ?_;(case hd=>rfl);(case hg=>rfl);(case hr=>first|(go_simp;done)|(go_simp;rfl));intro d4 hg w5 hbox hb;have n0_:=zzA (ag (by repeat (first|(with_reducible first|exact HB.out|apply a6|apply a4|apply a5)|exact HB.out)) hb);have n1_:=zzA (hbox);have n2_:=zzA ((by rw [hg];exact (ae (by repeat (first|(with_reducible first|exact HB.out|apply a6|apply a4|apply a5)|exact HB.out))):w.heap.size≤d4));have n3_:=zzA ((by rw [hg];exact (ae (by repeat (first|(with_reducible first|exact HB.out|apply a6|apply a4|apply a5)|exact HB.out))):w.heap.size≤d4));clear HB;have HB:=n0_;have cP:=n1_;have GW141:=n2_;have fc:=n3_;clear n0_ n1_ n2_ n3_;clear hb hbox hg)|((with_reducible refine ay (N:=2) rfl ?_);refine aq ?hg (N:=2) ?hd (cs:=#[.int .i64 0,.slice none 0 0]) (t:=39) ?hr ?_;(case hd=>rfl);(case hg=>rfl);(case hr=>first|(go_simp;done)|(go_simp;rfl));intro dn hg w6 hbox hb;have n0_:=zzA (af (g:=d4) (o:=.cells #[.slice ax ai.length ap,.slice au ah.length am] 25 (0,0)) (by (with_reducible repeat (first|refine aa ?_ _|refine ac ?_|refine a9 ?_ _));exact cP.out) hb);have n1_:=zzA (ag (by repeat (first|(with_reducible first|exact HB.out|apply a6|apply a4|apply a5|refine a7 ?_ fc.out)|exact HB.out)) hb);have n2_:=zzA (hbox);have n3_:=zzA ((by rw [hg];exact (ae (by repeat (first|(with_reducible first|exact HB.out|apply a6|apply a4|apply a5|refine a7 ?_ fc.out)|exact HB.out))):w.heap.size≤dn));have n4_:=zzA ((by rw [hg];exact (ae (by repeat (first|(with_reducible first|exact HB.out|apply a6|apply a4|apply a5|refine a7 ?_ fc.out)|exact HB.out))):w.heap.size≤dn));have n5_:=zzA ((by rw [hg];exact Nat.ne_of_lt (aJ (g:=d4) (o:=.cells #[.slice ax ai.length ap,.slice au ah.length am] 25 (0,0)) (by (with_reducible repeat (first|refine aa ?_ _|refine ac ?_|refine a9 ?_ _));exact cP.out)):d4 ≠ dn));have n6_:=zzA ((by rw [hg];exact Nat.ne_of_gt (aJ (g:=d4) (o:=.cells #[.slice ax ai.length ap,.slice au ah.length am] 25 (0,0)) (by (with_reducible repeat (first|refine aa ?_ _|refine ac ?_|refine a9 ?_ _));exact cP.out)):dn ≠ d4));clear cP;clear HB;have cP:=n0_;have HB:=n1_;have dw:=n2_;have GW142:=n3_;have jq:=n4_;have NB141_142:=n5_;have NB142_141:=n6_;clear n0_ n1_ n2_ n3_ n4_ n5_ n6_;clear hb hbox hg;have hnb7:=NB141_142.out;have hnc7:=NB142_141.out;have eD:w6.cell? ⟨d4,0,none⟩=some (.slice ax ai.length ap):=(a8 cP.out 0).trans rfl;have eE:w6.cell? ⟨d4,1,none⟩=some (.slice au ah.length am):=(a8 cP.out 1).trans rfl;have eF:=ab cP.out 0;have eG:=ab cP.out 1)|((with_reducible refine ar (f:=15) rfl ?_);refine bi (some 9) rfl rfl Try.func15 (by kernel_rfl) rfl #[.agg #[.slice ax ai.length ap,.slice au ah.length am]] rfl (by (try simp only [List.map_toArray,List.map_cons,List.map_nil]);first|done|rfl|(simp only [List.length_drop,List.length_take];rfl)) ?_;(with_reducible refine (search_Solve.calls k _ _ ai _ _ ah t143 true t147 _ ?side1 ?side2 ?side3 ?side4 A2.out).mono ?_);(case side1=>repeat (first|exact (zzI bz.out HB.out)|(with_reducible refine Kd.C_alloc ?_ _)|(with_reducible refine Kd.C_drewN ?_ _)|(with_reducible refine Kd.C_drew ?_)));(case side2=>exact bH.out);(case side3=>repeat (first|exact (zzI bq.out HB.out)|(with_reducible refine Kd.C_alloc ?_ _)|(with_reducible refine Kd.C_drewN ?_ _)|(with_reducible refine Kd.C_drew ?_)));(case side4=>exact bF.out);rintro e w9 ⟨v144,rfl,ho0,hb⟩;refine ⟨_,rfl,?_⟩;have n0_:=zzA (Kd.R_lower ho0 (ae (by repeat (first|(with_reducible first|exact HB.out|apply a6|apply a4|apply a5|refine a7 ?_ fc.out|refine a7 ?_ jq.out)|exact HB.out))));have n1_:=zzA (af (g:=d4) (o:=.cells #[.slice ax ai.length ap,.slice au ah.length am] 25 (0,0)) (by (with_reducible repeat (first|refine aa ?_ _|refine ac ?_|refine a9 ?_ _));exact cP.out) hb);have n2_:=zzA (af (g:=dn) (o:=.cells #[.int .i64 0,.slice none 0 0] 39 (0,0)) (by (with_reducible repeat (first|refine aa ?_ _|refine ac ?_|refine a9 ?_ _));exact dw.out) hb);have n3_:=zzA (ag (by repeat (first|(with_reducible first|exact HB.out|apply a6|apply a4|apply a5|refine a7 ?_ fc.out|refine a7 ?_ jq.out)|exact HB.out)) hb);clear cP;clear dw;clear HB;have HO145:=n0_;have cP:=n1_;have dw:=n2_;have HB:=n3_;clear n0_ n1_ n2_ n3_;(try clear hb);(try clear hb2);(try clear hk);(try clear hi);(try clear ho0);have ef:w9.cell? ⟨dn,0,none⟩=some (.int .i64 0):=(a8 dw.out 0).trans rfl;have eh:w9.cell? ⟨dn,1,none⟩=some (.slice none 0 0):=(a8 dw.out 1).trans rfl;have ei:=ab dw.out 0;have ej:=ab dw.out 1))
   refine bodyPost_ret (dK rfl _ _ dn 39 #[.int .i64 0,.slice none 0 0] (0,0) _ rfl (by (with_reducible repeat (first|refine aa ?_ _|refine ac ?_|refine a9 ?_ _));refine aN (cs:=#[.int .i64 0,.slice none 0 0]) ?_ 1 _ rfl;(with_reducible repeat (first|refine aa ?_ _|refine ac ?_|refine a9 ?_ _));refine aN (cs:=#[.int .i64 0,.slice none 0 0]) ?_ 0 _ rfl;(with_reducible repeat (first|refine aa ?_ _|refine ac ?_|refine a9 ?_ _));exact dw.out) Try.underlying39 rfl (by kernel_rfl)) rfl ?_
   exact ⟨_,by first|rfl|(simp [ak,al] <;> rfl)|(simp [*,ak,al] <;> rfl),by first|exact Kd.R_nil _ _ _ _ _|exact Kd.N_nil _ _ _ _ _|exact Kd.V_nil _ _ _ _ _|exact Kd.Q_nil _ _ _ _ _|exact Kd.S_nil _ _ _ _ _,by repeat (first|(with_reducible first|exact HB.out|apply a6|apply a4|apply a5|refine a7 ?_ fc.out|refine a7 ?_ jq.out)|exact HB.out)⟩
  ·replace c4:=Bool.eq_false_iff.mpr c4
   subst c4
   have H1:((search_prove.f ai ah ([]:List Int)).bind fun iO=>(some (iO.1,iO.2,true,0)))=some (r1,r2,r3,r4):=by rw [if_neg (show ¬ (false=true) by decide)] at H;exact H
   clear H
   have H:=H1
   clear H1
   replace H:=Option.bind_eq_some_iff.mp H
   obtain ⟨⟨t148,t149⟩,A110,H⟩:=H
   replace H:(some (t148,t149,true,0))=some (r1,r2,r3,r4):=H
   have A11:=zzA A110
   clear A110
   simp only [Option.some.injEq,Prod.mk.injEq] at H
   obtain ⟨rfl,rfl,rfl,rfl⟩:=H
   go_enter Try.func20,Try.ntmps20
   go_wp2_with (first|((with_reducible refine ay (N:=1) rfl ?_);refine aq ?hg (N:=1) ?hd (cs:=#[.slice ax ai.length ap,.slice au ah.length am]) (t:=25) ?hr ?_;(case hd=>rfl);(case hg=>rfl);(case hr=>first|(go_simp;done)|(go_simp;rfl));intro d4 hg w12 hbox hb;have n0_:=zzA (ag (by repeat (first|(with_reducible first|exact HB.out|apply a6|apply a4|apply a5)|exact HB.out)) hb);have n1_:=zzA (hbox);have n2_:=zzA ((by rw [hg];exact (ae (by repeat (first|(with_reducible first|exact HB.out|apply a6|apply a4|apply a5)|exact HB.out))):w.heap.size≤d4));have n3_:=zzA ((by rw [hg];exact (ae (by repeat (first|(with_reducible first|exact HB.out|apply a6|apply a4|apply a5)|exact HB.out))):w.heap.size≤d4));clear HB;have HB:=n0_;have cP:=n1_;have GW141:=n2_;have fc:=n3_;clear n0_ n1_ n2_ n3_;clear hb hbox hg)|((with_reducible refine ay (N:=2) rfl ?_);refine aq ?hg (N:=2) ?hd (cs:=#[.int .i64 0,.slice none 0 0]) (t:=39) ?hr ?_;(case hd=>rfl);(case hg=>rfl);(case hr=>first|(go_simp;done)|(go_simp;rfl));intro dn hg w13 hbox hb;have n0_:=zzA (af (g:=d4) (o:=.cells #[.slice ax ai.length ap,.slice au ah.length am] 25 (0,0)) (by (with_reducible repeat (first|refine aa ?_ _|refine ac ?_|refine a9 ?_ _));exact cP.out) hb);have n1_:=zzA (ag (by repeat (first|(with_reducible first|exact HB.out|apply a6|apply a4|apply a5|refine a7 ?_ fc.out)|exact HB.out)) hb);have n2_:=zzA (hbox);have n3_:=zzA ((by rw [hg];exact (ae (by repeat (first|(with_reducible first|exact HB.out|apply a6|apply a4|apply a5|refine a7 ?_ fc.out)|exact HB.out))):w.heap.size≤dn));have n4_:=zzA ((by rw [hg];exact (ae (by repeat (first|(with_reducible first|exact HB.out|apply a6|apply a4|apply a5|refine a7 ?_ fc.out)|exact HB.out))):w.heap.size≤dn));have n5_:=zzA ((by rw [hg];exact Nat.ne_of_lt (aJ (g:=d4) (o:=.cells #[.slice ax ai.length ap,.slice au ah.length am] 25 (0,0)) (by (with_reducible repeat (first|refine aa ?_ _|refine ac ?_|refine a9 ?_ _));exact cP.out)):d4 ≠ dn));have n6_:=zzA ((by rw [hg];exact Nat.ne_of_gt (aJ (g:=d4) (o:=.cells #[.slice ax ai.length ap,.slice au ah.length am] 25 (0,0)) (by (with_reducible repeat (first|refine aa ?_ _|refine ac ?_|refine a9 ?_ _));exact cP.out)):dn ≠ d4));clear cP;clear HB;have cP:=n0_;have HB:=n1_;have dw:=n2_;have GW142:=n3_;have jq:=n4_;have NB141_142:=n5_;have NB142_141:=n6_;clear n0_ n1_ n2_ n3_ n4_ n5_ n6_;clear hb hbox hg;have hnb14:=NB141_142.out;have hnc14:=NB142_141.out;have eP:w13.cell? ⟨d4,0,none⟩=some (.slice ax ai.length ap):=(a8 cP.out 0).trans rfl;have eQ:w13.cell? ⟨d4,1,none⟩=some (.slice au ah.length am):=(a8 cP.out 1).trans rfl;have eR:=ab cP.out 0;have eS:=ab cP.out 1)|((with_reducible refine ar (f:=15) rfl ?_);refine bi (some 9) rfl rfl Try.func15 (by kernel_rfl) rfl #[.agg #[.slice ax ai.length ap,.slice au ah.length am]] rfl (by (try simp only [List.map_toArray,List.map_cons,List.map_nil]);first|done|rfl|(simp only [List.length_drop,List.length_take];rfl)) ?_;(with_reducible refine (search_Solve.calls k _ _ ai _ _ ah t143 false t147 _ ?side1 ?side2 ?side3 ?side4 A2.out).mono ?_);(case side1=>repeat (first|exact (zzI bz.out HB.out)|(with_reducible refine Kd.C_alloc ?_ _)|(with_reducible refine Kd.C_drewN ?_ _)|(with_reducible refine Kd.C_drew ?_)));(case side2=>exact bH.out);(case side3=>repeat (first|exact (zzI bq.out HB.out)|(with_reducible refine Kd.C_alloc ?_ _)|(with_reducible refine Kd.C_drewN ?_ _)|(with_reducible refine Kd.C_drew ?_)));(case side4=>exact bF.out);rintro e w16 ⟨v144,rfl,ho0,hb⟩;refine ⟨_,rfl,?_⟩;have n0_:=zzA (Kd.R_lower ho0 (ae (by repeat (first|(with_reducible first|exact HB.out|apply a6|apply a4|apply a5|refine a7 ?_ fc.out|refine a7 ?_ jq.out)|exact HB.out))));have n1_:=zzA (af (g:=d4) (o:=.cells #[.slice ax ai.length ap,.slice au ah.length am] 25 (0,0)) (by (with_reducible repeat (first|refine aa ?_ _|refine ac ?_|refine a9 ?_ _));exact cP.out) hb);have n2_:=zzA (af (g:=dn) (o:=.cells #[.int .i64 0,.slice none 0 0] 39 (0,0)) (by (with_reducible repeat (first|refine aa ?_ _|refine ac ?_|refine a9 ?_ _));exact dw.out) hb);have n3_:=zzA (ag (by repeat (first|(with_reducible first|exact HB.out|apply a6|apply a4|apply a5|refine a7 ?_ fc.out|refine a7 ?_ jq.out)|exact HB.out)) hb);clear cP;clear dw;clear HB;have HO145:=n0_;have cP:=n1_;have dw:=n2_;have HB:=n3_;clear n0_ n1_ n2_ n3_;(try clear hb);(try clear hb2);(try clear hk);(try clear hi);(try clear ho0);have fG:w16.cell? ⟨d4,0,none⟩=some (.slice ax ai.length ap):=(a8 cP.out 0).trans rfl;have fH:w16.cell? ⟨d4,1,none⟩=some (.slice au ah.length am):=(a8 cP.out 1).trans rfl;have fJ:=ab cP.out 0;have fK:=ab cP.out 1)|((with_reducible refine ar (f:=41) rfl ?_);refine bi (some 21) rfl rfl Try.func41 (by kernel_rfl) rfl #[.agg #[.slice ax ai.length ap,.slice au ah.length am],.slice none 0 0] rfl (by (try simp only [List.map_toArray,List.map_cons,List.map_nil]);first|done|rfl|(simp only [List.length_drop,List.length_take];rfl)) ?_;(refine (search_prove.calls _ _ ai _ _ ah _ _ ([]:List Int) t148 t149 _ ?side1 ?side2 ?side3 ?side4 ?side5 ?side6 A11.out).mono ?_);(case side1=>repeat (first|exact (zzI bz.out HB.out)|(with_reducible refine Kd.C_alloc ?_ _)|(with_reducible refine Kd.C_drewN ?_ _)|(with_reducible refine Kd.C_drew ?_)));(case side2=>exact bH.out);(case side3=>repeat (first|exact (zzI bq.out HB.out)|(with_reducible refine Kd.C_alloc ?_ _)|(with_reducible refine Kd.C_drewN ?_ _)|(with_reducible refine Kd.C_drew ?_)));(case side4=>exact bF.out);(case side5=>exact Kd.C_nil _ _);(case side6=>exact Nat.le_refl _);rintro e w18 ⟨v150,rfl,ho0,hb⟩;refine ⟨_,rfl,?_⟩;have n0_:=zzA (Kd.R_below (by (with_reducible repeat (first|apply Kd.R_alloc|apply Kd.R_drewN|apply Kd.R_drew));exact HO145.out) hb);have n1_:=zzA (Kd.R_lower (Kd.R_newB ho0 (g:=dn) (o:=.cells #[.int .i64 0,.slice none 0 0] 39 (0,0)) (by (with_reducible repeat (first|refine aa ?_ _|refine ac ?_|refine a9 ?_ _));exact dw.out)) (ae (by repeat (first|(with_reducible first|exact HB.out|apply a6|apply a4|apply a5|refine a7 ?_ fc.out|refine a7 ?_ jq.out)|exact HB.out))));have n2_:=zzA (af (g:=d4) (o:=.cells #[.slice ax ai.length ap,.slice au ah.length am] 25 (0,0)) (by (with_reducible repeat (first|refine aa ?_ _|refine ac ?_|refine a9 ?_ _));exact cP.out) hb);have n3_:=zzA (af (g:=dn) (o:=.cells #[.int .i64 0,.slice none 0 0] 39 (0,0)) (by (with_reducible repeat (first|refine aa ?_ _|refine ac ?_|refine a9 ?_ _));exact dw.out) hb);have n4_:=zzA (ag (by repeat (first|(with_reducible first|exact HB.out|apply a6|apply a4|apply a5|refine a7 ?_ fc.out|refine a7 ?_ jq.out)|exact HB.out)) hb);clear HO145;clear cP;clear dw;clear HB;have HO145:=n0_;have HO151:=n1_;have cP:=n2_;have dw:=n3_;have HB:=n4_;clear n0_ n1_ n2_ n3_ n4_;(try clear hb);(try clear hb2);(try clear hk);(try clear hi);(try clear ho0);have hcz19_0:w18.cell? ⟨dn,0,none⟩=some (.int .i64 0):=(a8 dw.out 0).trans rfl;have hcz19_1:w18.cell? ⟨dn,1,none⟩=some (.slice none 0 0):=(a8 dw.out 1).trans rfl;have hfz19_0:=ab dw.out 0;have hfz19_1:=ab dw.out 1;obtain ⟨Ao20,co20,eo20⟩:=Kd.R_slice HO151.out;subst eo20))
   refine bodyPost_ret (dK rfl _ _ dn 39 #[.int .i64 t148,.slice Ao20 t149.length co20] (0,0) _ rfl (by (with_reducible repeat (first|refine aa ?_ _|refine ac ?_|refine a9 ?_ _));refine aN (cs:=#[.int .i64 t148,.slice none 0 0]) ?_ 1 _ rfl;(with_reducible repeat (first|refine aa ?_ _|refine ac ?_|refine a9 ?_ _));refine aN (cs:=#[.int .i64 0,.slice none 0 0]) ?_ 0 _ rfl;(with_reducible repeat (first|refine aa ?_ _|refine ac ?_|refine a9 ?_ _));exact dw.out) Try.underlying39 rfl (by kernel_rfl)) rfl ?_
   exact ⟨_,by first|rfl|(simp [ak,al] <;> rfl)|(simp [*,ak,al] <;> rfl),by (with_reducible repeat (first|apply Kd.R_alloc|apply Kd.R_drewN|apply Kd.R_drew));exact Kd.R_mono (Kd.R_far (p:=⟨dn,1,none⟩) (Kd.R_far (p:=⟨dn,0,none⟩) (Kd.R_mono HO151.out (fun k_ hk=>(⟨hk,hk.2⟩ : _∧k_ ≠ dn))) (fun _ hk=>hk.2) (.int .i64 t148)) (fun _ hk=>hk.2) (.slice Ao20 t149.length co20)) (fun _ hk=>trivial),by repeat (first|(with_reducible first|exact HB.out|apply a6|apply a4|apply a5|refine a7 ?_ fc.out|refine a7 ?_ jq.out)|exact HB.out)⟩
 ·rw [if_neg c3] at H
  have kA:(t147 == 0)=false:=beq_eq_false_iff_ne.mpr c3
  have c3b1:(t147 != 0)=true:=bne_iff_ne.mpr c3
  simp only [Option.some.injEq,Prod.mk.injEq] at H
  obtain ⟨rfl,rfl,rfl,rfl⟩:=H
  go_enter Try.func20,Try.ntmps20
  go_wp2_with (first|((with_reducible refine ay (N:=1) rfl ?_);refine aq ?hg (N:=1) ?hd (cs:=#[.slice ax ai.length ap,.slice au ah.length am]) (t:=25) ?hr ?_;(case hd=>rfl);(case hg=>rfl);(case hr=>first|(go_simp;done)|(go_simp;rfl));intro d4 hg w21 hbox hb;have n0_:=zzA (ag (by repeat (first|(with_reducible first|exact HB.out|apply a6|apply a4|apply a5)|exact HB.out)) hb);have n1_:=zzA (hbox);have n2_:=zzA ((by rw [hg];exact (ae (by repeat (first|(with_reducible first|exact HB.out|apply a6|apply a4|apply a5)|exact HB.out))):w.heap.size≤d4));have n3_:=zzA ((by rw [hg];exact (ae (by repeat (first|(with_reducible first|exact HB.out|apply a6|apply a4|apply a5)|exact HB.out))):w.heap.size≤d4));clear HB;have HB:=n0_;have cP:=n1_;have GW141:=n2_;have fc:=n3_;clear n0_ n1_ n2_ n3_;clear hb hbox hg)|((with_reducible refine ay (N:=2) rfl ?_);refine aq ?hg (N:=2) ?hd (cs:=#[.int .i64 0,.slice none 0 0]) (t:=39) ?hr ?_;(case hd=>rfl);(case hg=>rfl);(case hr=>first|(go_simp;done)|(go_simp;rfl));intro dn hg w22 hbox hb;have n0_:=zzA (af (g:=d4) (o:=.cells #[.slice ax ai.length ap,.slice au ah.length am] 25 (0,0)) (by (with_reducible repeat (first|refine aa ?_ _|refine ac ?_|refine a9 ?_ _));exact cP.out) hb);have n1_:=zzA (ag (by repeat (first|(with_reducible first|exact HB.out|apply a6|apply a4|apply a5|refine a7 ?_ fc.out)|exact HB.out)) hb);have n2_:=zzA (hbox);have n3_:=zzA ((by rw [hg];exact (ae (by repeat (first|(with_reducible first|exact HB.out|apply a6|apply a4|apply a5|refine a7 ?_ fc.out)|exact HB.out))):w.heap.size≤dn));have n4_:=zzA ((by rw [hg];exact (ae (by repeat (first|(with_reducible first|exact HB.out|apply a6|apply a4|apply a5|refine a7 ?_ fc.out)|exact HB.out))):w.heap.size≤dn));have n5_:=zzA ((by rw [hg];exact Nat.ne_of_lt (aJ (g:=d4) (o:=.cells #[.slice ax ai.length ap,.slice au ah.length am] 25 (0,0)) (by (with_reducible repeat (first|refine aa ?_ _|refine ac ?_|refine a9 ?_ _));exact cP.out)):d4 ≠ dn));have n6_:=zzA ((by rw [hg];exact Nat.ne_of_gt (aJ (g:=d4) (o:=.cells #[.slice ax ai.length ap,.slice au ah.length am] 25 (0,0)) (by (with_reducible repeat (first|refine aa ?_ _|refine ac ?_|refine a9 ?_ _));exact cP.out)):dn ≠ d4));clear cP;clear HB;have cP:=n0_;have HB:=n1_;have dw:=n2_;have GW142:=n3_;have jq:=n4_;have NB141_142:=n5_;have NB142_141:=n6_;clear n0_ n1_ n2_ n3_ n4_ n5_ n6_;clear hb hbox hg;have hnb23:=NB141_142.out;have hnc23:=NB142_141.out;have ji:w22.cell? ⟨d4,0,none⟩=some (.slice ax ai.length ap):=(a8 cP.out 0).trans rfl;have jk:w22.cell? ⟨d4,1,none⟩=some (.slice au ah.length am):=(a8 cP.out 1).trans rfl;have jl:=ab cP.out 0;have jm:=ab cP.out 1)|((with_reducible refine ar (f:=15) rfl ?_);refine bi (some 9) rfl rfl Try.func15 (by kernel_rfl) rfl #[.agg #[.slice ax ai.length ap,.slice au ah.length am]] rfl (by (try simp only [List.map_toArray,List.map_cons,List.map_nil]);first|done|rfl|(simp only [List.length_drop,List.length_take];rfl)) ?_;(with_reducible refine (search_Solve.calls k _ _ ai _ _ ah t143 t146 t147 _ ?side1 ?side2 ?side3 ?side4 A2.out).mono ?_);(case side1=>repeat (first|exact (zzI bz.out HB.out)|(with_reducible refine Kd.C_alloc ?_ _)|(with_reducible refine Kd.C_drewN ?_ _)|(with_reducible refine Kd.C_drew ?_)));(case side2=>exact bH.out);(case side3=>repeat (first|exact (zzI bq.out HB.out)|(with_reducible refine Kd.C_alloc ?_ _)|(with_reducible refine Kd.C_drewN ?_ _)|(with_reducible refine Kd.C_drew ?_)));(case side4=>exact bF.out);rintro e w25 ⟨v144,rfl,ho0,hb⟩;refine ⟨_,rfl,?_⟩;have n0_:=zzA (Kd.R_lower ho0 (ae (by repeat (first|(with_reducible first|exact HB.out|apply a6|apply a4|apply a5|refine a7 ?_ fc.out|refine a7 ?_ jq.out)|exact HB.out))));have n1_:=zzA (af (g:=d4) (o:=.cells #[.slice ax ai.length ap,.slice au ah.length am] 25 (0,0)) (by (with_reducible repeat (first|refine aa ?_ _|refine ac ?_|refine a9 ?_ _));exact cP.out) hb);have n2_:=zzA (af (g:=dn) (o:=.cells #[.int .i64 0,.slice none 0 0] 39 (0,0)) (by (with_reducible repeat (first|refine aa ?_ _|refine ac ?_|refine a9 ?_ _));exact dw.out) hb);have n3_:=zzA (ag (by repeat (first|(with_reducible first|exact HB.out|apply a6|apply a4|apply a5|refine a7 ?_ fc.out|refine a7 ?_ jq.out)|exact HB.out)) hb);clear cP;clear dw;clear HB;have HO145:=n0_;have cP:=n1_;have dw:=n2_;have HB:=n3_;clear n0_ n1_ n2_ n3_;(try clear hb);(try clear hb2);(try clear hk);(try clear hi);(try clear ho0);have hcz26_0:w25.cell? ⟨dn,0,none⟩=some (.int .i64 0):=(a8 dw.out 0).trans rfl;have hcz26_1:w25.cell? ⟨dn,1,none⟩=some (.slice none 0 0):=(a8 dw.out 1).trans rfl;have hfz26_0:=ab dw.out 0;have hfz26_1:=ab dw.out 1))
  refine bodyPost_ret (dK rfl _ _ dn 39 #[.int .i64 0,.slice none 0 0] (0,0) _ rfl (by (with_reducible repeat (first|refine aa ?_ _|refine ac ?_|refine a9 ?_ _));refine aN (cs:=#[.int .i64 0,.slice none 0 0]) ?_ 1 _ rfl;(with_reducible repeat (first|refine aa ?_ _|refine ac ?_|refine a9 ?_ _));refine aN (cs:=#[.int .i64 0,.slice none 0 0]) ?_ 0 _ rfl;(with_reducible repeat (first|refine aa ?_ _|refine ac ?_|refine a9 ?_ _));exact dw.out) Try.underlying39 rfl (by kernel_rfl)) rfl ?_
  exact ⟨_,by first|rfl|(simp [ak,al] <;> rfl)|(simp [*,ak,al] <;> rfl),by first|exact Kd.R_nil _ _ _ _ _|exact Kd.N_nil _ _ _ _ _|exact Kd.V_nil _ _ _ _ _|exact Kd.Q_nil _ _ _ _ _|exact Kd.S_nil _ _ _ _ _,by repeat (first|(with_reducible first|exact HB.out|apply a6|apply a4|apply a5|refine a7 ?_ fc.out|refine a7 ?_ jq.out)|exact HB.out)⟩
end Go.Proofs.Ytcbpkdemcdikaaa.X
namespace Go.Proofs.Ytcbpkdemcdikaaa.X
open Go.RowKit Go.Proofs.YtcbpkdemcdikaaaW.PrintWords Go.Proofs.YtcbpkdemcdikaaaW.PrintLast Go.Proofs.YtcbpkdemcdikaaaW.PrintMore
attribute [local go_sem] be bc bn bo aM aK bf bd
set_option linter.unusedVariables false
set_option linter.unusedSimpArgs false
namespace DF
open SF
set_option maxHeartbeats 8000000
def leafB (rs:List S49) (t:S39) (x:List Int):Bool:=decide (t.f0 < (rs.length:Int)) && decide (t.f1.length=0) && brokenB (aj rs t.f0) x
def rightB (rs:List S49):List (List Int)→S39→List Int→Bool
  | [],t,x=>if 0≤t.f0 then leafB rs t x else false
  | d :: ds,t,x=>if 0≤t.f0 then leafB rs t x else if t.f0 < -1∨t.f1.length ≠ d.length then false else (List.range d.length).all fun i=>rightB rs ds (aY t.f1 (i:Int)) (x ++ [rd d (i:Int)])
theorem rightB_leaf (rs:List S49) (ds:List (List Int)) (t:S39) (x:List Int) (h:0≤t.f0):rightB rs ds t x=leafB rs t x:=by
  cases ds <;> (unfold rightB;rw [if_pos h])
theorem rightB_all (rs:List S49) (d:List Int) (ds:List (List Int)) (t:S39) (x:List Int) (h:¬ 0≤t.f0) (h2:¬ (t.f0 < -1∨t.f1.length ≠ d.length)):rightB rs (d :: ds) t x=(List.range d.length).all fun i=>rightB rs ds (aY t.f1 (i:Int)) (x ++ [rd d (i:Int)]):=by
  show (if 0≤t.f0 then _ else _)=_
  rw [if_neg h,if_neg h2]
theorem right_leaf (rem:List (List Int)) (A0:Option Addr) (c0:Nat) (ds:List (List Int)) (A1:Option Addr) (c1:Nat) (rs:List S49) (Ak:Option Addr) (ck:Nat) (t:S39) (Ax:Option Addr) (cx:Nat) (x:List Int) (w:World) (h0:0≤t.f0)
    (hr1:Kd.C k49 w A1 rs.length rs) (hrk:Kd.C k39 w Ak t.f1.length t.f1) (hrx:Kd.C (Kd.int .i64) w Ax x.length x) (hcx:x.length≤cx) (hok:∀ r ∈ rs,okR r) :
    Calls Try.prog 43 #[.agg #[.slice A0 ds.length c0,.slice A1 rs.length c1],.agg #[.int .i64 t.f0,.slice Ak t.f1.length ck],.slice Ax x.length cx] w fun e w'=>e=.returned (.bool (rightB rs rem t x))∧Below w.heap.size w w':=by
  rw [rightB_leaf rs rem t x h0]
  obtain ⟨f0,hf0⟩ : ∃ f0,t.f0=f0:=⟨_,rfl⟩
  have hl:leafB rs t x=(decide (f0 < (rs.length:Int)) && decide (t.f1.length=0) && brokenB (aj rs f0) x):=by unfold leafB;rw [hf0]
  rw [hl,hf0]
  rw [hf0] at h0
  clear hl hf0
  have g0:decide (f0 ≥ 0)=true:=zzG h0
  have g0':decide (0≤f0)=true:=zzG h0
  by_cases h1:f0 < (rs.length:Int)
  · have g1:decide (f0 < (rs.length:Int))=true:=zzG h1
    by_cases h2:t.f1.length=0
    · have g2:decide (t.f1.length=0)=true:=zzG h2
      have g2b:((t.f1.length:Int) == 0)=true:=by rw [h2];rfl
      have g2c:(t.f1.length == 0)=true:=by rw [h2];rfl
      obtain ⟨ad1,A2,c2,A3,c3,e1,hx0,hx1,hx2,hx3,hl2,hi2,hl3,hi3⟩:=ex hr1 f0 h0 h1
      subst e1
      have hu49:=Try.underlying49
      obtain ⟨r,hr⟩ : ∃ r,aj rs f0=r:=⟨_,rfl⟩
      have hor:okR r:=by
        rw [← hr,show aj rs f0=rs[f0.toNat] by simp [aj,List.getD,List.getElem?_eq_getElem (show f0.toNat < rs.length by omega)]]
        exact hok _ (List.getElem_mem _)
      rw [hr] at hx0 hx1 hx2 hx3 hl2 hi2 hl3 hi3 ⊢
      have y0:=ga (ga hx0 (.cells #[.slice A0 ds.length c0,.slice (some ad1) rs.length c1] 25)) (.cells #[.int .i64 f0,.slice Ak t.f1.length ck] 39)
      have y1:=ga (ga hx1 (.cells #[.slice A0 ds.length c0,.slice (some ad1) rs.length c1] 25)) (.cells #[.int .i64 f0,.slice Ak t.f1.length ck] 39)
      have y2:=ga (ga hx2 (.cells #[.slice A0 ds.length c0,.slice (some ad1) rs.length c1] 25)) (.cells #[.int .i64 f0,.slice Ak t.f1.length ck] 39)
      have y3:=ga (ga hx3 (.cells #[.slice A0 ds.length c0,.slice (some ad1) rs.length c1] 25)) (.cells #[.int .i64 f0,.slice Ak t.f1.length ck] 39)
      have HBR:=zzA (fun (W:World) (hb:Below w.heap.size w W)=>broken_ok r.f0 r.f1 A2 c2 r.f2 A3 c3 r.f3 Ax cx x W (zzI hi2 hb) hl2 (zzI hi3 hb) hl3 (zzI hrx hb) hcx hor.1 hor.2.1 hor.2.2.1 hor.2.2.2)
      have p0:(0≤f0)=True:=eq_true h0
      have q0:(f0 < (rs.length:Int))=True:=eq_true h1
      have q1:(f0.toNat < rs.length)=True:=eq_true (by omega)
      clear hr1 hrk hrx hcx hok h0 h1 h2 hl2 hi2 hl3 hi3 hor hr hx0 hx1 hx2 hx3
      have HB0:=zzA (a6 (a6 (Below.refl w.heap.size w) (.cells #[.slice A0 ds.length c0,.slice (some ad1) rs.length c1] 25)) (.cells #[.int .i64 f0,.slice Ak t.f1.length ck] 39))
      obtain ⟨bb,hbb⟩ : ∃ bb,brokenB r x=bb:=⟨_,rfl⟩
      rw [show (⟨r.f0,r.f1,r.f2,r.f3⟩ : S49)=r from rfl,hbb] at HBR
      rw [hbb]
      clear hbb
      go_enter Try.func43,Try.ntmps43
      go_wp2_with (go_at_call 32;refine (HBR.out _ HB0.out).mono ?_;rintro e w5 ⟨rfl,hb5⟩;have HB5:=zzA (HB0.out.trans (hb5.mono HB0.out.size));clear hb5)
      go_ret
      refine ⟨?_,HB5.out⟩
      rw [g1,g2];rfl
    · have g2:decide (t.f1.length=0)=false:=zzH h2
      have g2b:((t.f1.length:Int) == 0)=false:=beq_eq_false_iff_ne.mpr (by omega)
      have g2c:(t.f1.length == 0)=false:=beq_eq_false_iff_ne.mpr h2
      have HB0:=zzA (a6 (a6 (Below.refl w.heap.size w) (.cells #[.slice A0 ds.length c0,.slice A1 rs.length c1] 25)) (.cells #[.int .i64 f0,.slice Ak t.f1.length ck] 39))
      clear hr1 hrk hrx hcx hok h0 h1 h2
      go_enter Try.func43,Try.ntmps43
      go_wp2_with (fail)
      go_ret
      refine ⟨?_,HB0.out⟩
      rw [g1,g2];rfl
  · have g1:decide (f0 < (rs.length:Int))=false:=zzH h1
    have HB0:=zzA (a6 (a6 (Below.refl w.heap.size w) (.cells #[.slice A0 ds.length c0,.slice A1 rs.length c1] 25)) (.cells #[.int .i64 f0,.slice Ak t.f1.length ck] 39))
    clear hr1 hrk hrx hcx hok h0 h1
    go_enter Try.func43,Try.ntmps43
    go_wp2_with (fail)
    go_ret
    refine ⟨?_,HB0.out⟩
    rw [g1];rfl
noncomputable def T8r:Bool × List (List Nat × List Nat):=fU .any (gP Try.f43 8)
theorem tab8r:fU .any (gP Try.f43 8)=T8r:=rfl
theorem right_ok:∀ (rem:List (List Int)) (A0:Option Addr) (c0:Nat) (ds:List (List Int)) (A1:Option Addr) (c1:Nat) (rs:List S49) (Ak:Option Addr) (ck:Nat) (t:S39) (Ax:Option Addr) (cx:Nat) (x:List Int) (w:World),ds.drop x.length=rem→x.length≤ds.length →
    Kd.C (Kd.slice 3 (Kd.int .i64)) w A0 ds.length ds→Kd.C k49 w A1 rs.length rs→Kd.C k39 w Ak t.f1.length t.f1→t.f1.length≤ck→Kd.C (Kd.int .i64) w Ax x.length x→x.length≤cx→(Ax=none→x=[])→(∀ r ∈ rs,okR r)→ds.length≤1000 →
    Calls Try.prog 43 #[.agg #[.slice A0 ds.length c0,.slice A1 rs.length c1],.agg #[.int .i64 t.f0,.slice Ak t.f1.length ck],.slice Ax x.length cx] w fun e w'=>e=.returned (.bool (rightB rs rem t x))∧Below w.heap.size w w':=by
  intro rem
  induction rem with
  | nil =>
    intro A0 c0 ds A1 c1 rs Ak ck t Ax cx x w hrem hxl hr0 hr1 hrk hck hrx hcx hAx hok hdl
    by_cases h0:0≤t.f0
    · exact right_leaf [] A0 c0 ds A1 c1 rs Ak ck t Ax cx x w h0 hr1 hrk hrx hcx hok
    · have hlen:x.length=ds.length:=by
        have h:=congrArg List.length hrem
        simp at h
        omega
      rw [show rightB rs [] t x=false from by show (if 0≤t.f0 then _ else _)=_;rw [if_neg h0]]
      obtain ⟨f0,hf0⟩ : ∃ f0,t.f0=f0:=⟨_,rfl⟩
      rw [hf0] at h0 ⊢
      have g0:decide (f0 ≥ 0)=false:=zzH h0
      have g0':decide (0≤f0)=false:=zzH h0
      have HB0:=zzA (a6 (a6 (Below.refl w.heap.size w) (.cells #[.slice A0 ds.length c0,.slice A1 rs.length c1] 25)) (.cells #[.int .i64 f0,.slice Ak t.f1.length ck] 39))
      by_cases h1:f0 < -1
      · have g1:decide (f0 < -1)=true:=zzG h1
        clear hr0 hr1 hrk hrx hcx hok h0 h1 hrem hxl hck hAx hdl hlen hf0
        go_enter Try.func43,Try.ntmps43
        go_wp2_with (fail)
        go_quiet (fail)
        go_wp2_with (fail)
        go_ret
        exact ⟨rfl,by repeat (first|exact HB0.out|apply a4|apply a5)⟩
      · have g1:decide (f0 < -1)=false:=zzH h1
        have g2:((x.length:Int) == (ds.length:Int))=true:=beq_iff_eq.mpr (by omega)
        have g2b:(x.length == ds.length)=true:=beq_iff_eq.mpr hlen
        clear hr0 hr1 hrk hrx hcx hok h0 h1 hrem hxl hck hAx hdl hlen hf0
        go_enter Try.func43,Try.ntmps43
        go_wp2_with (fail)
        go_quiet (fail)
        go_wp2_with (fail)
        go_ret
        exact ⟨rfl,by repeat (first|exact HB0.out|apply a4|apply a5)⟩
  | cons d rem ih =>
    intro A0 c0 ds A1 c1 rs Ak ck t Ax cx x w hrem hxl hr0 hr1 hrk hck hrx hcx hAx hok hdl
    by_cases h0:0≤t.f0
    · exact right_leaf _ A0 c0 ds A1 c1 rs Ak ck t Ax cx x w h0 hr1 hrk hrx hcx hok
    · have hxl2:x.length < ds.length:=by
        have h:=congrArg List.length hrem
        simp at h
        omega
      have hrem2:ds.drop (x.length+1)=rem:=by
        have h:=congrArg List.tail hrem
        rwa [List.tail_drop] at h
      have hd:ds[x.length]=d:=by
        have h:=congrArg List.head? hrem
        rw [List.head?_drop,List.getElem?_eq_getElem hxl2] at h
        exact Option.some.inj h
      have hrow:ao ds (x.length:Int)=d:=by simp [ao,List.getD,List.getElem?_eq_getElem hxl2,hd]
      obtain ⟨f0,hf0⟩ : ∃ f0,t.f0=f0:=⟨_,rfl⟩
      have g0:decide (f0 ≥ 0)=false:=by rw [← hf0];exact zzH h0
      have g0':decide (0≤f0)=false:=g0
      have p0:0≤(x.length:Int):=by omega
      have q0:(x.length:Int) < (ds.length:Int):=by omega
      obtain ⟨ad0,B0,cc0,e0,hx0W,hl0,hc0⟩:=et hr0 x.length p0 q0
      subst e0
      rw [Int.toNat_natCast] at hx0W
      rw [hrow] at hx0W hl0 hc0
      have HB0:=zzA (a6 (a6 (Below.refl w.heap.size w) (.cells #[.slice (some ad0) ds.length c0,.slice A1 rs.length c1] 25)) (.cells #[.int .i64 f0,.slice Ak t.f1.length ck] 39))
      have y0:=ga (ga hx0W (.cells #[.slice (some ad0) ds.length c0,.slice A1 rs.length c1] 25)) (.cells #[.int .i64 f0,.slice Ak t.f1.length ck] 39)
      have n0:(x.length < ds.length)=True:=eq_true hxl2
      have g2:((x.length:Int) == (ds.length:Int))=false:=beq_eq_false_iff_ne.mpr (by omega)
      have g2b:(x.length == ds.length)=false:=beq_eq_false_iff_ne.mpr (by omega)
      by_cases h1:f0 < -1
      · have g1:decide (f0 < -1)=true:=zzG h1
        rw [show rightB rs (d :: rem) t x=false from by show (if 0≤t.f0 then _ else _)=_;rw [if_neg h0,if_pos (.inl (by rw [hf0];exact h1))]]
        rw [hf0]
        clear hr0 hr1 hrk hrx hcx hok h0 h1 hrem hxl hck hAx hdl hf0 p0 q0 hxl2 hrem2 hd hrow hl0 hc0 hx0W ih
        go_enter Try.func43,Try.ntmps43
        go_wp2_with (fail)
        go_quiet (fail)
        go_wp2_with (fail)
        go_ret
        exact ⟨rfl,by repeat (first|exact HB0.out|apply a4|apply a5)⟩
      · have g1:decide (f0 < -1)=false:=zzH h1
        by_cases h3:t.f1.length=d.length
        · have g3:((t.f1.length:Int) != (d.length:Int))=false:=bne_eq_false_iff_eq.mpr (by omega)
          have g3b:(t.f1.length != d.length)=false:=bne_eq_false_iff_eq.mpr h3
          rw [rightB_all rs d rem t x h0 (by rw [hf0];rintro (h|h);exact h1 h;exact h h3)]
          rw [hf0]
          replace p0:=eq_true p0
          replace q0:=eq_true q0
          have HR0:=zzA hr0;have HR1:=zzA hr1;have HRK:=zzA hrk;have HCK:=zzA hck;have HRX:=zzA hrx;have HCX:=zzA hcx;have HAX:=zzA hAx;have HOK:=zzA hok;have HDL:=zzA hdl
          have HXL:=zzA hxl2;have HREM:=zzA hrem2;have HC0:=zzA hc0;have IH:=zzA ih;have H3:=zzA h3
          have HDM:=zzA (show d.length≤9223372036854775807 from Kd.C_max hc0)
          have hk3:=a9 (bT w (.cells #[.slice (some ad0) ds.length c0,.slice A1 rs.length c1] 25)) (.cells #[.int .i64 f0,.slice Ak t.f1.length ck] 39)
          have hk4:=bT (w.alloc (.cells #[.slice (some ad0) ds.length c0,.slice A1 rs.length c1] 25)) (.cells #[.int .i64 f0,.slice Ak t.f1.length ck] 39)
          rw [World.size_alloc] at hk4
          have HK3:=zzA hk3;have HK4:=zzA hk4
          clear hr0 hr1 hrk hrx hcx hok h0 h1 hrem hxl hck hAx hdl hf0 hxl2 hrem2 hd hrow hl0 hc0 hx0W ih h3 hk3 hk4
          go_enter Try.func43,Try.ntmps43
          go_wp2_with (fail)
          go_quiet (fail)
          go_wp2_with (fail)
          obtain ⟨W2,hW2⟩ : ∃ W2,((w.alloc (.cells #[.slice (some ad0) ds.length c0,.slice A1 rs.length c1] 25)).alloc (.cells #[.int .i64 f0,.slice Ak t.f1.length ck] 39)).drewN nq=W2:=⟨_,rfl⟩
          have hB2:Below w.heap.size w W2:=by rw [← hW2];exact a4 HB0.out _
          have hz2:W2.heap.size=w.heap.size+1+1:=by rw [← hW2];simp
          have hk3':W2.heap[w.heap.size]?=some (.cells #[.slice (some ad0) ds.length c0,.slice A1 rs.length c1] 25 (0,0)):=by rw [← hW2];exact HK3.out
          have hk4':W2.heap[w.heap.size+1]?=some (.cells #[.int .i64 f0,.slice Ak t.f1.length ck] 39 (0,0)):=by rw [← hW2];exact HK4.out
          have HB2:=zzA hB2;have HZ2:=zzA hz2;have K3:=zzA hk3';have K4:=zzA hk4'
          rw [hW2]
          clear hW2 hB2 hz2 hk3' hk4' y0 g2 g2b g3 g3b g0 g0' g1
          go_loopg [7,8,67] d.length (fun gg _ _ v67 wr=>∃ kk:Nat,v67=.int .i64 kk∧Aside0 (kk≤d.length)∧Aside0 (d.length - kk≤gg)∧Aside0 (∀ i,i < kk→rightB rs rem (aY t.f1 (i:Int)) (x ++ [rd d (i:Int)])=true)∧Aside0 (Below W2.heap.size W2 wr))
          case atStart=>exact ⟨0,rfl,⟨Nat.zero_le _⟩,⟨by omega⟩,⟨fun i hi=>absurd hi (by omega)⟩,⟨Below.refl _ _⟩⟩
          case round =>
            obtain ⟨kk,rfl,HK,HG,HT,HB⟩:=hrel
            have HBw:=zzA (show Below w.heap.size w wr from HB2.out.trans (HB.out.mono (by have:=HZ2.out;omega)))
            by_cases c4:kk < d.length
            · have c4b:decide ((kk:Int) < (d.length:Int))=true:=zzG (by omega)
              have c4n:decide (kk < d.length)=true:=zzG c4
              have p1:0≤(kk:Int):=by omega
              have q1:(kk:Int) < (d.length:Int):=by omega
              obtain ⟨adr,er,hxr⟩:=Kd.at_int (zzI HC0.out HBw.out) kk p1 q1
              subst er
              rw [Int.toNat_natCast] at hxr
              obtain ⟨adk,Akk,ckk,ek,hk0,hk1,hlk,hck2⟩:=kg (zzI HRK.out HBw.out) kk p1 (by have:=H3.out;omega)
              subst ek
              rw [Int.toNat_natCast] at hk0 hk1
              obtain ⟨kid,hkid⟩ : ∃ kid,aY t.f1 (kk:Int)=kid:=⟨_,rfl⟩
              rw [hkid] at hk0 hk1 hlk hck2
              have n1:(kk < d.length)=True:=eq_true c4
              have n2:(kk < t.f1.length)=True:=eq_true (by have:=H3.out;omega)
              have q2:((kk:Int) < (t.f1.length:Int))=True:=eq_true (by have:=H3.out;omega)
              have m1:(x.length≤cx)=True:=eq_true HCX.out
              have m2:((x.length:Int)≤(cx:Int))=True:=eq_true (by have:=HCX.out;omega)
              replace p1:=eq_true p1
              replace q1:=eq_true q1
              obtain ⟨v,hv⟩ : ∃ v,rd d (kk:Int)=v:=⟨_,rfl⟩
              rw [hv] at hxr
              have HV:=zzA hv
              have HC:=zzA c4
              have HKD:=zzA hkid
              have hltk0:=zzE wr _ hk0
              have hltk1:=zzE wr _ hk1
              have HSF:=zzA (fun (W':World) (hb:Below wr.heap.size wr W')=>(show W'.cell? ⟨w.heap.size,0,none⟩=some (.slice (some ad0) ds.length c0)∧W'.cell? ⟨w.heap.size,1,none⟩=some (.slice A1 rs.length c1)∧W'.cell? ⟨w.heap.size+1,1,none⟩=some (.slice (some adk) t.f1.length ck)∧W'.cell? (adk.add (kk * 2))=some (.int .i64 kid.f0)∧W'.cell? ⟨(adk.add (kk * 2)).block,(adk.add (kk * 2)).off+1,none⟩=some (.slice Akk kid.f1.length ckk) from by
                have hk2:=af (af K3.out HB.out) hb
                have hk3:=af (af K4.out HB.out) hb
                exact ⟨by simpa using a8 hk2 0,by simpa using a8 hk2 1,by simpa using a8 hk3 1,(hb.cell hltk0).trans hk0,(hb.cell hltk1).trans hk1⟩))
              have HBd:=zzA (show Below w.heap.size w wr.drew from a5 HBw.out)
              have HBd1:=zzA (show Below wr.heap.size wr wr.drew from a5 (Below.refl _ _))
              obtain ⟨v1,w1,hrun,hown,hb1⟩:=ko Ax x v wr.drew (show ReadsInt wr.drew .i64 Ax x.length x from Kd.reads_of_C (d:=0) (zzI HRX.out HBd.out)) HAX.out (by have:=HXL.out;have:=HDL.out;omega)
              obtain ⟨A9,c9,hv9⟩:=fu hown
              subst hv9
              have hxl9:(x ++ [v]).length=x.length+1:=by simp
              have hbr1:Below wr.heap.size wr w1:=⟨hb1.os,hb1.tape,hb1.output,hb1.size,hb1.block⟩
              have hbw1:Below w.heap.size w w1:=HBw.out.trans (hbr1.mono HBw.out.size)
              have hown2:w1.ownsRow wr.drew.heap.size 3 1 (.slice A9 (x ++ [v]).length c9) (x ++ [v]).length (d7 .i64 (x ++ [v])):=by rw [hxl9];exact hown
              obtain ⟨A9',c9',e9,hle9,hrd9⟩:=d3 (enc:=fun x:Int=>Value.int .i64 x) (d:=0) hown2
              injection e9 with e9a _ e9c
              subst e9a e9c
              obtain ⟨kb,hkb⟩ : ∃ kb,rightB rs rem kid (x ++ [v])=kb:=⟨_,rfl⟩
              have hcall:=IH.out (some ad0) c0 ds A1 c1 rs Akk ckk kid A9 c9 (x ++ [v]) w1 (by rw [hxl9];exact HREM.out) (by rw [hxl9];have:=HXL.out;omega) (zzI HR0.out hbw1) (zzI HR1.out hbw1) (zzI hck2 hbr1) hlk (Kd.C_of_reads hrd9) hle9 (fun e=>by
                obtain ⟨_,e',_⟩:=hrd9.2.2 (by omega)
                rw [e] at e';cases e') HOK.out HDL.out
              rw [hkb,hxl9] at hcall
              have HRUN:=zzA hrun
              have HCALL:=zzA hcall
              have HBR1:=zzA hbr1
              have HKB:=zzA hkb
              have hS0:=HSF.out wr.drew HBd1.out
              clear hrun hown hb1 hbr1 hbw1 hown2 hle9 hrd9 hcall hkid hxl9 hkb hv c4 hk0 hk1 hlk hck2 hltk0 hltk1
              go_wp2_with (fail)
              refine ff (n:=17) (S:=fun w'=>w'.cell? ⟨w.heap.size,0,none⟩=some (.slice (some ad0) ds.length c0)∧w'.cell? ⟨w.heap.size,1,none⟩=some (.slice A1 rs.length c1)∧w'.cell? ⟨w.heap.size+1,1,none⟩=some (.slice (some adk) t.f1.length ck)∧w'.cell? (adk.add (kk * 2))=some (.int .i64 kid.f0)∧w'.cell? ⟨(adk.add (kk * 2)).block,(adk.add (kk * 2)).off+1,none⟩=some (.slice Akk kid.f1.length ckk)) (ds:=[]) #[false,false,false,false,false,false,false,false,false,false,false,false,false,false,false,false,false] (by kernel_rfl) rfl rfl ⟨hS0.1,hS0.2.1,hS0.2.2.1,hS0.2.2.2.1,hS0.2.2.2.2⟩ (fun hHeld=>?_)
              refine iy tab8r (fun HT_=>?_)
              refine bh (i:=1) (N:=some 73) (v:=?_) (a':=?_) #[false,true,false,false,false,false,false,false,false,false,false,false,false,false,false,false,false] rfl rfl (aG HT_.out (by kernel_rfl)) (fun _ _ _ h=>h) (Or.inl ⟨by rfl,?_⟩) ?_ ?_
              rotate_left
              · intro w'
                go_simp
                with_reducible rfl
              rotate_left
              · simp only [Act.put,zzB,zzC,zzD,av,aw]
                rfl
              refine bh (i:=3) (N:=some 75) (v:=?_) (a':=?_) #[false,true,false,true,false,false,false,false,false,false,false,false,false,false,false,false,false] rfl rfl (aG HT_.out (by kernel_rfl)) (fun _ _ _ h=>h) (Or.inl ⟨by rfl,?_⟩) ?_ ?_
              rotate_left
              · intro w'
                go_simp
                with_reducible rfl
              rotate_left
              · simp only [Act.put,zzB,zzC,zzD,av,aw]
                rfl
              refine bh (i:=6) (N:=some 78) (v:=?_) (a':=?_) #[false,true,false,true,false,false,true,false,false,false,false,false,false,false,false,false,false] rfl rfl (aG HT_.out (by kernel_rfl)) (fun _ _ _ h=>h) (Or.inl ⟨by rfl,?_⟩) ?_ ?_
              rotate_left
              · intro w'
                go_simp
                with_reducible rfl
              rotate_left
              · simp only [Act.put,zzB,zzC,zzD,av,aw]
                rfl
              refine bh (i:=7) (N:=some 79) (v:=?_) (a':=?_) #[false,true,false,true,false,false,true,true,false,false,false,false,false,false,false,false,false] rfl rfl (aG HT_.out (by kernel_rfl)) (fun _ _ _ h=>h) (Or.inl ⟨by rfl,?_⟩) ?_ ?_
              rotate_left
              · intro w'
                go_simp
                with_reducible rfl
              rotate_left
              · simp only [Act.put,zzB,zzC,zzD,av,aw]
                rfl
              refine bh (i:=8) (N:=some 80) (v:=?_) (a':=?_) #[false,true,false,true,false,false,true,true,true,false,false,false,false,false,false,false,false] rfl rfl (aG HT_.out (by kernel_rfl)) (fun _ _ _ h=>h) (Or.inl ⟨by rfl,?_⟩) ?_ ?_
              rotate_left
              · intro w'
                go_simp
                with_reducible rfl
              rotate_left
              · simp only [Act.put,zzB,zzC,zzD,av,aw]
                rfl
              refine bh (i:=9) (N:=some 81) (v:=?_) (a':=?_) #[false,true,false,true,false,false,true,true,true,true,false,false,false,false,false,false,false] rfl rfl (aG HT_.out (by kernel_rfl)) (fun _ _ _ h=>h) (Or.inl ⟨by rfl,?_⟩) ?_ ?_
              rotate_left
              · intro w'
                go_simp
                with_reducible rfl
              rotate_left
              · simp only [Act.put,zzB,zzC,zzD,av,aw]
                rfl
              refine bh (i:=10) (N:=some 82) (v:=?_) (a':=?_) #[false,true,false,true,false,false,true,true,true,true,true,false,false,false,false,false,false] rfl rfl (aG HT_.out (by kernel_rfl)) (fun _ _ _ h=>h) (Or.inl ⟨by rfl,?_⟩) ?_ ?_
              rotate_left
              · intro w'
                go_simp
                with_reducible rfl
              rotate_left
              · simp only [Act.put,zzB,zzC,zzD,av,aw]
                rfl
              refine bh (i:=11) (N:=some 83) (v:=?_) (a':=?_) #[false,true,false,true,false,false,true,true,true,true,true,true,false,false,false,false,false] rfl rfl (aG HT_.out (by kernel_rfl)) (fun _ _ _ h=>h) (Or.inl ⟨by rfl,?_⟩) ?_ ?_
              rotate_left
              · intro w'
                go_simp
                with_reducible rfl
              rotate_left
              · simp only [Act.put,zzB,zzC,zzD,av,aw]
                rfl
              refine bh (i:=12) (N:=some 84) (v:=?_) (a':=?_) #[false,true,false,true,false,false,true,true,true,true,true,true,true,false,false,false,false] rfl rfl (aG HT_.out (by kernel_rfl)) (fun _ _ _ h=>h) (Or.inl ⟨by rfl,?_⟩) ?_ ?_
              rotate_left
              · intro w'
                go_simp
                with_reducible rfl
              rotate_left
              · simp only [Act.put,zzB,zzC,zzD,av,aw]
                rfl
              refine take_ (i:=0) (N:=some 72) (v:=?_) (a':=?_) #[true,true,false,true,false,false,true,true,true,true,true,true,true,false,false,false,false] rfl rfl (e7 HT_.out (by kernel_rfl)) (fun _ _ _ h=>h) (Or.inl ⟨by rfl,?_⟩) hHeld ?_ ?_
              rotate_left
              · rintro w' ⟨s0,s1,s2,s3,s4⟩
                go_simp
                with_reducible rfl
              rotate_left
              · simp only [Act.put,zzB,zzC,zzD,av,aw]
                rfl
              refine take_ (i:=2) (N:=some 74) (v:=?_) (a':=?_) #[true,true,true,true,false,false,true,true,true,true,true,true,true,false,false,false,false] rfl rfl (e7 HT_.out (by kernel_rfl)) (fun _ _ _ h=>h) (Or.inl ⟨by rfl,?_⟩) hHeld ?_ ?_
              rotate_left
              · rintro w' ⟨s0,s1,s2,s3,s4⟩
                go_simp
                with_reducible rfl
              rotate_left
              · simp only [Act.put,zzB,zzC,zzD,av,aw]
                rfl
              refine bh (i:=4) (N:=some 76) (v:=?_) (a':=?_) #[true,true,true,true,true,false,true,true,true,true,true,true,true,false,false,false,false] rfl rfl (aG HT_.out (by kernel_rfl)) (fun _ _ _ h=>h) (Or.inl ⟨by rfl,?_⟩) ?_ ?_
              rotate_left
              · intro w'
                go_simp
                with_reducible rfl
              rotate_left
              · simp only [Act.put,zzB,zzC,zzD,av,aw]
                rfl
              refine take_ (i:=5) (N:=some 77) (v:=?_) (a':=?_) #[true,true,true,true,true,true,true,true,true,true,true,true,true,false,false,false,false] rfl rfl (e7 HT_.out (by kernel_rfl)) (fun _ _ _ h=>h) (Or.inl ⟨by rfl,?_⟩) hHeld ?_ ?_
              rotate_left
              · rintro w' ⟨s0,s1,s2,s3,s4⟩
                go_simp
                with_reducible rfl
              rotate_left
              · simp only [Act.put,zzB,zzC,zzD,av,aw]
                rfl
              refine ep (i:=13) (N:=some 85) #[true,true,true,true,true,true,true,true,true,true,true,true,true,true,false,false,false] rfl rfl (bE HT_.out (by kernel_rfl)) (by decide) (fun K hK=>?_)
              refine ew (w1:=wr.drew.alloc (.cells #[.int .i64 v] 3)) (v:=.slice (some ⟨wr.drew.heap.size,0,none⟩) 1 1) rfl (by first|(go_simp;done)|(go_simp;rfl)) ?_
              refine hK.out _ _ (HSF.out _ (a6 HBd1.out _)) (fun hHeld=>?_)
              clear hK K
              refine bx (a':=?_) ?_ ?_
              rotate_left
              · show Act.put _ (some 85) _=_
                simp only [Act.put,zzB,zzC,zzD,av,aw]
                rfl
              refine ep (i:=14) (N:=some 86) #[true,true,true,true,true,true,true,true,true,true,true,true,true,true,true,false,false] rfl rfl (bE HT_.out (by kernel_rfl)) (by decide) (fun K hK=>?_)
              refine gb rfl (.tmp 83) (.tmp 85) 26 rfl (.slice Ax x.length x.length) (.slice (some ⟨wr.drew.heap.size,0,none⟩) 1 1) rfl rfl HRUN.out ?_
              refine hK.out _ _ (HSF.out _ HBR1.out) (fun hHeld=>?_)
              clear hK K
              refine bx (a':=?_) ?_ ?_
              rotate_left
              · show Act.put _ (some 86) _=_
                simp only [Act.put,zzB,zzC,zzD,av,aw]
                rfl
              refine ep (i:=15) (N:=some 87) #[true,true,true,true,true,true,true,true,true,true,true,true,true,true,true,true,false] rfl rfl (bE HT_.out (by kernel_rfl)) (by decide) (fun K hK=>?_)
              refine jH Try.func43 (by kernel_rfl) rfl #[.agg #[.slice (some ad0) ds.length c0,.slice A1 rs.length c1],.agg #[.int .i64 kid.f0,.slice Akk kid.f1.length ckk],.slice A9 (x.length+1) c9] (by rfl) rfl rfl (by (try simp only [List.map_toArray,List.map_cons,List.map_nil]);first|done|rfl) ?_
              refine HCALL.out.mono ?_
              rintro e w2 ⟨rfl,hb2⟩
              refine ⟨_,rfl,?_⟩
              have HB3:=zzA (show Below wr.heap.size wr w2 from HBR1.out.trans (hb2.mono HBR1.out.size))
              clear hb2
              refine hK.out _ _ (HSF.out _ HB3.out) (fun hHeld=>?_)
              clear hK K
              refine bx (a':=?_) ?_ ?_
              rotate_left
              · show Act.put _ (some 87) _=_
                simp only [Act.put,zzB,zzC,zzD,av,aw]
                rfl
              cases kb with
              | true =>
                refine bh (i:=16) (N:=some 88) (v:=?_) (a':=?_) #[true,true,true,true,true,true,true,true,true,true,true,true,true,true,true,true,true] rfl rfl (aG HT_.out (by kernel_rfl)) (fun _ _ _ h=>h) (Or.inl ⟨by rfl,?_⟩) ?_ ?_
                rotate_left
                · intro w'
                  go_simp
                  with_reducible rfl
                rotate_left
                · simp only [Act.put,zzB,zzC,zzD,av,aw]
                  rfl
                refine gO (dm HT_.out (by kernel_rfl)) ?_
                clear hHeld HT_ hS0
                go_wp2_with (fail)
                go_roundg (d.length - (kk+1))
                case measure=>have:=HG.out;have:=HC.out;omega
                case rel =>
                  have hdm:=HDM.out;have hc:=HC.out
                  exact ⟨kk+1,by rw [jJ _ (by omega) (by omega)];rfl,⟨HC.out⟩,⟨by omega⟩,⟨fun i hi=>by
                    rcases Nat.lt_or_eq_of_le (Nat.le_of_lt_succ hi) with h|rfl
                    · exact HT.out i h
                    · rw [HKD.out,HV.out];exact HKB.out⟩,⟨HB.out.trans (HB3.out.mono HB.out.size)⟩⟩
              | false =>
                refine bh (i:=16) (N:=some 88) (v:=?_) (a':=?_) #[true,true,true,true,true,true,true,true,true,true,true,true,true,true,true,true,true] rfl rfl (aG HT_.out (by kernel_rfl)) (fun _ _ _ h=>h) (Or.inl ⟨by rfl,?_⟩) ?_ ?_
                rotate_left
                · intro w'
                  go_simp
                  with_reducible rfl
                rotate_left
                · simp only [Act.put,zzB,zzC,zzD,av,aw]
                  rfl
                refine gO (dm HT_.out (by kernel_rfl)) ?_
                clear hHeld HT_ hS0
                go_wp2_with (fail)
                go_ret
                refine ⟨?_,HBw.out.trans (HB3.out.mono HBw.out.size)⟩
                rw [show ((List.range d.length).all fun i=>rightB rs rem (aY t.f1 (i:Int)) (x ++ [rd d (i:Int)]))=false from by
                  rw [Bool.eq_false_iff]
                  intro ha
                  rw [List.all_eq_true] at ha
                  have h:=ha kk (List.mem_range.mpr HC.out)
                  rw [HKD.out,HV.out,HKB.out] at h
                  cases h]
                rfl
            · have c4b:decide ((kk:Int) < (d.length:Int))=false:=zzH (by omega)
              have c4n:decide (kk < d.length)=false:=zzH c4
              have HC:=zzA c4
              clear c4
              go_wp2_with (fail)
              go_ret
              refine ⟨?_,by repeat (first|exact HBw.out|apply a4|apply a5)⟩
              rw [List.all_eq_true.mpr (fun i hi=>HT.out i (by have:=HC.out;have:=HK.out;have:=List.mem_range.mp hi;omega))]
              rfl
        · have g3:((t.f1.length:Int) != (d.length:Int))=true:=bne_iff_ne.mpr (by omega)
          have g3b:(t.f1.length != d.length)=true:=bne_iff_ne.mpr h3
          rw [show rightB rs (d :: rem) t x=false from by show (if 0≤t.f0 then _ else _)=_;rw [if_neg h0,if_pos (.inr h3)]]
          rw [hf0]
          replace p0:=eq_true p0
          replace q0:=eq_true q0
          clear hr0 hr1 hrk hrx hcx hok h0 h1 hrem hxl hck hAx hdl hf0 hxl2 hrem2 hd hrow hl0 hc0 hx0W ih h3
          go_enter Try.func43,Try.ntmps43
          go_wp2_with (fail)
          go_quiet (fail)
          go_wp2_with (fail)
          go_ret
          exact ⟨rfl,by repeat (first|exact HB0.out|apply a4|apply a5)⟩
end DF
end Go.Proofs.Ytcbpkdemcdikaaa.X
namespace Go.Proofs.Ytcbpkdemcdikaaa.X
open Go.RowKit Go.Proofs.YtcbpkdemcdikaaaW.PrintWords Go.Proofs.YtcbpkdemcdikaaaW.PrintLast Go.Proofs.YtcbpkdemcdikaaaW.PrintMore
attribute [local go_sem] be bc bn bo aM aK bf bd   
set_option linter.unusedVariables false
set_option linter.unusedSimpArgs false
def search_right.f (ai:List (List Int)) (ah:List (S49)) (bg:Int) (aT:List (S39)) (l2:List Int):Option (Bool) :=
 if ah.all SF.okB && decide (ai.length≤1000) && decide (l2=[]) then some (DF.rightB ah ai ⟨bg,aT⟩ []) else none
theorem search_right.calls (ax:Option Addr) (ap:Nat) (ai:List (List Int)) (au:Option Addr) (am:Nat) (ah:List (S49)) (bg:Int) (cS:Option Addr) (ci:Nat) (aT:List (S39)) (A2:Option Addr) (c2:Nat) (l2:List Int) (r:Bool) (w:World) (bV:Kd.C (Kd.slice 3 (Kd.int .i64)) w ax ai.length ai) (bX:ai.length≤ap) (bP:Kd.C k49 w au ah.length ah) (bU:ah.length≤am) (fy:Kd.C k39 w cS aT.length aT) (fz:aT.length≤ci) (hr2:Kd.C (Kd.int .i64) w A2 l2.length l2) (hc2:l2.length≤c2) (h:search_right.f ai ah bg aT l2=some r) :
  Calls Try.prog 43 #[.agg #[.slice ax ai.length ap,.slice au ah.length am],.agg #[.int .i64 bg,.slice cS aT.length ci],.slice A2 l2.length c2] w fun e w'=>e=.returned (.bool r)∧Below w.heap.size w w':=by
 unfold search_right.f at h
 split at h
 ·rename_i hk
  simp only [Bool.and_eq_true,decide_eq_true_eq,List.all_eq_true] at hk
  obtain ⟨⟨h1,h2⟩,h4⟩:=hk
  subst h4
  cases h
  exact DF.right_ok ai ax ap ai au am ah cS ci ⟨bg,aT⟩ A2 c2 [] w rfl (Nat.zero_le _) bV bP fy fz hr2 hc2 (fun _=>rfl) (fun r hr=>SF.okB_R (h1 r hr)) h2
 ·cases h
def search_Accepts.f (k:Nat) (ai:List (List Int)) (ah:List (S49)) (bg:Int) (aT:List (S39)):Option (Bool × Int):=(search_Check.f k ai ah).bind fun t154=>(if t154=0 then ((search_right.f ai ah bg aT ([]:List Int)).bind fun t155=>(some (t155,0))) else (some (false,t154)))
set_option maxHeartbeats 8000000 in
set_option maxRecDepth 100000 in
theorem search_Accepts.calls (k:Nat) (ax:Option Addr) (ap:Nat) (ai:List (List Int)) (au:Option Addr) (am:Nat) (ah:List (S49)) (bg:Int) (cS:Option Addr) (ci:Nat) (aT:List (S39)) (r1:Bool) (r2:Int) (w:World) (bV:Kd.C (Kd.slice 3 (Kd.int .i64)) w ax ai.length ai) (bX:ai.length≤ap) (bP:Kd.C k49 w au ah.length ah) (bU:ah.length≤am) (fy:Kd.C k39 w cS aT.length aT) (fz:aT.length≤ci) (h:search_Accepts.f k ai ah bg aT=some (r1,r2)) :
  Calls Try.prog 22 #[.agg #[.slice ax ai.length ap,.slice au ah.length am],.agg #[.int .i64 bg,.slice cS aT.length ci]] w fun e w'=>e=.returned (.tuple #[.bool r1,.int .i64 r2])∧Below w.heap.size w w':=by
 have hu25:=Try.underlying25
 have hu39:=Try.underlying39
 have bz:=zzA bV
 have bH:=zzA bX
 clear bV bX
 have bq:=zzA bP
 have bF:=zzA bU
 clear bP bU
 have jN:=zzA fy
 have HC1_1:=zzA fz
 clear fy fz
 have HB:=zzA (Below.refl w.heap.size w)
 have H:((search_Check.f k ai ah).bind fun t154=>(if t154=0 then ((search_right.f ai ah bg aT ([]:List Int)).bind fun t155=>(some (t155,0))) else (some (false,t154))))=some (r1,r2):=h
 clear h
 replace H:=Option.bind_eq_some_iff.mp H
 obtain ⟨t154,A30,H⟩:=H
 replace H:(if t154=0 then ((search_right.f ai ah bg aT ([]:List Int)).bind fun t155=>(some (t155,0))) else (some (false,t154)))=some (r1,r2):=H
 have A3:=zzA A30
 clear A30
 by_cases c4:t154=0
 ·rw [if_pos c4] at H
  have f8:(t154 == 0)=true:=beq_iff_eq.mpr c4
  have c4b1:(t154 != 0)=false:=bne_eq_false_iff_eq.mpr c4
  clear c4
  replace H:=Option.bind_eq_some_iff.mp H
  obtain ⟨t155,A50,H⟩:=H
  replace H:(some (t155,0))=some (r1,r2):=H
  have A5:=zzA A50
  clear A50
  simp only [Option.some.injEq,Prod.mk.injEq] at H
  obtain ⟨rfl,rfl⟩:=H
  go_enter Try.func22,Try.ntmps22
  go_wp2_with (first|((with_reducible refine ay (N:=2) rfl ?_);refine aq ?hg (N:=2) ?hd (cs:=#[.slice ax ai.length ap,.slice au ah.length am]) (t:=25) ?hr ?_;(case hd=>rfl);(case hg=>rfl);(case hr=>first|(go_simp;done)|(go_simp;rfl));intro eu hg w6 hbox hb;have n0_:=zzA (ag (by repeat (first|(with_reducible first|exact HB.out|apply a6|apply a4|apply a5)|exact HB.out)) hb);have n1_:=zzA (hbox);have n2_:=zzA ((by rw [hg];exact (ae (by repeat (first|(with_reducible first|exact HB.out|apply a6|apply a4|apply a5)|exact HB.out))):w.heap.size≤eu));have n3_:=zzA ((by rw [hg];exact (ae (by repeat (first|(with_reducible first|exact HB.out|apply a6|apply a4|apply a5)|exact HB.out))):w.heap.size≤eu));clear HB;have HB:=n0_;have di:=n1_;have GW152:=n2_;have jO:=n3_;clear n0_ n1_ n2_ n3_;clear hb hbox hg)|((with_reducible refine ay (N:=3) rfl ?_);refine aq ?hg (N:=3) ?hd (cs:=#[.int .i64 bg,.slice cS aT.length ci]) (t:=39) ?hr ?_;(case hd=>rfl);(case hg=>rfl);(case hr=>first|(go_simp;done)|(go_simp;rfl));intro iP hg w7 hbox hb;have n0_:=zzA (af (g:=eu) (o:=.cells #[.slice ax ai.length ap,.slice au ah.length am] 25 (0,0)) (by (with_reducible repeat (first|refine aa ?_ _|refine ac ?_|refine a9 ?_ _));exact di.out) hb);have n1_:=zzA (ag (by repeat (first|(with_reducible first|exact HB.out|apply a6|apply a4|apply a5|refine a7 ?_ jO.out)|exact HB.out)) hb);have n2_:=zzA (hbox);have n3_:=zzA ((by rw [hg];exact (ae (by repeat (first|(with_reducible first|exact HB.out|apply a6|apply a4|apply a5|refine a7 ?_ jO.out)|exact HB.out))):w.heap.size≤iP));have n4_:=zzA ((by rw [hg];exact (ae (by repeat (first|(with_reducible first|exact HB.out|apply a6|apply a4|apply a5|refine a7 ?_ jO.out)|exact HB.out))):w.heap.size≤iP));have n5_:=zzA ((by rw [hg];exact Nat.ne_of_lt (aJ (g:=eu) (o:=.cells #[.slice ax ai.length ap,.slice au ah.length am] 25 (0,0)) (by (with_reducible repeat (first|refine aa ?_ _|refine ac ?_|refine a9 ?_ _));exact di.out)):eu ≠ iP));have n6_:=zzA ((by rw [hg];exact Nat.ne_of_gt (aJ (g:=eu) (o:=.cells #[.slice ax ai.length ap,.slice au ah.length am] 25 (0,0)) (by (with_reducible repeat (first|refine aa ?_ _|refine ac ?_|refine a9 ?_ _));exact di.out)):iP ≠ eu));clear di;clear HB;have di:=n0_;have HB:=n1_;have iQ:=n2_;have GW153:=n3_;have GE153:=n4_;have NB152_153:=n5_;have NB153_152:=n6_;clear n0_ n1_ n2_ n3_ n4_ n5_ n6_;clear hb hbox hg;have hnb8:=NB152_153.out;have hnc8:=NB153_152.out;have dS:w7.cell? ⟨eu,0,none⟩=some (.slice ax ai.length ap):=(a8 di.out 0).trans rfl;have dT:w7.cell? ⟨eu,1,none⟩=some (.slice au ah.length am):=(a8 di.out 1).trans rfl;have dU:=ab di.out 0;have dV:=ab di.out 1)|((with_reducible refine ar (f:=17) rfl ?_);refine bi (some 7) rfl rfl Try.func17 (by kernel_rfl) rfl #[.agg #[.slice ax ai.length ap,.slice au ah.length am]] rfl (by (try simp only [List.map_toArray,List.map_cons,List.map_nil]);first|done|rfl|(simp only [List.length_drop,List.length_take];rfl)) ?_;(with_reducible refine (search_Check.calls k _ _ ai _ _ ah t154 _ ?side1 ?side2 ?side3 ?side4 A3.out).mono ?_);(case side1=>repeat (first|exact (zzI bz.out HB.out)|(with_reducible refine Kd.C_alloc ?_ _)|(with_reducible refine Kd.C_drewN ?_ _)|(with_reducible refine Kd.C_drew ?_)));(case side2=>exact bH.out);(case side3=>repeat (first|exact (zzI bq.out HB.out)|(with_reducible refine Kd.C_alloc ?_ _)|(with_reducible refine Kd.C_drewN ?_ _)|(with_reducible refine Kd.C_drew ?_)));(case side4=>exact bF.out);rintro e w10 ⟨rfl,hb⟩;refine ⟨_,rfl,?_⟩;have n0_:=zzA (af (g:=eu) (o:=.cells #[.slice ax ai.length ap,.slice au ah.length am] 25 (0,0)) (by (with_reducible repeat (first|refine aa ?_ _|refine ac ?_|refine a9 ?_ _));exact di.out) hb);have n1_:=zzA (af (g:=iP) (o:=.cells #[.int .i64 bg,.slice cS aT.length ci] 39 (0,0)) (by (with_reducible repeat (first|refine aa ?_ _|refine ac ?_|refine a9 ?_ _));exact iQ.out) hb);have n2_:=zzA (ag (by repeat (first|(with_reducible first|exact HB.out|apply a6|apply a4|apply a5|refine a7 ?_ jO.out|refine a7 ?_ GE153.out)|exact HB.out)) hb);clear di;clear iQ;clear HB;have di:=n0_;have iQ:=n1_;have HB:=n2_;clear n0_ n1_ n2_;(try clear hb);(try clear hb2);(try clear hk);(try clear hi);have cJ:w10.cell? ⟨eu,0,none⟩=some (.slice ax ai.length ap):=(a8 di.out 0).trans rfl;have cK:w10.cell? ⟨eu,1,none⟩=some (.slice au ah.length am):=(a8 di.out 1).trans rfl;have cL:=ab di.out 0;have cM:=ab di.out 1;have dd:w10.cell? ⟨iP,0,none⟩=some (.int .i64 bg):=(a8 iQ.out 0).trans rfl;have de:w10.cell? ⟨iP,1,none⟩=some (.slice cS aT.length ci):=(a8 iQ.out 1).trans rfl;have df:=ab iQ.out 0;have dg:=ab iQ.out 1)|((with_reducible refine ar (f:=43) rfl ?_);refine bi (some 13) rfl rfl Try.func43 (by kernel_rfl) rfl #[.agg #[.slice ax ai.length ap,.slice au ah.length am],.agg #[.int .i64 bg,.slice cS aT.length ci],.slice none 0 0] rfl (by (try simp only [List.map_toArray,List.map_cons,List.map_nil]);first|done|rfl|(simp only [List.length_drop,List.length_take];rfl)) ?_;(refine (search_right.calls _ _ ai _ _ ah bg _ _ aT _ _ ([]:List Int) t155 _ ?side1 ?side2 ?side3 ?side4 ?side5 ?side6 ?side7 ?side8 A5.out).mono ?_);(case side1=>repeat (first|exact (zzI bz.out HB.out)|(with_reducible refine Kd.C_alloc ?_ _)|(with_reducible refine Kd.C_drewN ?_ _)|(with_reducible refine Kd.C_drew ?_)));(case side2=>exact bH.out);(case side3=>repeat (first|exact (zzI bq.out HB.out)|(with_reducible refine Kd.C_alloc ?_ _)|(with_reducible refine Kd.C_drewN ?_ _)|(with_reducible refine Kd.C_drew ?_)));(case side4=>exact bF.out);(case side5=>repeat (first|exact (zzI jN.out HB.out)|(with_reducible refine Kd.C_alloc ?_ _)|(with_reducible refine Kd.C_drewN ?_ _)|(with_reducible refine Kd.C_drew ?_)));(case side6=>exact HC1_1.out);(case side7=>exact Kd.C_nil _ _);(case side8=>exact Nat.le_refl _);rintro e w13 ⟨rfl,hb⟩;refine ⟨_,rfl,?_⟩;have n0_:=zzA (af (g:=eu) (o:=.cells #[.slice ax ai.length ap,.slice au ah.length am] 25 (0,0)) (by (with_reducible repeat (first|refine aa ?_ _|refine ac ?_|refine a9 ?_ _));exact di.out) hb);have n1_:=zzA (af (g:=iP) (o:=.cells #[.int .i64 bg,.slice cS aT.length ci] 39 (0,0)) (by (with_reducible repeat (first|refine aa ?_ _|refine ac ?_|refine a9 ?_ _));exact iQ.out) hb);have n2_:=zzA (ag (by repeat (first|(with_reducible first|exact HB.out|apply a6|apply a4|apply a5|refine a7 ?_ jO.out|refine a7 ?_ GE153.out)|exact HB.out)) hb);clear di;clear iQ;clear HB;have di:=n0_;have iQ:=n1_;have HB:=n2_;clear n0_ n1_ n2_;(try clear hb);(try clear hb2);(try clear hk);(try clear hi)))
  go_ret2
  exact ⟨by first|rfl|(simp [ak,al] <;> rfl)|(simp [*,ak,al] <;> rfl),by repeat (first|(with_reducible first|exact HB.out|apply a6|apply a4|apply a5|refine a7 ?_ jO.out|refine a7 ?_ GE153.out)|exact HB.out)⟩
 ·rw [if_neg c4] at H
  have f8:(t154 == 0)=false:=beq_eq_false_iff_ne.mpr c4
  have c4b1:(t154 != 0)=true:=bne_iff_ne.mpr c4
  simp only [Option.some.injEq,Prod.mk.injEq] at H
  obtain ⟨rfl,rfl⟩:=H
  go_enter Try.func22,Try.ntmps22
  go_wp2_with (first|((with_reducible refine ay (N:=2) rfl ?_);refine aq ?hg (N:=2) ?hd (cs:=#[.slice ax ai.length ap,.slice au ah.length am]) (t:=25) ?hr ?_;(case hd=>rfl);(case hg=>rfl);(case hr=>first|(go_simp;done)|(go_simp;rfl));intro eu hg w14 hbox hb;have n0_:=zzA (ag (by repeat (first|(with_reducible first|exact HB.out|apply a6|apply a4|apply a5)|exact HB.out)) hb);have n1_:=zzA (hbox);have n2_:=zzA ((by rw [hg];exact (ae (by repeat (first|(with_reducible first|exact HB.out|apply a6|apply a4|apply a5)|exact HB.out))):w.heap.size≤eu));have n3_:=zzA ((by rw [hg];exact (ae (by repeat (first|(with_reducible first|exact HB.out|apply a6|apply a4|apply a5)|exact HB.out))):w.heap.size≤eu));clear HB;have HB:=n0_;have di:=n1_;have GW152:=n2_;have jO:=n3_;clear n0_ n1_ n2_ n3_;clear hb hbox hg)|((with_reducible refine ay (N:=3) rfl ?_);refine aq ?hg (N:=3) ?hd (cs:=#[.int .i64 bg,.slice cS aT.length ci]) (t:=39) ?hr ?_;(case hd=>rfl);(case hg=>rfl);(case hr=>first|(go_simp;done)|(go_simp;rfl));intro iP hg w15 hbox hb;have n0_:=zzA (af (g:=eu) (o:=.cells #[.slice ax ai.length ap,.slice au ah.length am] 25 (0,0)) (by (with_reducible repeat (first|refine aa ?_ _|refine ac ?_|refine a9 ?_ _));exact di.out) hb);have n1_:=zzA (ag (by repeat (first|(with_reducible first|exact HB.out|apply a6|apply a4|apply a5|refine a7 ?_ jO.out)|exact HB.out)) hb);have n2_:=zzA (hbox);have n3_:=zzA ((by rw [hg];exact (ae (by repeat (first|(with_reducible first|exact HB.out|apply a6|apply a4|apply a5|refine a7 ?_ jO.out)|exact HB.out))):w.heap.size≤iP));have n4_:=zzA ((by rw [hg];exact (ae (by repeat (first|(with_reducible first|exact HB.out|apply a6|apply a4|apply a5|refine a7 ?_ jO.out)|exact HB.out))):w.heap.size≤iP));have n5_:=zzA ((by rw [hg];exact Nat.ne_of_lt (aJ (g:=eu) (o:=.cells #[.slice ax ai.length ap,.slice au ah.length am] 25 (0,0)) (by (with_reducible repeat (first|refine aa ?_ _|refine ac ?_|refine a9 ?_ _));exact di.out)):eu ≠ iP));have n6_:=zzA ((by rw [hg];exact Nat.ne_of_gt (aJ (g:=eu) (o:=.cells #[.slice ax ai.length ap,.slice au ah.length am] 25 (0,0)) (by (with_reducible repeat (first|refine aa ?_ _|refine ac ?_|refine a9 ?_ _));exact di.out)):iP ≠ eu));clear di;clear HB;have di:=n0_;have HB:=n1_;have iQ:=n2_;have GW153:=n3_;have GE153:=n4_;have NB152_153:=n5_;have NB153_152:=n6_;clear n0_ n1_ n2_ n3_ n4_ n5_ n6_;clear hb hbox hg;have hnb16:=NB152_153.out;have hnc16:=NB153_152.out;have fG:w15.cell? ⟨eu,0,none⟩=some (.slice ax ai.length ap):=(a8 di.out 0).trans rfl;have fH:w15.cell? ⟨eu,1,none⟩=some (.slice au ah.length am):=(a8 di.out 1).trans rfl;have fJ:=ab di.out 0;have fK:=ab di.out 1)|((with_reducible refine ar (f:=17) rfl ?_);refine bi (some 7) rfl rfl Try.func17 (by kernel_rfl) rfl #[.agg #[.slice ax ai.length ap,.slice au ah.length am]] rfl (by (try simp only [List.map_toArray,List.map_cons,List.map_nil]);first|done|rfl|(simp only [List.length_drop,List.length_take];rfl)) ?_;(with_reducible refine (search_Check.calls k _ _ ai _ _ ah t154 _ ?side1 ?side2 ?side3 ?side4 A3.out).mono ?_);(case side1=>repeat (first|exact (zzI bz.out HB.out)|(with_reducible refine Kd.C_alloc ?_ _)|(with_reducible refine Kd.C_drewN ?_ _)|(with_reducible refine Kd.C_drew ?_)));(case side2=>exact bH.out);(case side3=>repeat (first|exact (zzI bq.out HB.out)|(with_reducible refine Kd.C_alloc ?_ _)|(with_reducible refine Kd.C_drewN ?_ _)|(with_reducible refine Kd.C_drew ?_)));(case side4=>exact bF.out);rintro e w18 ⟨rfl,hb⟩;refine ⟨_,rfl,?_⟩;have n0_:=zzA (af (g:=eu) (o:=.cells #[.slice ax ai.length ap,.slice au ah.length am] 25 (0,0)) (by (with_reducible repeat (first|refine aa ?_ _|refine ac ?_|refine a9 ?_ _));exact di.out) hb);have n1_:=zzA (af (g:=iP) (o:=.cells #[.int .i64 bg,.slice cS aT.length ci] 39 (0,0)) (by (with_reducible repeat (first|refine aa ?_ _|refine ac ?_|refine a9 ?_ _));exact iQ.out) hb);have n2_:=zzA (ag (by repeat (first|(with_reducible first|exact HB.out|apply a6|apply a4|apply a5|refine a7 ?_ jO.out|refine a7 ?_ GE153.out)|exact HB.out)) hb);clear di;clear iQ;clear HB;have di:=n0_;have iQ:=n1_;have HB:=n2_;clear n0_ n1_ n2_;(try clear hb);(try clear hb2);(try clear hk);(try clear hi)))
  go_ret2
  exact ⟨by first|rfl|(simp [ak,al] <;> rfl)|(simp [*,ak,al] <;> rfl),by repeat (first|(with_reducible first|exact HB.out|apply a6|apply a4|apply a5|refine a7 ?_ jO.out|refine a7 ?_ GE153.out)|exact HB.out)⟩
mutual
def fastiref15_Same.j0:Nat→Bool→Int→List (S39)→Int→List (S39)→Option (Bool)
 | 0,_,_,_,_,_=>none
 | k+1,x19,x157000,jr,x158000,js=>if x19=true then (some false) else (fastiref15_Same.l0 k 0 x157000 jr x158000 js)
def fastiref15_Same.l0:Nat→Int→Int→List (S39)→Int→List (S39)→Option (Bool)
 | 0,_,_,_,_,_=>none
 | k+1,x5,x157000,jr,x158000,js=>if x5 < (jr.length:Int) then (if 0≤x5 then (if x5 < (js.length:Int) then ((fastiref15_Same.f k ((aY jr x5).f0) ((aY jr x5).f1) ((aY js x5).f0) ((aY js x5).f1)).bind fun t160=>(if t160=true then (fastiref15_Same.l0 k (wrap64 (x5+1)) x157000 jr x158000 js) else (some false))) else (none)) else (none)) else (some true)
def fastiref15_Same.f:Nat→Int→List (S39)→Int→List (S39)→Option (Bool)
 | 0,_,_,_,_=>none
 | k+1,bB,ah,bg,aT=>if bB=bg then (fastiref15_Same.j0 k ((ah.length:Int) != (aT.length:Int)) bB ah bg aT) else (fastiref15_Same.j0 k true bB ah bg aT)
end
def fastiref15_Same.T6:Bool × List (List Nat × List Nat):=(true,[([],[]),([0],[0]),([],[]),([1,2],[1,2]),([3],[3]),([],[]),([5],[5]),([],[]),([6,7],[6,7]),([8],[8]),([4,9],[4,9]),([10],[10])])
def fastiref15_Same.B6:List Nat:=[0,1,0,7,15,0,32,0,224,480,1023,2047]
theorem fastiref15_Same.tab6:fU .any (gP Try.f24 6)=fastiref15_Same.T6:=by kernel_rfl
theorem fastiref15_Same.bits6:fC fastiref15_Same.T6.2 fastiref15_Same.B6=true:=by kernel_rfl
set_option maxHeartbeats 8000000 in
set_option maxRecDepth 100000 in
theorem fastiref15_Same.calls (k:Nat):∀ (bB:Int) (au:Option Addr) (am:Nat) (ah:List (S39)) (bg:Int) (cS:Option Addr) (ci:Nat) (aT:List (S39)) (r:Bool) (w:World) (bP:Kd.C k39 w au ah.length ah) (bU:ah.length≤am) (fy:Kd.C k39 w cS aT.length aT) (fz:aT.length≤ci) (h:fastiref15_Same.f k bB ah bg aT=some r),
  Calls Try.prog 24 #[.agg #[.int .i64 bB,.slice au ah.length am],.agg #[.int .i64 bg,.slice cS aT.length ci]] w fun e w'=>e=.returned (.bool r)∧Below w.heap.size w w':=by
 induction k using Nat.strongRecOn with
 | _ k ih =>
 intro bB au am ah bg cS ci aT r w bP bU fy fz h
 cases k with
 | zero=>exact absurd h (by simp [fastiref15_Same.f])
 | succ k =>
 simp only [fastiref15_Same.f] at h
 have hu39:=Try.underlying39
 have bq:=zzA bP
 have bF:=zzA bU
 clear bP bU
 have jN:=zzA fy
 have HC1_1:=zzA fz
 clear fy fz
 have HB:=zzA (Below.refl w.heap.size w)
 have H:(if bB=bg then (fastiref15_Same.j0 k ((ah.length:Int) != (aT.length:Int)) bB ah bg aT) else (fastiref15_Same.j0 k true bB ah bg aT))=some r:=h
 clear h
 have HC3:=zzA H
 clear H
 go_enter Try.func24,Try.ntmps24
 go_upto_region 1 with (first|((with_reducible refine ay (N:=2) rfl ?_);(try (refine aI (by rfl) ?_;dsimp only));refine aq ?hg (N:=2) ?hd (cs:=#[.int .i64 bB,.slice au ah.length am]) (t:=39) ?hr ?_;(case hd=>rfl);(case hg=>rfl);(case hr=>first|(go_simp;done)|(go_simp;rfl));intro en hg w4 hbox hb;have n0_:=zzA (ag (by repeat (first|(with_reducible first|exact HB.out|apply a6|apply a4|apply a5)|exact HB.out)) hb);have n1_:=zzA (hbox);have n2_:=zzA ((by rw [hg];exact (ae (by repeat (first|(with_reducible first|exact HB.out|apply a6|apply a4|apply a5)|exact HB.out))):w.heap.size≤en));have n3_:=zzA ((by rw [hg];exact (ae (by repeat (first|(with_reducible first|exact HB.out|apply a6|apply a4|apply a5)|exact HB.out))):w.heap.size≤en));clear HB;have HB:=n0_;have cw:=n1_;have GW156:=n2_;have jP:=n3_;clear n0_ n1_ n2_ n3_;clear hb hbox hg)|((with_reducible refine ay (N:=3) rfl ?_);(try (refine aI (by rfl) ?_;dsimp only));refine aq ?hg (N:=3) ?hd (cs:=#[.int .i64 bg,.slice cS aT.length ci]) (t:=39) ?hr ?_;(case hd=>rfl);(case hg=>rfl);(case hr=>first|(go_simp;done)|(go_simp;rfl));intro gC hg w5 hbox hb;have n0_:=zzA (af (g:=en) (o:=.cells #[.int .i64 bB,.slice au ah.length am] 39 (0,0)) (by (with_reducible repeat (first|refine aa ?_ _|refine ac ?_|refine a9 ?_ _));exact cw.out) hb);have n1_:=zzA (ag (by repeat (first|(with_reducible first|exact HB.out|apply a6|apply a4|apply a5|refine a7 ?_ jP.out)|exact HB.out)) hb);have n2_:=zzA (hbox);have n3_:=zzA ((by rw [hg];exact (ae (by repeat (first|(with_reducible first|exact HB.out|apply a6|apply a4|apply a5|refine a7 ?_ jP.out)|exact HB.out))):w.heap.size≤gC));have n4_:=zzA ((by rw [hg];exact (ae (by repeat (first|(with_reducible first|exact HB.out|apply a6|apply a4|apply a5|refine a7 ?_ jP.out)|exact HB.out))):w.heap.size≤gC));have n5_:=zzA ((by rw [hg];exact Nat.ne_of_lt (aJ (g:=en) (o:=.cells #[.int .i64 bB,.slice au ah.length am] 39 (0,0)) (by (with_reducible repeat (first|refine aa ?_ _|refine ac ?_|refine a9 ?_ _));exact cw.out)):en ≠ gC));have n6_:=zzA ((by rw [hg];exact Nat.ne_of_gt (aJ (g:=en) (o:=.cells #[.int .i64 bB,.slice au ah.length am] 39 (0,0)) (by (with_reducible repeat (first|refine aa ?_ _|refine ac ?_|refine a9 ?_ _));exact cw.out)):gC ≠ en));clear cw;clear HB;have cw:=n0_;have HB:=n1_;have cW:=n2_;have GW157:=n3_;have GE157:=n4_;have NB156_157:=n5_;have NB157_156:=n6_;clear n0_ n1_ n2_ n3_ n4_ n5_ n6_;clear hb hbox hg))
 (try simp only [Act.put,zzB,zzC,zzD])
 go_cut [19] (fun v19 wc=>∃ (kq:Nat) (x19_2:Bool),v19=.bool x19_2∧Aside0 (fastiref15_Same.j0 kq x19_2 bB ah bg aT=some r)∧Aside0 (kq≤k)∧Aside0 (wc.heap[en]?=some (.cells #[.int .i64 bB,(.slice au ah.length am)] 39 (0,0)))∧Aside0 (wc.heap[gC]?=some (.cells #[.int .i64 bg,(.slice cS aT.length ci)] 39 (0,0)))∧Aside0 (Below w.heap.size w wc))
 case first =>
  have H:=HC3.out
  clear HC3
  by_cases c6:bB=bg
  ·rw [if_pos c6] at H
   have c6b0:(bB == bg)=true:=beq_iff_eq.mpr c6
   have c6b1:(bB != bg)=false:=bne_eq_false_iff_eq.mpr c6
   clear c6
   (first|rw [c6b0]|(simp only [av,aw];rw [c6b0])|skip)
   have H':=zzA H
   clear H
   have hnb7:=NB156_157.out
   have hnc7:=NB157_156.out
   have eD:w5.cell? ⟨en,0,none⟩=some (.int .i64 bB):=(a8 cw.out 0).trans rfl
   have eE:w5.cell? ⟨en,1,none⟩=some (.slice au ah.length am):=(a8 cw.out 1).trans rfl
   have eF:=ab cw.out 0
   have eG:=ab cw.out 1
   have dS:w5.cell? ⟨gC,0,none⟩=some (.int .i64 bg):=(a8 cW.out 0).trans rfl
   have dT:w5.cell? ⟨gC,1,none⟩=some (.slice cS aT.length ci):=(a8 cW.out 1).trans rfl
   have dU:=ab cW.out 0
   have dV:=ab cW.out 1
   go_wp2
   go_meet
   case rel=>exact ⟨_,(((ah.length:Int) != (aT.length:Int))),(by first|rfl|(simp;done)|(simp [*];done)),H',⟨by first|omega|exact Nat.le_refl _⟩,⟨by (with_reducible repeat (first|refine aa ?_ _|refine ac ?_|refine a9 ?_ _));exact cw.out⟩,⟨by (with_reducible repeat (first|refine aa ?_ _|refine ac ?_|refine a9 ?_ _));exact cW.out⟩,⟨by repeat (first|(with_reducible first|exact HB.out|apply a6|apply a4|apply a5|refine a7 ?_ jP.out|refine a7 ?_ GE157.out)|exact HB.out)⟩⟩
  ·rw [if_neg c6] at H
   have c6b0:(bB == bg)=false:=beq_eq_false_iff_ne.mpr c6
   have c6b1:(bB != bg)=true:=bne_iff_ne.mpr c6
   (first|rw [c6b0]|(simp only [av,aw];rw [c6b0])|skip)
   have H':=zzA H
   clear H
   have hnb10:=NB156_157.out
   have hnc10:=NB157_156.out
   have cJ:w5.cell? ⟨en,0,none⟩=some (.int .i64 bB):=(a8 cw.out 0).trans rfl
   have cK:w5.cell? ⟨en,1,none⟩=some (.slice au ah.length am):=(a8 cw.out 1).trans rfl
   have cL:=ab cw.out 0
   have cM:=ab cw.out 1
   have dd:w5.cell? ⟨gC,0,none⟩=some (.int .i64 bg):=(a8 cW.out 0).trans rfl
   have de:w5.cell? ⟨gC,1,none⟩=some (.slice cS aT.length ci):=(a8 cW.out 1).trans rfl
   have df:=ab cW.out 0
   have dg:=ab cW.out 1
   go_wp2
   go_meet
   case rel=>exact ⟨_,(true),(by first|rfl|(simp;done)|(simp [*];done)),H',⟨by first|omega|exact Nat.le_refl _⟩,⟨by (with_reducible repeat (first|refine aa ?_ _|refine ac ?_|refine a9 ?_ _));exact cw.out⟩,⟨by (with_reducible repeat (first|refine aa ?_ _|refine ac ?_|refine a9 ?_ _));exact cW.out⟩,⟨by repeat (first|(with_reducible first|exact HB.out|apply a6|apply a4|apply a5|refine a7 ?_ jP.out|refine a7 ?_ GE157.out)|exact HB.out)⟩⟩
 case rest =>
  clear HC3
  try clear c1;try clear c2;try clear p2;try clear c6;try clear c6b0;try clear c6b1;try clear c7;try clear c10;try clear cJ;try clear cK;try clear dd;try clear de;try clear eD;try clear eE;try clear dS;try clear dT;try clear cL;try clear cM;try clear df;try clear dg;try clear eF;try clear eG;try clear dU;try clear dV
  obtain ⟨kq,x19_2,rfl,HA,HJ2,cw,cW,HB⟩:=hcut
  cases kq with
  | zero=>exact absurd HA.out (by simp [fastiref15_Same.j0])
  | succ kj2 =>
   have H:=HA.out
   clear HA
   simp only [fastiref15_Same.j0] at H
   by_cases c13:x19_2=true
   ·subst c13
    have H1:(some false)=some r:=by rw [if_pos rfl] at H;exact H
    clear H
    have H:=H1
    clear H1
    obtain rfl:=Option.some.inj H
    go_wp2
    go_ret
    exact ⟨by first|rfl|(simp [ak,al] <;> rfl)|(simp [*,ak,al] <;> rfl),by repeat (first|(with_reducible first|exact HB.out|apply a6|apply a4|apply a5|refine a7 ?_ jP.out|refine a7 ?_ GE157.out)|exact HB.out)⟩
   ·replace c13:=Bool.eq_false_iff.mpr c13
    subst c13
    have H1:(fastiref15_Same.l0 kj2 0 bB ah bg aT)=some r:=by rw [if_neg (show ¬ (false=true) by decide)] at H;exact H
    clear H
    have H:=H1
    clear H1
    have H':=zzA H
    clear H
    go_wp2
    go_loopg [5] kj2 (fun kq v5 w'=>∃ (x5_2:Int),v5=.int .i64 x5_2∧Aside0 (fastiref15_Same.l0 kq x5_2 bB ah bg aT=some r)∧Aside0 (kq≤kj2)∧Aside0 (w'.heap[en]?=some (.cells #[.int .i64 bB,(.slice au ah.length am)] 39 (0,0)))∧Aside0 (w'.heap[gC]?=some (.cells #[.int .i64 bg,(.slice cS aT.length ci)] 39 (0,0)))∧Aside0 (Below w.heap.size w w'))
    case atStart=>exact ⟨(0),(by first|rfl|(simp;done)|(simp [*];done)),H',⟨Nat.le_refl _⟩,⟨by (with_reducible repeat (first|refine aa ?_ _|refine ac ?_|refine a9 ?_ _));exact cw.out⟩,⟨by (with_reducible repeat (first|refine aa ?_ _|refine ac ?_|refine a9 ?_ _));exact cW.out⟩,⟨by repeat (first|(with_reducible first|exact HB.out|apply a6|apply a4|apply a5|refine a7 ?_ jP.out|refine a7 ?_ GE157.out)|exact HB.out)⟩⟩
    case round =>
     clear H'
     try clear c1;try clear c2;try clear p2;try clear c6;try clear c6b0;try clear c6b1;try clear c7;try clear c10;try clear c13;try clear cJ;try clear cK;try clear dd;try clear de;try clear eD;try clear eE;try clear dS;try clear dT;try clear cL;try clear cM;try clear df;try clear dg;try clear eF;try clear eG;try clear dU;try clear dV
     obtain ⟨x5_2,rfl,HA,HK2,cw,cW,HB⟩:=hrel
     cases gk with
     | zero=>exact absurd HA.out (by simp [fastiref15_Same.l0])
     | succ k2 =>
      have H:=HA.out
      clear HA
      simp only [fastiref15_Same.l0] at H
      by_cases c14:x5_2 < (ah.length:Int)
      ·rw [if_pos c14] at H
       have c14b0:decide (x5_2 < (ah.length:Int))=true:=zzG c14
       clear c14
       by_cases c15:0≤x5_2
       ·rw [if_pos c15] at H
        have c15b0:decide (0≤x5_2)=true:=zzG c15
        clear c15
        by_cases c16:x5_2 < (aT.length:Int)
        ·rw [if_pos c16] at H
         have c16b0:decide (x5_2 < (aT.length:Int))=true:=zzG c16
         clear c16
         replace H:=Option.bind_eq_some_iff.mp H
         obtain ⟨t160,A170,H⟩:=H
         replace H:(if t160=true then (fastiref15_Same.l0 k2 (wrap64 (x5_2+1)) bB ah bg aT) else (some false))=some r:=H
         have A17:=zzA A170
         clear A170
         by_cases c18:t160=true
         ·subst c18
          have H1:(fastiref15_Same.l0 k2 (wrap64 (x5_2+1)) bB ah bg aT)=some r:=by rw [if_pos rfl] at H;exact H
          clear H
          have H:=H1
          clear H1
          have H':=zzA H
          clear H
          have hnb19:=NB156_157.out
          have hnc19:=NB157_156.out
          have j8:wr.cell? ⟨en,0,none⟩=some (.int .i64 bB):=(a8 cw.out 0).trans rfl
          have j9:wr.cell? ⟨en,1,none⟩=some (.slice au ah.length am):=(a8 cw.out 1).trans rfl
          have ja:=ab cw.out 0
          have jb:=ab cw.out 1
          try go_wp2
          have n0_:=zzA (ac cw.out)
          have n1_:=zzA (ac cW.out)
          have n2_:=zzA (a5 HB.out)
          clear cw
          clear cW
          clear HB
          have cw:=n0_
          have cW:=n1_
          have HB:=n2_
          clear n0_ n1_ n2_
          have p158:0≤(x5_2:Int):=zzF (by first|(with_reducible assumption)|assumption)
          have q158:x5_2 < (ah.length:Int):=zzF (by first|(with_reducible assumption)|assumption)
          obtain ⟨ad158,A158_1,c158_1,e158,eT,eU,lG,lH⟩:=kg bq.out x5_2 p158 q158
          have fQ:=eU
          have fR:=eT
          cases e158
          replace eT:=(HB.out.cell (zzE w _ eT)).trans eT
          replace eU:=(HB.out.cell (zzE w _ eU)).trans eU
          have lI:=zzA lH
          have HC158_1:=zzA lG
          clear lH lG
          replace p158:=eq_true p158
          replace q158:=eq_true q158
          have p159:0≤(x5_2:Int):=zzF (by first|(with_reducible assumption)|assumption)
          have q159:x5_2 < (aT.length:Int):=zzF (by first|(with_reducible assumption)|assumption)
          obtain ⟨ad159,A159_1,c159_1,e159,eV,eW,lJ,lK⟩:=kg jN.out x5_2 p159 q159
          have fS:=eW
          have fT:=eV
          cases e159
          replace eV:=(HB.out.cell (zzE w _ eV)).trans eV
          replace eW:=(HB.out.cell (zzE w _ eW)).trans eW
          have lL:=zzA lK
          have HC159_1:=zzA lJ
          clear lK lJ
          replace p159:=eq_true p159
          replace q159:=eq_true q159
          refine ff (n:=12) (S:=fun w'=>w'.cell? ⟨en,0,none⟩=some (.int .i64 bB)∧w'.cell? ⟨en,1,none⟩=some (.slice (some ad158) ah.length am)∧w'.cell? ⟨gC,0,none⟩=some (.int .i64 bg)∧w'.cell? ⟨gC,1,none⟩=some (.slice (some ad159) aT.length ci)∧w'.cell? (ad158.add ((x5_2).toNat * 2))=some (.int .i64 ((aY ah x5_2).f0))∧w'.cell? ⟨(ad158.add ((x5_2).toNat * 2)).block,(ad158.add ((x5_2).toNat * 2)).off+1,none⟩=some (.slice A158_1 ((aY ah x5_2).f1).length c158_1)∧w'.cell? (ad159.add ((x5_2).toNat * 2))=some (.int .i64 ((aY aT x5_2).f0))∧w'.cell? ⟨(ad159.add ((x5_2).toNat * 2)).block,(ad159.add ((x5_2).toNat * 2)).off+1,none⟩=some (.slice A159_1 ((aY aT x5_2).f1).length c159_1)) (ds:=[]) #[false,false,false,false,false,false,false,false,false,false,false,false] (by kernel_rfl) rfl rfl ⟨(a8 cw.out 0).trans rfl,(a8 cw.out 1).trans rfl,(a8 cW.out 0).trans rfl,(a8 cW.out 1).trans rfl,((HB.out.cell (zzE w _ fR)).trans fR),((HB.out.cell (zzE w _ fQ)).trans fQ),((HB.out.cell (zzE w _ fT)).trans fT),((HB.out.cell (zzE w _ fS)).trans fS)⟩ (fun hHeld=>?_);refine dy fastiref15_Same.tab6 fastiref15_Same.bits6 (fun HT_ HW_=>?_)
          generalize wr.drew=w21 at cw cW HB lI lL eT eU eV eW hHeld ⊢
          refine bh (i:=0) (N:=some 27) (v:=?_) (a':=?_) #[true,false,false,false,false,false,false,false,false,false,false,false] rfl rfl (aG HT_.out (by kernel_rfl)) (fun _ _ _ h=>h) (Or.inl ⟨by rfl,?_⟩) ?_ ?_
          rotate_left
          ·intro w'
           go_simp
           with_reducible rfl
          rotate_left
          ·simp only [Act.put,zzB,zzC,zzD,av,aw]
           rfl
          refine bh (i:=2) (N:=some 29) (v:=?_) (a':=?_) #[true,false,true,false,false,false,false,false,false,false,false,false] rfl rfl (aG HT_.out (by kernel_rfl)) (fun _ _ _ h=>h) (Or.inl ⟨by rfl,?_⟩) ?_ ?_
          rotate_left
          ·intro w'
           go_simp
           with_reducible rfl
          rotate_left
          ·simp only [Act.put,zzB,zzC,zzD,av,aw]
           rfl
          refine bh (i:=5) (N:=some 32) (v:=?_) (a':=?_) #[true,false,true,false,false,true,false,false,false,false,false,false] rfl rfl (aG HT_.out (by kernel_rfl)) (fun _ _ _ h=>h) (Or.inl ⟨by rfl,?_⟩) ?_ ?_
          rotate_left
          ·intro w'
           go_simp
           with_reducible rfl
          rotate_left
          ·simp only [Act.put,zzB,zzC,zzD,av,aw]
           rfl
          refine bh (i:=7) (N:=some 34) (v:=?_) (a':=?_) #[true,false,true,false,false,true,false,true,false,false,false,false] rfl rfl (aG HT_.out (by kernel_rfl)) (fun _ _ _ h=>h) (Or.inl ⟨by rfl,?_⟩) ?_ ?_
          rotate_left
          ·intro w'
           go_simp
           with_reducible rfl
          rotate_left
          ·simp only [Act.put,zzB,zzC,zzD,av,aw]
           rfl
          refine take_ (i:=1) (N:=some 28) (v:=?_) (a':=?_) #[true,true,true,false,false,true,false,true,false,false,false,false] rfl rfl (bI HT_.out HW_.out (by kernel_rfl)) (fun _ _ _ h=>h) (Or.inl ⟨by rfl,?_⟩) hHeld ?_ ?_
          rotate_left
          ·rintro w' ⟨s0,s1,s2,s3,s4,s5,s6,s7⟩
           go_simp
           with_reducible rfl
          rotate_left
          ·simp only [Act.put,zzB,zzC,zzD,av,aw]
           rfl
          refine bh (i:=3) (N:=some 30) (v:=?_) (a':=?_) #[true,true,true,true,false,true,false,true,false,false,false,false] rfl rfl (aG HT_.out (by kernel_rfl)) (fun _ _ _ h=>h) (Or.inl ⟨by rfl,?_⟩) ?_ ?_
          rotate_left
          ·intro w'
           go_simp
           with_reducible rfl
          rotate_left
          ·simp only [Act.put,zzB,zzC,zzD,av,aw]
           rfl
          refine take_ (i:=4) (N:=some 31) (v:=?_) (a':=?_) #[true,true,true,true,true,true,false,true,false,false,false,false] rfl rfl (bI HT_.out HW_.out (by kernel_rfl)) (fun _ _ _ h=>h) (Or.inl ⟨by rfl,?_⟩) hHeld ?_ ?_
          rotate_left
          ·rintro w' ⟨s0,s1,s2,s3,s4,s5,s6,s7⟩
           go_simp
           with_reducible rfl
          rotate_left
          ·simp only [Act.put,zzB,zzC,zzD,av,aw]
           rfl
          refine take_ (i:=6) (N:=some 33) (v:=?_) (a':=?_) #[true,true,true,true,true,true,true,true,false,false,false,false] rfl rfl (bI HT_.out HW_.out (by kernel_rfl)) (fun _ _ _ h=>h) (Or.inl ⟨by rfl,?_⟩) hHeld ?_ ?_
          rotate_left
          ·rintro w' ⟨s0,s1,s2,s3,s4,s5,s6,s7⟩
           go_simp
           with_reducible rfl
          rotate_left
          ·simp only [Act.put,zzB,zzC,zzD,av,aw]
           rfl
          refine bh (i:=8) (N:=some 35) (v:=?_) (a':=?_) #[true,true,true,true,true,true,true,true,true,false,false,false] rfl rfl (aG HT_.out (by kernel_rfl)) (fun _ _ _ h=>h) (Or.inl ⟨by rfl,?_⟩) ?_ ?_
          rotate_left
          ·intro w'
           go_simp
           with_reducible rfl
          rotate_left
          ·simp only [Act.put,zzB,zzC,zzD,av,aw]
           rfl
          refine take_ (i:=9) (N:=some 36) (v:=?_) (a':=?_) #[true,true,true,true,true,true,true,true,true,true,false,false] rfl rfl (bI HT_.out HW_.out (by kernel_rfl)) (fun _ _ _ h=>h) (Or.inl ⟨by rfl,?_⟩) hHeld ?_ ?_
          rotate_left
          ·rintro w' ⟨s0,s1,s2,s3,s4,s5,s6,s7⟩
           go_simp
           with_reducible rfl
          rotate_left
          ·simp only [Act.put,zzB,zzC,zzD,av,aw]
           rfl
          refine ep (i:=10) (N:=some 37) #[true,true,true,true,true,true,true,true,true,true,true,false] rfl rfl (bE HT_.out (by kernel_rfl)) (by decide) (fun K hK=>?_)
          refine jH Try.func24 (by kernel_rfl) rfl #[.agg #[.int .i64 ((aY ah x5_2).f0),.slice A158_1 ((aY ah x5_2).f1).length c158_1],.agg #[.int .i64 ((aY aT x5_2).f0),.slice A159_1 ((aY aT x5_2).f1).length c159_1]] (by rfl) rfl rfl (by (try simp only [List.map_toArray,List.map_cons,List.map_nil]);first|done|rfl|(simp only [List.length_drop,List.length_take];rfl)) ?_
          with_reducible refine (ih k2 (by have:=HJ2.out;have:=HK2.out;omega) ((aY ah x5_2).f0) _ _ ((aY ah x5_2).f1) ((aY aT x5_2).f0) _ _ ((aY aT x5_2).f1) true _ ?side1 ?side2 ?side3 ?side4 A17.out).mono ?_
          (case side1=>repeat (first|exact (zzI lI.out HB.out)|(with_reducible refine Kd.C_alloc ?_ _)|(with_reducible refine Kd.C_drewN ?_ _)|(with_reducible refine Kd.C_drew ?_)))
          (case side2=>exact HC158_1.out)
          (case side3=>repeat (first|exact (zzI lL.out HB.out)|(with_reducible refine Kd.C_alloc ?_ _)|(with_reducible refine Kd.C_drewN ?_ _)|(with_reducible refine Kd.C_drew ?_)))
          (case side4=>exact HC159_1.out)
          rintro e w22 ⟨rfl,hb⟩
          refine ⟨_,rfl,?_⟩
          have n0_:=zzA (af (g:=en) (o:=.cells #[.int .i64 bB,.slice (some ad158) ah.length am] 39 (0,0)) (by (with_reducible repeat (first|refine aa ?_ _|refine ac ?_|refine a9 ?_ _));exact cw.out) hb)
          have n1_:=zzA (af (g:=gC) (o:=.cells #[.int .i64 bg,.slice (some ad159) aT.length ci] 39 (0,0)) (by (with_reducible repeat (first|refine aa ?_ _|refine ac ?_|refine a9 ?_ _));exact cW.out) hb)
          have n2_:=zzA (ag (by repeat (first|(with_reducible first|exact HB.out|apply a6|apply a4|apply a5|refine a7 ?_ jP.out|refine a7 ?_ GE157.out)|exact HB.out)) hb)
          clear cw
          clear cW
          clear HB
          have cw:=n0_
          have cW:=n1_
          have HB:=n2_
          clear n0_ n1_ n2_
          (try clear hb)
          (try clear hb2)
          (try clear hk)
          (try clear hi)
          refine hK.out _ _ ⟨(a8 cw.out 0).trans rfl,(a8 cw.out 1).trans rfl,(a8 cW.out 0).trans rfl,(a8 cW.out 1).trans rfl,((HB.out.cell (zzE w _ fR)).trans fR),((HB.out.cell (zzE w _ fQ)).trans fQ),((HB.out.cell (zzE w _ fT)).trans fT),((HB.out.cell (zzE w _ fS)).trans fS)⟩ (fun hHeld=>?_)
          clear hK K
          refine bx (a':=?_) ?_ ?_
          rotate_left
          ·show Act.put _ (some 37) _=_
           simp only [Act.put,zzB,zzC,zzD,av,aw]
           rfl
          refine bh (i:=11) (N:=some 38) (v:=?_) (a':=?_) #[true,true,true,true,true,true,true,true,true,true,true,true] rfl rfl (aG HT_.out (by kernel_rfl)) (fun _ _ _ h=>h) (Or.inl ⟨by rfl,?_⟩) ?_ ?_
          rotate_left
          ·intro w'
           go_simp
           with_reducible rfl
          rotate_left
          ·simp only [Act.put,zzB,zzC,zzD,av,aw]
           rfl
          refine gO (dm HT_.out (by kernel_rfl)) ?_
          try go_wp2
          go_roundg k2
          case measure=>have:=HJ2.out;have:=HK2.out;omega
          case rel=>exact ⟨(wrap64 (x5_2+1)),(by first|rfl|(simp;done)|(simp [*];done)),H',⟨by have:=HJ2.out;have:=HK2.out;omega⟩,⟨by (with_reducible repeat (first|refine aa ?_ _|refine ac ?_|refine a9 ?_ _));exact cw.out⟩,⟨by (with_reducible repeat (first|refine aa ?_ _|refine ac ?_|refine a9 ?_ _));exact cW.out⟩,⟨by repeat (first|(with_reducible first|exact HB.out|apply a6|apply a4|apply a5|refine a7 ?_ jP.out|refine a7 ?_ GE157.out)|exact HB.out)⟩⟩
         ·replace c18:=Bool.eq_false_iff.mpr c18
          subst c18
          have H1:(some false)=some r:=by rw [if_neg (show ¬ (false=true) by decide)] at H;exact H
          clear H
          have H:=H1
          clear H1
          obtain rfl:=Option.some.inj H
          have hnb23:=NB156_157.out
          have hnc23:=NB157_156.out
          have ji:wr.cell? ⟨en,0,none⟩=some (.int .i64 bB):=(a8 cw.out 0).trans rfl
          have jk:wr.cell? ⟨en,1,none⟩=some (.slice au ah.length am):=(a8 cw.out 1).trans rfl
          have jl:=ab cw.out 0
          have jm:=ab cw.out 1
          try go_wp2
          have n0_:=zzA (ac cw.out)
          have n1_:=zzA (ac cW.out)
          have n2_:=zzA (a5 HB.out)
          clear cw
          clear cW
          clear HB
          have cw:=n0_
          have cW:=n1_
          have HB:=n2_
          clear n0_ n1_ n2_
          have p158:0≤(x5_2:Int):=zzF (by first|(with_reducible assumption)|assumption)
          have q158:x5_2 < (ah.length:Int):=zzF (by first|(with_reducible assumption)|assumption)
          obtain ⟨ad158,A158_1,c158_1,e158,eT,eU,lG,lH⟩:=kg bq.out x5_2 p158 q158
          have fQ:=eU
          have fR:=eT
          cases e158
          replace eT:=(HB.out.cell (zzE w _ eT)).trans eT
          replace eU:=(HB.out.cell (zzE w _ eU)).trans eU
          have lI:=zzA lH
          have HC158_1:=zzA lG
          clear lH lG
          replace p158:=eq_true p158
          replace q158:=eq_true q158
          have p159:0≤(x5_2:Int):=zzF (by first|(with_reducible assumption)|assumption)
          have q159:x5_2 < (aT.length:Int):=zzF (by first|(with_reducible assumption)|assumption)
          obtain ⟨ad159,A159_1,c159_1,e159,eV,eW,lJ,lK⟩:=kg jN.out x5_2 p159 q159
          have fS:=eW
          have fT:=eV
          cases e159
          replace eV:=(HB.out.cell (zzE w _ eV)).trans eV
          replace eW:=(HB.out.cell (zzE w _ eW)).trans eW
          have lL:=zzA lK
          have HC159_1:=zzA lJ
          clear lK lJ
          replace p159:=eq_true p159
          replace q159:=eq_true q159
          refine ff (n:=12) (S:=fun w'=>w'.cell? ⟨en,0,none⟩=some (.int .i64 bB)∧w'.cell? ⟨en,1,none⟩=some (.slice (some ad158) ah.length am)∧w'.cell? ⟨gC,0,none⟩=some (.int .i64 bg)∧w'.cell? ⟨gC,1,none⟩=some (.slice (some ad159) aT.length ci)∧w'.cell? (ad158.add ((x5_2).toNat * 2))=some (.int .i64 ((aY ah x5_2).f0))∧w'.cell? ⟨(ad158.add ((x5_2).toNat * 2)).block,(ad158.add ((x5_2).toNat * 2)).off+1,none⟩=some (.slice A158_1 ((aY ah x5_2).f1).length c158_1)∧w'.cell? (ad159.add ((x5_2).toNat * 2))=some (.int .i64 ((aY aT x5_2).f0))∧w'.cell? ⟨(ad159.add ((x5_2).toNat * 2)).block,(ad159.add ((x5_2).toNat * 2)).off+1,none⟩=some (.slice A159_1 ((aY aT x5_2).f1).length c159_1)) (ds:=[]) #[false,false,false,false,false,false,false,false,false,false,false,false] (by kernel_rfl) rfl rfl ⟨(a8 cw.out 0).trans rfl,(a8 cw.out 1).trans rfl,(a8 cW.out 0).trans rfl,(a8 cW.out 1).trans rfl,((HB.out.cell (zzE w _ fR)).trans fR),((HB.out.cell (zzE w _ fQ)).trans fQ),((HB.out.cell (zzE w _ fT)).trans fT),((HB.out.cell (zzE w _ fS)).trans fS)⟩ (fun hHeld=>?_);refine dy fastiref15_Same.tab6 fastiref15_Same.bits6 (fun HT_ HW_=>?_)
          generalize wr.drew=w25 at cw cW HB lI lL eT eU eV eW hHeld ⊢
          refine bh (i:=0) (N:=some 27) (v:=?_) (a':=?_) #[true,false,false,false,false,false,false,false,false,false,false,false] rfl rfl (aG HT_.out (by kernel_rfl)) (fun _ _ _ h=>h) (Or.inl ⟨by rfl,?_⟩) ?_ ?_
          rotate_left
          ·intro w'
           go_simp
           with_reducible rfl
          rotate_left
          ·simp only [Act.put,zzB,zzC,zzD,av,aw]
           rfl
          refine bh (i:=2) (N:=some 29) (v:=?_) (a':=?_) #[true,false,true,false,false,false,false,false,false,false,false,false] rfl rfl (aG HT_.out (by kernel_rfl)) (fun _ _ _ h=>h) (Or.inl ⟨by rfl,?_⟩) ?_ ?_
          rotate_left
          ·intro w'
           go_simp
           with_reducible rfl
          rotate_left
          ·simp only [Act.put,zzB,zzC,zzD,av,aw]
           rfl
          refine bh (i:=5) (N:=some 32) (v:=?_) (a':=?_) #[true,false,true,false,false,true,false,false,false,false,false,false] rfl rfl (aG HT_.out (by kernel_rfl)) (fun _ _ _ h=>h) (Or.inl ⟨by rfl,?_⟩) ?_ ?_
          rotate_left
          ·intro w'
           go_simp
           with_reducible rfl
          rotate_left
          ·simp only [Act.put,zzB,zzC,zzD,av,aw]
           rfl
          refine bh (i:=7) (N:=some 34) (v:=?_) (a':=?_) #[true,false,true,false,false,true,false,true,false,false,false,false] rfl rfl (aG HT_.out (by kernel_rfl)) (fun _ _ _ h=>h) (Or.inl ⟨by rfl,?_⟩) ?_ ?_
          rotate_left
          ·intro w'
           go_simp
           with_reducible rfl
          rotate_left
          ·simp only [Act.put,zzB,zzC,zzD,av,aw]
           rfl
          refine take_ (i:=1) (N:=some 28) (v:=?_) (a':=?_) #[true,true,true,false,false,true,false,true,false,false,false,false] rfl rfl (bI HT_.out HW_.out (by kernel_rfl)) (fun _ _ _ h=>h) (Or.inl ⟨by rfl,?_⟩) hHeld ?_ ?_
          rotate_left
          ·rintro w' ⟨s0,s1,s2,s3,s4,s5,s6,s7⟩
           go_simp
           with_reducible rfl
          rotate_left
          ·simp only [Act.put,zzB,zzC,zzD,av,aw]
           rfl
          refine bh (i:=3) (N:=some 30) (v:=?_) (a':=?_) #[true,true,true,true,false,true,false,true,false,false,false,false] rfl rfl (aG HT_.out (by kernel_rfl)) (fun _ _ _ h=>h) (Or.inl ⟨by rfl,?_⟩) ?_ ?_
          rotate_left
          ·intro w'
           go_simp
           with_reducible rfl
          rotate_left
          ·simp only [Act.put,zzB,zzC,zzD,av,aw]
           rfl
          refine take_ (i:=4) (N:=some 31) (v:=?_) (a':=?_) #[true,true,true,true,true,true,false,true,false,false,false,false] rfl rfl (bI HT_.out HW_.out (by kernel_rfl)) (fun _ _ _ h=>h) (Or.inl ⟨by rfl,?_⟩) hHeld ?_ ?_
          rotate_left
          ·rintro w' ⟨s0,s1,s2,s3,s4,s5,s6,s7⟩
           go_simp
           with_reducible rfl
          rotate_left
          ·simp only [Act.put,zzB,zzC,zzD,av,aw]
           rfl
          refine take_ (i:=6) (N:=some 33) (v:=?_) (a':=?_) #[true,true,true,true,true,true,true,true,false,false,false,false] rfl rfl (bI HT_.out HW_.out (by kernel_rfl)) (fun _ _ _ h=>h) (Or.inl ⟨by rfl,?_⟩) hHeld ?_ ?_
          rotate_left
          ·rintro w' ⟨s0,s1,s2,s3,s4,s5,s6,s7⟩
           go_simp
           with_reducible rfl
          rotate_left
          ·simp only [Act.put,zzB,zzC,zzD,av,aw]
           rfl
          refine bh (i:=8) (N:=some 35) (v:=?_) (a':=?_) #[true,true,true,true,true,true,true,true,true,false,false,false] rfl rfl (aG HT_.out (by kernel_rfl)) (fun _ _ _ h=>h) (Or.inl ⟨by rfl,?_⟩) ?_ ?_
          rotate_left
          ·intro w'
           go_simp
           with_reducible rfl
          rotate_left
          ·simp only [Act.put,zzB,zzC,zzD,av,aw]
           rfl
          refine take_ (i:=9) (N:=some 36) (v:=?_) (a':=?_) #[true,true,true,true,true,true,true,true,true,true,false,false] rfl rfl (bI HT_.out HW_.out (by kernel_rfl)) (fun _ _ _ h=>h) (Or.inl ⟨by rfl,?_⟩) hHeld ?_ ?_
          rotate_left
          ·rintro w' ⟨s0,s1,s2,s3,s4,s5,s6,s7⟩
           go_simp
           with_reducible rfl
          rotate_left
          ·simp only [Act.put,zzB,zzC,zzD,av,aw]
           rfl
          refine ep (i:=10) (N:=some 37) #[true,true,true,true,true,true,true,true,true,true,true,false] rfl rfl (bE HT_.out (by kernel_rfl)) (by decide) (fun K hK=>?_)
          refine jH Try.func24 (by kernel_rfl) rfl #[.agg #[.int .i64 ((aY ah x5_2).f0),.slice A158_1 ((aY ah x5_2).f1).length c158_1],.agg #[.int .i64 ((aY aT x5_2).f0),.slice A159_1 ((aY aT x5_2).f1).length c159_1]] (by rfl) rfl rfl (by (try simp only [List.map_toArray,List.map_cons,List.map_nil]);first|done|rfl|(simp only [List.length_drop,List.length_take];rfl)) ?_
          with_reducible refine (ih k2 (by have:=HJ2.out;have:=HK2.out;omega) ((aY ah x5_2).f0) _ _ ((aY ah x5_2).f1) ((aY aT x5_2).f0) _ _ ((aY aT x5_2).f1) false _ ?side1 ?side2 ?side3 ?side4 A17.out).mono ?_
          (case side1=>repeat (first|exact (zzI lI.out HB.out)|(with_reducible refine Kd.C_alloc ?_ _)|(with_reducible refine Kd.C_drewN ?_ _)|(with_reducible refine Kd.C_drew ?_)))
          (case side2=>exact HC158_1.out)
          (case side3=>repeat (first|exact (zzI lL.out HB.out)|(with_reducible refine Kd.C_alloc ?_ _)|(with_reducible refine Kd.C_drewN ?_ _)|(with_reducible refine Kd.C_drew ?_)))
          (case side4=>exact HC159_1.out)
          rintro e w26 ⟨rfl,hb⟩
          refine ⟨_,rfl,?_⟩
          have n0_:=zzA (af (g:=en) (o:=.cells #[.int .i64 bB,.slice (some ad158) ah.length am] 39 (0,0)) (by (with_reducible repeat (first|refine aa ?_ _|refine ac ?_|refine a9 ?_ _));exact cw.out) hb)
          have n1_:=zzA (af (g:=gC) (o:=.cells #[.int .i64 bg,.slice (some ad159) aT.length ci] 39 (0,0)) (by (with_reducible repeat (first|refine aa ?_ _|refine ac ?_|refine a9 ?_ _));exact cW.out) hb)
          have n2_:=zzA (ag (by repeat (first|(with_reducible first|exact HB.out|apply a6|apply a4|apply a5|refine a7 ?_ jP.out|refine a7 ?_ GE157.out)|exact HB.out)) hb)
          clear cw
          clear cW
          clear HB
          have cw:=n0_
          have cW:=n1_
          have HB:=n2_
          clear n0_ n1_ n2_
          (try clear hb)
          (try clear hb2)
          (try clear hk)
          (try clear hi)
          refine hK.out _ _ ⟨(a8 cw.out 0).trans rfl,(a8 cw.out 1).trans rfl,(a8 cW.out 0).trans rfl,(a8 cW.out 1).trans rfl,((HB.out.cell (zzE w _ fR)).trans fR),((HB.out.cell (zzE w _ fQ)).trans fQ),((HB.out.cell (zzE w _ fT)).trans fT),((HB.out.cell (zzE w _ fS)).trans fS)⟩ (fun hHeld=>?_)
          clear hK K
          refine bx (a':=?_) ?_ ?_
          rotate_left
          ·show Act.put _ (some 37) _=_
           simp only [Act.put,zzB,zzC,zzD,av,aw]
           rfl
          refine bh (i:=11) (N:=some 38) (v:=?_) (a':=?_) #[true,true,true,true,true,true,true,true,true,true,true,true] rfl rfl (aG HT_.out (by kernel_rfl)) (fun _ _ _ h=>h) (Or.inl ⟨by rfl,?_⟩) ?_ ?_
          rotate_left
          ·intro w'
           go_simp
           with_reducible rfl
          rotate_left
          ·simp only [Act.put,zzB,zzC,zzD,av,aw]
           rfl
          refine gO (dm HT_.out (by kernel_rfl)) ?_
          try go_wp2
          go_ret
          exact ⟨by first|rfl|(simp [ak,al] <;> rfl)|(simp [*,ak,al] <;> rfl),by repeat (first|(with_reducible first|exact HB.out|apply a6|apply a4|apply a5|refine a7 ?_ jP.out|refine a7 ?_ GE157.out)|exact HB.out)⟩
        ·rw [if_neg c16] at H
         exact absurd H (by simp)
       ·rw [if_neg c15] at H
        exact absurd H (by simp)
      ·rw [if_neg c14] at H
       have c14b0:decide (x5_2 < (ah.length:Int))=false:=zzH c14
       clear c14
       obtain rfl:=Option.some.inj H
       have hnb27:=NB156_157.out
       have hnc27:=NB157_156.out
       have hcz28_0:wr.cell? ⟨en,0,none⟩=some (.int .i64 bB):=(a8 cw.out 0).trans rfl
       have hcz28_1:wr.cell? ⟨en,1,none⟩=some (.slice au ah.length am):=(a8 cw.out 1).trans rfl
       have hfz28_0:=ab cw.out 0
       have hfz28_1:=ab cw.out 1
       go_wp2
       go_ret
       exact ⟨by first|rfl|(simp [ak,al] <;> rfl)|(simp [*,ak,al] <;> rfl),by repeat (first|(with_reducible first|exact HB.out|apply a6|apply a4|apply a5|refine a7 ?_ jP.out|refine a7 ?_ GE157.out)|exact HB.out)⟩
end Go.Proofs.Ytcbpkdemcdikaaa.X
namespace Go.Proofs.Ytcbpkdemcdikaaa.X
open Go.RowKit Go.Proofs.YtcbpkdemcdikaaaW.PrintWords Go.Proofs.YtcbpkdemcdikaaaW.PrintLast Go.Proofs.YtcbpkdemcdikaaaW.PrintMore
attribute [local go_sem] be bc bn bo aM aK bf bd   
set_option linter.unusedVariables false
set_option linter.unusedSimpArgs false
namespace SF
set_option maxHeartbeats 4000000
theorem same_eq (a b:List Int) (hl:a.length=b.length) (hm:a.length≤9223372036854775807):∀ (m i k:Nat),m=a.length - i→i≤a.length→m < k→fastiref15_SameInts.l0 k a b (i:Int)=some (decide (a.drop i=b.drop i))
 | m,i,0,_,_,h=>absurd h (by omega)
 | m,i,k+1,he,hi,hk=>by
  unfold fastiref15_SameInts.l0
  by_cases h:i < a.length
  ·rw [if_pos (by omega),if_pos (by omega),if_pos (by omega)]
   have ea:rd a (i:Int)=a[i]:=by simp [rd,List.getD,List.getElem?_eq_getElem h]
   have eb:rd b (i:Int)=b[i]:=by simp [rd,List.getD,List.getElem?_eq_getElem (show i < b.length by omega)]
   rw [ea,eb,List.drop_eq_getElem_cons h,List.drop_eq_getElem_cons (show i < b.length by omega)]
   by_cases hv:a[i]=b[i]
   ·rw [if_pos hv,jJ _ (by omega) (by omega)]
    rw [show (i:Int)+1=((i+1:Nat):Int) by omega,same_eq a b hl hm (m - 1) (i+1) k (by omega) (by omega) (by omega),hv]
    simp only [List.cons.injEq,true_and]
   ·rw [if_neg hv,zzH (by intro e;exact hv (List.cons.inj e).1)]
  ·rw [if_neg (by omega),List.drop_eq_nil_of_le (by omega),List.drop_eq_nil_of_le (by omega)]
   rfl
theorem sameInts_eq (a b:List Int) (hm:a.length≤9223372036854775807):fastiref15_SameInts.f (a.length+1) a b=some (decide (a=b)):=by
 unfold fastiref15_SameInts.f
 by_cases h:a.length=b.length
 ·rw [if_pos (by omega)]
  have:=same_eq a b h hm a.length 0 (a.length+1) (by omega) (by omega) (by omega)
  simpa using this
 ·rw [if_neg (by omega)]
  rw [zzH (by intro e;exact h (by rw [e]))]
def jB (a b n:Int):Bool:=if wrap64 (a - b) ≥ n then true else decide (wrap64 (b - a) ≥ n)
theorem apart_ok (a b n:Int) (W:World):Calls Try.prog 68 #[.int .i64 a,.int .i64 b,.int .i64 n] W fun e w'=>e=.returned (.bool (jB a b n))∧Drawn0 W w':=by
 by_cases h:wrap64 (a - b) ≥ n
 ·have hb:decide (wrap64 (a - b) ≥ n)=true:=zzG h
  have hc:decide (n≤wrap64 (a - b))=true:=zzG h
  have HA:=zzA (show jB a b n=true by unfold jB;rw [if_pos h])
  clear h
  go_enter Try.func68,Try.ntmps68
  go_wp2
  repeat (go_quiet (fail);try go_wp2)
  go_ret
  exact ⟨by rw [HA.out];rfl,by first|exact ⟨⟨0,rfl⟩⟩|exact ⟨⟨1,rfl⟩⟩|exact ⟨⟨_,rfl⟩⟩⟩
 ·have hb:decide (wrap64 (a - b) ≥ n)=false:=zzH h
  have hc:decide (n≤wrap64 (a - b))=false:=zzH h
  have HA:=zzA (show jB a b n=decide (wrap64 (b - a) ≥ n) by unfold jB;rw [if_neg h])
  clear h
  go_enter Try.func68,Try.ntmps68
  go_wp2
  repeat (go_quiet (fail);try go_wp2)
  go_ret
  exact ⟨by rw [HA.out];rfl,by first|exact ⟨⟨0,rfl⟩⟩|exact ⟨⟨1,rfl⟩⟩|exact ⟨⟨_,rfl⟩⟩⟩
def badR (k n:Int) (a b:Int):Bool:=if k=2 then decide (b=a) else if k=3 then !jB b a n else if k=4 then decide (b≤a) else false
def fulfilledB (r:S49) (v:List Int):Bool:=if r.f0=1 then r.f3.any (fun row=>decide (row=v)) else gB (badR r.f0 r.f1) v
theorem fulfilled_ok (a0 a1:Int) (A2:Option Addr) (c2:Nat) (l2:List Int) (A3:Option Addr) (c3:Nat) (l3:List (List Int)) (A1:Option Addr) (c1:Nat) (l1:List Int) (w:World)
  (hr3:Kd.C (Kd.slice 3 (Kd.int .i64)) w A3 l3.length l3) (hr1:Kd.C (Kd.int .i64) w A1 l1.length l1) (hc1:l1.length≤c1) :
  Calls Try.prog 52 #[.agg #[.int .i64 a0,.int .i64 a1,.slice A2 l2.length c2,.slice A3 l3.length c3],.slice A1 l1.length c1] w fun e w'=>e=.returned (.bool (fulfilledB ⟨a0,a1,l2,l3⟩ l1))∧Below w.heap.size w w':=by
 have HR1:=zzA hr1;have HR3:=zzA hr3;have HC1:=zzA hc1
 have HM1:=zzA (Kd.C_max hr1);have HM3:=zzA (Kd.C_max hr3)
 clear hr1 hr3 hc1
 by_cases k1:a0=1
 ·have k1b:(a0 == 1)=true:=beq_iff_eq.mpr k1
  have HAN:=zzA (show fulfilledB ⟨a0,a1,l2,l3⟩ l1=l3.any (fun row=>decide (row=l1)) by unfold fulfilledB;rw [if_pos k1])
  clear k1
  go_enter Try.func52,Try.ntmps52
  go_wp2_with (fail)
  obtain ⟨W1,hW1⟩ : ∃ W1,w.alloc (.cells #[.int .i64 a0,.int .i64 a1,.slice A2 l2.length c2,.slice A3 l3.length c3] 49)=W1:=⟨_,rfl⟩
  have HW1:Aside0 (Below w.heap.size w W1):=⟨by rw [← hW1];exact a6 (Below.refl _ _) _⟩
  have HBK:Aside0 (W1.heap[w.heap.size]?=some (.cells #[.int .i64 a0,.int .i64 a1,.slice A2 l2.length c2,.slice A3 l3.length c3] 49 (0,0))):=⟨by rw [← hW1];exact bT w _⟩
  rw [hW1]
  clear hW1
  go_loopg [5] l3.length (fun gg v5 wr=>∃ kk:Nat,v5=.int .i64 kk∧Aside0 (kk≤l3.length)∧Aside0 (l3.length - kk≤gg)∧Aside0 (∀ i,i < kk→(decide (l3.getD i []=l1))=false)∧Aside0 (Below W1.heap.size W1 wr))
  case atStart=>exact ⟨0,rfl,⟨Nat.zero_le _⟩,⟨by omega⟩,⟨fun j hj=>absurd hj (by omega)⟩,⟨by repeat (first|exact Below.refl _ _|apply a4|apply a5)⟩⟩
  case round =>
   obtain ⟨kk,rfl,HK,HG,HT,HB⟩:=hrel
   have HBw:=zzA (HW1.out.trans (HB.out.mono HW1.out.size))
   have b0:wr.cell? ⟨w.heap.size,0,none⟩=some (.int .i64 a0):=by simpa using a8 (af HBK.out HB.out) 0
   have b1:wr.cell? ⟨w.heap.size,1,none⟩=some (.int .i64 a1):=by simpa using a8 (af HBK.out HB.out) 1
   have b2:wr.cell? ⟨w.heap.size,2,none⟩=some (.slice A2 l2.length c2):=by simpa using a8 (af HBK.out HB.out) 2
   have b3:wr.cell? ⟨w.heap.size,3,none⟩=some (.slice A3 l3.length c3):=by simpa using a8 (af HBK.out HB.out) 3
   by_cases c4:kk < l3.length
   ·have c4b:decide ((kk:Int) < (l3.length:Int))=true:=zzG (by omega)
    have c4n:decide (kk < l3.length)=true:=zzG c4
    have p0:0≤(kk:Int):=by omega
    have q0:(kk:Int) < (l3.length:Int):=by omega
    obtain ⟨ad0,B0,d0,e0,hx0,hl0,hcc⟩:=et (zzI HR3.out HBw.out) kk p0 q0
    subst e0
    rw [Int.toNat_natCast] at hx0
    have n0:(kk < l3.length)=True:=eq_true c4
    replace p0:=eq_true p0
    replace q0:=eq_true q0
    have HC:=zzA c4
    clear c4
    obtain ⟨an,han⟩ : ∃ an,decide (ao l3 (kk:Int)=l1)=an:=⟨_,rfl⟩
    have HT1:=zzA (show decide (l3.getD kk []=l1)=an by rw [← han];rfl)
    have HCON:=zzA (fun (W:World) (hb:Below wr.heap.size wr W)=>(show Calls Try.prog 19 #[.slice B0 (ao l3 (kk:Int)).length d0,.slice A1 l1.length c1] W (fun e w'=>e=.returned (.bool an)∧Below W.heap.size W w') by
     have h:=fastiref15_SameInts.calls _ B0 d0 (ao l3 (kk:Int)) A1 c1 l1 _ W (zzI hcc hb) hl0 (zzI HR1.out (HBw.out.trans (hb.mono HBw.out.size))) HC1.out (sameInts_eq _ _ (Kd.C_max hcc))
     rw [han] at h
     exact h.mono (fun e w' h=>⟨h.1,h.2.below⟩)))
    clear hl0 hcc han
    cases an with
    | true =>
     go_wp2_with (go_at_call 19;refine (HCON.out _ (by repeat (first|exact Below.refl _ _|apply a6|apply a4|apply a5))).mono ?_;rintro e w' ⟨rfl,hb'⟩;have HB':=zzA hb';clear hb')
     go_ret
     refine ⟨?_,by repeat (first|exact HBw.out.trans (HB'.out.mono HBw.out.size)|apply a4|apply a5)⟩
     rw [HAN.out,List.any_eq_true.mpr ⟨l3.getD kk [],by rw [List.getD,List.getElem?_eq_getElem HC.out];exact List.getElem_mem HC.out,HT1.out⟩];rfl
    | false =>
     go_wp2_with (go_at_call 19;refine (HCON.out _ (by repeat (first|exact Below.refl _ _|apply a6|apply a4|apply a5))).mono ?_;rintro e w' ⟨rfl,hb'⟩;have HB':=zzA hb';clear hb')
     go_roundg (l3.length - (kk+1))
     case measure=>have:=HG.out;have:=HC.out;omega
     case rel =>
      have hm:=HM3.out;have hc:=HC.out
      exact ⟨kk+1,by rw [jJ _ (by omega) (by omega)];rfl,⟨HC.out⟩,⟨by omega⟩,⟨fun i hi=>by
       rcases Nat.lt_or_eq_of_le (Nat.le_of_lt_succ hi) with h|rfl
       ·exact HT.out i h
       ·exact HT1.out⟩,⟨by repeat (first|exact HB.out.trans (HB'.out.mono HB.out.size)|apply a4|apply a5)⟩⟩
   ·have c4b:decide ((kk:Int) < (l3.length:Int))=false:=zzH (by omega)
    have c4n:decide (kk < l3.length)=false:=zzH c4
    have HC:=zzA c4
    clear c4
    go_wp2_with (fail)
    go_ret
    refine ⟨?_,by repeat (first|exact HBw.out|apply a4|apply a5)⟩
    rw [HAN.out,List.any_eq_false.mpr (fun row hrow=>by
     obtain ⟨i,hi,rfl⟩:=List.getElem_of_mem hrow
     have:=HT.out i (by have:=HC.out;have:=HK.out;omega)
     rw [List.getD,List.getElem?_eq_getElem hi] at this
     simpa using this)];rfl
 ·have k1b:(a0 == 1)=false:=beq_eq_false_iff_ne.mpr k1
  have HAN:=zzA (show fulfilledB ⟨a0,a1,l2,l3⟩ l1=gB (badR a0 a1) l1 by unfold fulfilledB;rw [if_neg k1])
  clear k1
  go_enter Try.func52,Try.ntmps52
  go_wp2_with (fail)
  obtain ⟨W1,hW1⟩ : ∃ W1,w.alloc (.cells #[.int .i64 a0,.int .i64 a1,.slice A2 l2.length c2,.slice A3 l3.length c3] 49)=W1:=⟨_,rfl⟩
  have HW1:Aside0 (Below w.heap.size w W1):=⟨by rw [← hW1];exact a6 (Below.refl _ _) _⟩
  have HBK:Aside0 (W1.heap[w.heap.size]?=some (.cells #[.int .i64 a0,.int .i64 a1,.slice A2 l2.length c2,.slice A3 l3.length c3] 49 (0,0))):=⟨by rw [← hW1];exact bT w _⟩
  rw [hW1]
  clear hW1
  go_loopg [6] l1.length (fun gg v6 wr=>∃ kk:Nat,v6=.int .i64 kk∧Aside0 (kk≤l1.length)∧Aside0 (l1.length - kk≤gg)∧Aside0 (∀ i,i < kk→∀ j,j < i→badR a0 a1 (rd l1 (j:Int)) (rd l1 (i:Int))=false)∧Aside0 (Below W1.heap.size W1 wr))
  case atStart=>exact ⟨0,rfl,⟨Nat.zero_le _⟩,⟨by omega⟩,⟨fun j hj=>absurd hj (by omega)⟩,⟨by repeat (first|exact Below.refl _ _|apply a4|apply a5)⟩⟩
  case round =>
   obtain ⟨kk,rfl,HK,HG,HT,HB⟩:=hrel
   have HBw:=zzA (HW1.out.trans (HB.out.mono HW1.out.size))
   by_cases c4:kk < l1.length
   ·have c4b:decide ((kk:Int) < (l1.length:Int))=true:=zzG (by omega)
    have c4n:decide (kk < l1.length)=true:=zzG c4
    have HC:=zzA c4
    clear c4
    go_wp2_with (fail)
    go_loopg [7] kk (fun gi v7 wi=>∃ jj:Nat,v7=.int .i64 jj∧Aside0 (jj≤kk)∧Aside0 (kk - jj≤gi)∧Aside0 (∀ j,j < jj→badR a0 a1 (rd l1 (j:Int)) (rd l1 (kk:Int))=false)∧Aside0 (Below W1.heap.size W1 wi))
    case atStart=>exact ⟨0,rfl,⟨Nat.zero_le _⟩,⟨by omega⟩,⟨fun j hj=>absurd hj (by omega)⟩,⟨by repeat (first|exact HB.out|apply a4|apply a5)⟩⟩
    case round =>
     obtain ⟨jj,rfl,HJ,HGi,HTi,HBi⟩:=hrel
     have HBiw:=zzA (HW1.out.trans (HBi.out.mono HW1.out.size))
     have b0:wr.cell? ⟨w.heap.size,0,none⟩=some (.int .i64 a0):=by simpa using a8 (af HBK.out HBi.out) 0
     have b1:wr.cell? ⟨w.heap.size,1,none⟩=some (.int .i64 a1):=by simpa using a8 (af HBK.out HBi.out) 1
     have b2:wr.cell? ⟨w.heap.size,2,none⟩=some (.slice A2 l2.length c2):=by simpa using a8 (af HBK.out HBi.out) 2
     have b3:wr.cell? ⟨w.heap.size,3,none⟩=some (.slice A3 l3.length c3):=by simpa using a8 (af HBK.out HBi.out) 3
     by_cases c5:jj < kk
     ·have c5b:decide ((jj:Int) < (kk:Int))=true:=zzG (by omega)
      have c5n:decide (jj < kk)=true:=zzG c5
      have p0:0≤(kk:Int):=by omega
      have q0:(kk:Int) < (l1.length:Int):=by have:=HC.out;omega
      have p1:0≤(jj:Int):=by omega
      have q1:(jj:Int) < (l1.length:Int):=by have:=HC.out;omega
      obtain ⟨ad0,e0,hx0⟩:=Kd.at_int (zzI HR1.out HBiw.out) kk p0 q0
      obtain ⟨ad1,e1,hx1⟩:=Kd.at_int (zzI HR1.out HBiw.out) jj p1 q1
      subst e0
      cases e1
      rw [Int.toNat_natCast] at hx0 hx1
      have n0:(kk < l1.length)=True:=eq_true HC.out
      have n1:(jj < l1.length)=True:=eq_true (by have:=HC.out;omega)
      replace p0:=eq_true p0
      replace q0:=eq_true q0
      replace p1:=eq_true p1
      replace q1:=eq_true q1
      have HCi:=zzA c5
      clear c5
      obtain ⟨x,hx⟩ : ∃ x,rd l1 (kk:Int)=x:=⟨_,rfl⟩
      obtain ⟨y,hy⟩ : ∃ y,rd l1 (jj:Int)=y:=⟨_,rfl⟩
      rw [hx] at hx0
      rw [hy] at hx1
      obtain ⟨an,han⟩ : ∃ an,badR a0 a1 y x=an:=⟨_,rfl⟩
      have HB1:=zzA (show badR a0 a1 (rd l1 (jj:Int)) (rd l1 (kk:Int))=an by rw [hx,hy,han])
      clear hx hy
      by_cases k2:a0=2
      ·have k2b:(a0 == 2)=true:=beq_iff_eq.mpr k2
       have k3b:(a0 == 3)=false:=beq_eq_false_iff_ne.mpr (by omega)
       have k4b:(a0 == 4)=false:=beq_eq_false_iff_ne.mpr (by omega)
       have ht:(x == y)=an:=by rw [← han];unfold badR;rw [if_pos k2,Bool.eq_iff_iff];simp
       clear k2 han
       cases an with
       | true =>
        go_wp2_with (fail)
        repeat (go_quiet (fail);try go_wp2)
        go_ret
        refine ⟨?_,by repeat (first|exact HBiw.out|apply a4|apply a5)⟩
        rw [HAN.out,fB kk jj HC.out HCi.out HB1.out];rfl
       | false =>
        go_wp2_with (fail)
        repeat (go_quiet (fail);try go_wp2)
        go_roundg (kk - (jj+1))
        case measure=>have:=HGi.out;have:=HCi.out;omega
        case rel =>
         have hm:=HM1.out;have hc:=HC.out;have hci:=HCi.out
         exact ⟨jj+1,by rw [jJ _ (by omega) (by omega)];rfl,⟨HCi.out⟩,⟨by omega⟩,⟨fun i hi=>by
          rcases Nat.lt_or_eq_of_le (Nat.le_of_lt_succ hi) with h|rfl
          ·exact HTi.out i h
          ·exact HB1.out⟩,⟨by repeat (first|exact HBi.out|apply a4|apply a5)⟩⟩
      ·have k2b:(a0 == 2)=false:=beq_eq_false_iff_ne.mpr k2
       by_cases k4:a0=4
       ·have k3b:(a0 == 3)=false:=beq_eq_false_iff_ne.mpr (by omega)
        have k4b:(a0 == 4)=true:=beq_iff_eq.mpr k4
        have ht:decide (x≤y)=an:=by rw [← han];unfold badR;rw [if_neg k2,if_neg (by omega),if_pos k4]
        clear k2 k4 han
        cases an with
        | true =>
         go_wp2_with (fail)
         repeat (go_quiet (fail);try go_wp2)
         go_ret
         refine ⟨?_,by repeat (first|exact HBiw.out|apply a4|apply a5)⟩
         rw [HAN.out,fB kk jj HC.out HCi.out HB1.out];rfl
        | false =>
         go_wp2_with (fail)
         repeat (go_quiet (fail);try go_wp2)
         go_roundg (kk - (jj+1))
         case measure=>have:=HGi.out;have:=HCi.out;omega
         case rel =>
          have hm:=HM1.out;have hc:=HC.out;have hci:=HCi.out
          exact ⟨jj+1,by rw [jJ _ (by omega) (by omega)];rfl,⟨HCi.out⟩,⟨by omega⟩,⟨fun i hi=>by
           rcases Nat.lt_or_eq_of_le (Nat.le_of_lt_succ hi) with h|rfl
           ·exact HTi.out i h
           ·exact HB1.out⟩,⟨by repeat (first|exact HBi.out|apply a4|apply a5)⟩⟩
       ·have k4b:(a0 == 4)=false:=beq_eq_false_iff_ne.mpr k4
        by_cases k3:a0=3
        ·have k3b:(a0 == 3)=true:=beq_iff_eq.mpr k3
         obtain ⟨q,hq⟩ : ∃ q,jB x y a1=q:=⟨_,rfl⟩
         have ht:an=!q:=by rw [← han,← hq];unfold badR;rw [if_neg k2,if_pos k3]
         have HAP:=zzA (fun W:World=>(show Calls Try.prog 68 #[.int .i64 x,.int .i64 y,.int .i64 a1] W (fun e w'=>e=.returned (.bool q)∧Drawn0 W w') by rw [← hq];exact apart_ok x y a1 W))
         subst ht
         clear k2 k3 k4 han hq
         cases q with
         | true =>
          go_wp2_with (fail)
          go_quiet (first|(go_at_call 68;refine (HAP.out _).mono ?_;rintro e w' ⟨rfl,⟨nd,rfl⟩⟩;(try first|exact ⟨rfl,_,World.drewN_drewN _ _ _⟩|exact ⟨rfl,_,Eq.trans (World.drewN_drewN _ _ _) (congrArg (World.drewN _) (Nat.add_assoc _ _ _))⟩)))
          go_wp2_with (fail)
          go_roundg (kk - (jj+1))
          case measure=>have:=HGi.out;have:=HCi.out;omega
          case rel =>
           have hm:=HM1.out;have hc:=HC.out;have hci:=HCi.out
           exact ⟨jj+1,by rw [jJ _ (by omega) (by omega)];rfl,⟨HCi.out⟩,⟨by omega⟩,⟨fun i hi=>by
            rcases Nat.lt_or_eq_of_le (Nat.le_of_lt_succ hi) with h|rfl
            ·exact HTi.out i h
            ·exact HB1.out⟩,⟨by repeat (first|exact HBi.out|apply a4|apply a5)⟩⟩
         | false =>
          go_wp2_with (fail)
          go_quiet (first|(go_at_call 68;refine (HAP.out _).mono ?_;rintro e w' ⟨rfl,⟨nd,rfl⟩⟩;(try first|exact ⟨rfl,_,World.drewN_drewN _ _ _⟩|exact ⟨rfl,_,Eq.trans (World.drewN_drewN _ _ _) (congrArg (World.drewN _) (Nat.add_assoc _ _ _))⟩)))
          go_wp2_with (fail)
          go_ret
          refine ⟨?_,by repeat (first|exact HBiw.out|apply a4|apply a5)⟩
          rw [HAN.out,fB kk jj HC.out HCi.out HB1.out];rfl
        ·have k3b:(a0 == 3)=false:=beq_eq_false_iff_ne.mpr k3
         have ht:an=false:=by rw [← han];unfold badR;rw [if_neg k2,if_neg k3,if_neg k4]
         subst ht
         clear k2 k4 k3 han
         go_wp2_with (fail)
         repeat (go_quiet (fail);try go_wp2)
         go_roundg (kk - (jj+1))
         case measure=>have:=HGi.out;have:=HCi.out;omega
         case rel =>
          have hm:=HM1.out;have hc:=HC.out;have hci:=HCi.out
          exact ⟨jj+1,by rw [jJ _ (by omega) (by omega)];rfl,⟨HCi.out⟩,⟨by omega⟩,⟨fun i hi=>by
           rcases Nat.lt_or_eq_of_le (Nat.le_of_lt_succ hi) with h|rfl
           ·exact HTi.out i h
           ·exact HB1.out⟩,⟨by repeat (first|exact HBi.out|apply a4|apply a5)⟩⟩
     ·have c5b:decide ((jj:Int) < (kk:Int))=false:=zzH (by omega)
      have c5n:decide (jj < kk)=false:=zzH c5
      have HCi:=zzA c5
      clear c5
      go_wp2_with (fail)
      go_roundg (l1.length - (kk+1))
      case measure=>have:=HG.out;have:=HC.out;omega
      case rel =>
       have hm:=HM1.out;have hc:=HC.out;have hci:=HCi.out;have hj2:=HJ.out
       exact ⟨kk+1,by rw [jJ _ (by omega) (by omega)];rfl,⟨HC.out⟩,⟨by omega⟩,⟨fun i hi j hj=>by
         rcases Nat.lt_or_eq_of_le (Nat.le_of_lt_succ hi) with h|rfl
         ·exact HT.out i h j hj
         ·exact HTi.out j (by omega)⟩,⟨by repeat (first|exact HBi.out|apply a4|apply a5)⟩⟩
   ·have c4b:decide ((kk:Int) < (l1.length:Int))=false:=zzH (by omega)
    have c4n:decide (kk < l1.length)=false:=zzH c4
    have HC:=zzA c4
    clear c4
    go_wp2_with (fail)
    go_ret
    refine ⟨?_,by repeat (first|exact HBw.out|apply a4|apply a5)⟩
    rw [HAN.out,noneB_true (fun i hi j hj=>HT.out i (by have:=HC.out;have:=HK.out;omega) j hj)]
    rfl
end SF
def fastiref15_fulfilled.f (bB:Int) (cG:Int) (bR:List Int) (cj:List (List Int)) (l1:List Int):Option (Bool):=some (SF.fulfilledB ⟨bB,cG,bR,cj⟩ l1)
theorem fastiref15_fulfilled.calls (bB:Int) (cG:Int) (dZ:Option Addr) (dP:Nat) (bR:List Int) (dQ:Option Addr) (dR:Nat) (cj:List (List Int)) (A1:Option Addr) (c1:Nat) (l1:List Int) (r:Bool) (w:World) (hr0_2:Kd.C (Kd.int .i64) w dZ bR.length bR) (hc0_2:bR.length≤dP) (kZ:Kd.C (Kd.slice 3 (Kd.int .i64)) w dQ cj.length cj) (hc0_3:cj.length≤dR) (hr1:Kd.C (Kd.int .i64) w A1 l1.length l1) (hc1:l1.length≤c1) (h:fastiref15_fulfilled.f bB cG bR cj l1=some r) :
  Calls Try.prog 52 #[.agg #[.int .i64 bB,.int .i64 cG,.slice dZ bR.length dP,.slice dQ cj.length dR],.slice A1 l1.length c1] w fun e w'=>e=.returned (.bool r)∧Below w.heap.size w w':=by
 cases h
 exact SF.fulfilled_ok bB cG dZ dP bR dQ dR cj A1 c1 l1 w kZ hr1 hc1
end Go.Proofs.Ytcbpkdemcdikaaa.X
namespace Go.Proofs.Ytcbpkdemcdikaaa.X
open Go.RowKit Go.Proofs.YtcbpkdemcdikaaaW.PrintWords Go.Proofs.YtcbpkdemcdikaaaW.PrintLast Go.Proofs.YtcbpkdemcdikaaaW.PrintMore
attribute [local go_sem] be bc bn bo aM aK bf bd   
set_option linter.unusedVariables false
set_option linter.unusedSimpArgs false
def fastiref15_Breaks.l0:Nat→List Int→List Int→Int→Int→Int→List Int→List (List Int)→Option (Bool)
 | 0,_,_,_,_,_,_,_=>none
 | k+1,x1,x5,x6,x197000,x197001,ic,x197003=>if x6 < (ic.length:Int) then (if 0≤x6 then (if (rd ic x6) ≥ (x1.length:Int) then (some false) else (if 0≤(rd ic x6) then (if (rd ic x6) < (x1.length:Int) then (if x5.length < 17592186044416 then (fastiref15_Breaks.l0 k x1 (x5 ++ [rd x1 (rd ic x6)]) (wrap64 (x6+1)) x197000 x197001 ic x197003) else (none)) else (none)) else (none))) else (none)) else ((fastiref15_fulfilled.f x197000 x197001 ic x197003 x5).bind fun t203=>(some (!t203)))
def fastiref15_Breaks.f (k:Nat) (bB:Int) (cG:Int) (bR:List Int) (cj:List (List Int)) (l1:List Int):Option (Bool):=fastiref15_Breaks.l0 k l1 ([]:List Int) 0 bB cG bR cj
set_option maxHeartbeats 8000000 in
set_option maxRecDepth 100000 in
theorem fastiref15_Breaks.calls (k:Nat) (bB:Int) (cG:Int) (dZ:Option Addr) (dP:Nat) (bR:List Int) (dQ:Option Addr) (dR:Nat) (cj:List (List Int)) (A1:Option Addr) (c1:Nat) (l1:List Int) (r:Bool) (w:World) (hr0_2:Kd.C (Kd.int .i64) w dZ bR.length bR) (hc0_2:bR.length≤dP) (kZ:Kd.C (Kd.slice 3 (Kd.int .i64)) w dQ cj.length cj) (hc0_3:cj.length≤dR) (hr1:Kd.C (Kd.int .i64) w A1 l1.length l1) (hc1:l1.length≤c1) (h:fastiref15_Breaks.f k bB cG bR cj l1=some r) :
  Calls Try.prog 34 #[.agg #[.int .i64 bB,.int .i64 cG,.slice dZ bR.length dP,.slice dQ cj.length dR],.slice A1 l1.length c1] w fun e w'=>e=.returned (.bool r)∧Below w.heap.size w w':=by
 have hu49:=Try.underlying49
 have iL:=zzA hr0_2
 have l4:=zzA hc0_2
 clear hr0_2 hc0_2
 have HR0_3:=zzA kZ
 have HC0_3:=zzA hc0_3
 clear kZ hc0_3
 have HR1:=zzA hr1
 have HC1:=zzA hc1
 clear hr1 hc1
 have HB:=zzA (Below.refl w.heap.size w)
 have H:(fastiref15_Breaks.l0 k l1 ([]:List Int) 0 bB cG bR cj)=some r:=h
 clear h
 have H':=zzA H
 clear H
 go_enter Try.func34,Try.ntmps34
 go_wp2_with (first|((with_reducible refine ay (N:=2) rfl ?_);refine aq ?hg (N:=2) ?hd (cs:=#[.int .i64 bB,.int .i64 cG,.slice dZ bR.length dP,.slice dQ cj.length dR]) (t:=49) ?hr ?_;(case hd=>rfl);(case hg=>rfl);(case hr=>first|(go_simp;done)|(go_simp;rfl));intro gr hg w3 hbox hb;have n0_:=zzA (ag (by repeat (first|(with_reducible first|exact HB.out|apply a6|apply a4|apply a5)|exact HB.out)) hb);have n1_:=zzA (hbox);have n2_:=zzA ((by rw [hg];exact (ae (by repeat (first|(with_reducible first|exact HB.out|apply a6|apply a4|apply a5)|exact HB.out))):w.heap.size≤gr));have n3_:=zzA ((by rw [hg];exact (ae (by repeat (first|(with_reducible first|exact HB.out|apply a6|apply a4|apply a5)|exact HB.out))):w.heap.size≤gr));clear HB;have HB:=n0_;have da:=n1_;have GW196:=n2_;have GE196:=n3_;clear n0_ n1_ n2_ n3_;clear hb hbox hg))
 go_loopg [5,6] k (fun kq v5 v6 w'=>∃ (x5_1:List Int) (x6_1:Int),v6=.int .i64 x6_1∧Aside0 (fastiref15_Breaks.l0 kq l1 x5_1 x6_1 bB cG bR cj=some r)∧Aside0 (kq≤k)∧Aside0 (Kd.R (Kd.int .i64) 3 w' w.heap.size (fun _=>True) v5 x5_1)∧Aside0 (w'.heap[gr]?=some (.cells #[.int .i64 bB,.int .i64 cG,(.slice dZ bR.length dP),(.slice dQ cj.length dR)] 49 (0,0)))∧Aside0 (Below w.heap.size w w'))
 case atStart=>exact ⟨(([]:List Int)),(0),(by first|rfl|(simp;done)|(simp [*];done)),H',⟨Nat.le_refl _⟩,⟨by first|exact Kd.R_nil _ _ _ _ _|exact Kd.N_nil _ _ _ _ _|exact Kd.V_nil _ _ _ _ _|exact Kd.Q_nil _ _ _ _ _|exact Kd.S_nil _ _ _ _ _⟩,⟨by (with_reducible repeat (first|refine aa ?_ _|refine ac ?_|refine a9 ?_ _));exact da.out⟩,⟨by repeat (first|(with_reducible first|exact HB.out|apply a6|apply a4|apply a5|refine a7 ?_ GE196.out)|exact HB.out)⟩⟩
 case round =>
  clear H'
  try clear c1;try clear p2;try clear c3
  obtain ⟨x5_1,x6_1,rfl,HA,HK1,HO_5,da,HB⟩:=hrel
  cases gk with
  | zero=>exact absurd HA.out (by simp [fastiref15_Breaks.l0])
  | succ k1 =>
   have H:=HA.out
   clear HA
   simp only [fastiref15_Breaks.l0] at H
   by_cases c4:x6_1 < (bR.length:Int)
   ·rw [if_pos c4] at H
    have f8:decide (x6_1 < (bR.length:Int))=true:=zzG c4
    clear c4
    by_cases c5:0≤x6_1
    ·rw [if_pos c5] at H
     have jU:decide (0≤x6_1)=true:=zzG c5
     clear c5
     by_cases c6:(rd bR x6_1) ≥ (l1.length:Int)
     ·rw [if_pos c6] at H
      have c6b0:decide ((l1.length:Int)≤(rd bR x6_1))=true:=zzG c6
      clear c6
      obtain rfl:=Option.some.inj H
      have iH:wr.cell? ⟨gr,0,none⟩=some (.int .i64 bB):=(a8 da.out 0).trans rfl
      have iI:wr.cell? ⟨gr,1,none⟩=some (.int .i64 cG):=(a8 da.out 1).trans rfl
      have hcz7_2:wr.cell? ⟨gr,2,none⟩=some (.slice dZ bR.length dP):=(a8 da.out 2).trans rfl
      have hcz7_3:wr.cell? ⟨gr,3,none⟩=some (.slice dQ cj.length dR):=(a8 da.out 3).trans rfl
      have iJ:=ab da.out 0
      have iK:=ab da.out 1
      have hfz7_2:=ab da.out 2
      have hfz7_3:=ab da.out 3
      have p197:0≤(x6_1:Int):=zzF (by first|(with_reducible assumption)|assumption)
      have q197:x6_1 < (bR.length:Int):=zzF (by first|(with_reducible assumption)|assumption)
      obtain ⟨ad197,e197,ie⟩:=Kd.at_int iL.out x6_1 p197 q197
      cases e197
      replace ie:=(HB.out.cell (zzE w _ ie)).trans ie
      replace p197:=eq_true p197
      replace q197:=eq_true q197
      go_wp2
      go_ret
      exact ⟨by first|rfl|(simp [ak,al] <;> rfl)|(simp [*,ak,al] <;> rfl),by repeat (first|(with_reducible first|exact HB.out|apply a6|apply a4|apply a5|refine a7 ?_ GE196.out)|exact HB.out)⟩
     ·rw [if_neg c6] at H
      have c6b0:decide ((l1.length:Int)≤(rd bR x6_1))=false:=zzH c6
      clear c6
      by_cases c8:0≤(rd bR x6_1)
      ·rw [if_pos c8] at H
       have c8b0:decide (0≤(rd bR x6_1))=true:=zzG c8
       clear c8
       by_cases c9:(rd bR x6_1) < (l1.length:Int)
       ·rw [if_pos c9] at H
        have c9b0:decide ((rd bR x6_1) < (l1.length:Int))=true:=zzG c9
        clear c9
        by_cases c10:x5_1.length < 17592186044416
        ·rw [if_pos c10] at H
         have LMc10:=zzA c10
         clear c10
         obtain ⟨y200,hy200⟩ : ∃ y_:List Int,y_=(x5_1 ++ [rd l1 (rd bR x6_1)]):=⟨_,rfl⟩
         replace H:(fastiref15_Breaks.l0 k1 l1 y200 (wrap64 (x6_1+1)) bB cG bR cj)=some r:=by first|(rw [hy200];with_reducible exact H)|(have H2_:=(Option.bind_some _ _).symm.trans H;rw [hy200];with_reducible exact H2_)|(have H2_:=(Option.bind_some _ _).symm.trans H;with_reducible exact H2_)|with_reducible exact H|(rw [hy200];exact H)|exact H
         have Ny200:=zzA hy200
         clear hy200
         have H':=zzA H
         clear H
         have cJ:wr.cell? ⟨gr,0,none⟩=some (.int .i64 bB):=(a8 da.out 0).trans rfl
         have cK:wr.cell? ⟨gr,1,none⟩=some (.int .i64 cG):=(a8 da.out 1).trans rfl
         have hcz11_2:wr.cell? ⟨gr,2,none⟩=some (.slice dZ bR.length dP):=(a8 da.out 2).trans rfl
         have hcz11_3:wr.cell? ⟨gr,3,none⟩=some (.slice dQ cj.length dR):=(a8 da.out 3).trans rfl
         have cL:=ab da.out 0
         have cM:=ab da.out 1
         have hfz11_2:=ab da.out 2
         have hfz11_3:=ab da.out 3
         have p197:0≤(x6_1:Int):=zzF (by first|(with_reducible assumption)|assumption)
         have q197:x6_1 < (bR.length:Int):=zzF (by first|(with_reducible assumption)|assumption)
         obtain ⟨ad197,e197,ie⟩:=Kd.at_int iL.out x6_1 p197 q197
         cases e197
         replace ie:=(HB.out.cell (zzE w _ ie)).trans ie
         replace p197:=eq_true p197
         replace q197:=eq_true q197
         have p198:0≤(x6_1:Int):=zzF (by first|(with_reducible assumption)|assumption)
         have q198:x6_1 < (bR.length:Int):=zzF (by first|(with_reducible assumption)|assumption)
         obtain ⟨ad198,e198,hx198_0⟩:=Kd.at_int iL.out x6_1 p198 q198
         obtain rfl:ad197=ad198:=(by injection e198)
         replace hx198_0:=(HB.out.cell (zzE w _ hx198_0)).trans hx198_0
         replace p198:=eq_true p198
         replace q198:=eq_true q198
         have p199:0≤((rd bR x6_1):Int):=zzF (by first|(with_reducible assumption)|assumption)
         have q199:(rd bR x6_1) < (l1.length:Int):=zzF (by first|(with_reducible assumption)|assumption)
         obtain ⟨ad199,e199,hx199_0⟩:=Kd.at_int HR1.out (rd bR x6_1) p199 q199
         cases e199
         replace hx199_0:=(HB.out.cell (zzE w _ hx199_0)).trans hx199_0
         replace p199:=eq_true p199
         replace q199:=eq_true q199
         go_wp2_with (first|((with_reducible refine dt (b:=.append) (xs:=#[.tmp 22,.tmp 31]) rfl ?_);at_builtin;refine Kd.R_append (Kd.int .i64) (w0:=w) w.heap.size rfl (.tmp 22) (.tmp 31) 26 3 (.int .i64 0) 8 rfl Try.underlying26 fa rfl (by decide) (by omega) u5 x5_1 (rd l1 (rd bR x6_1)) [.int .i64 (rd l1 (rd bR x6_1))] (fun _=>True) (fun _=>False) rfl rfl ?aP (fun _ hk=>hk.elim) ?aF ?aO ?aB ?aS ?aL ?_;(case aP=>exact rfl);(case aB=>exact (by repeat (first|(with_reducible first|exact HB.out|apply a6|apply a4|apply a5|refine a7 ?_ GE196.out)|exact HB.out)));(case aF=>exact (fun _ _=>trivial));(case aO=>exact (by (with_reducible repeat (first|apply Kd.R_alloc|apply Kd.R_drewN|apply Kd.R_drew));exact HO_5.out));(case aS=>exact (ae (by repeat (first|(with_reducible first|exact HB.out|apply a6|apply a4|apply a5|refine a7 ?_ GE196.out)|exact HB.out))));(case aL=>have:=LMc10.out;omega);intro v201 w12 ho hb hg hat;rw [← Ny200.out] at ho;have n0_:=zzA (aU (g:=gr) (o:=.cells #[.int .i64 bB,.int .i64 cG,.slice (some ad197) bR.length dP,.slice dQ cj.length dR] 49 (0,0)) (by (with_reducible repeat (first|refine aa ?_ _|refine ac ?_|refine a9 ?_ _));exact da.out) hg (Kd.R_ne HO_5.out da.out (by decide)));have n1_:=zzA (hb);have n2_:=zzA (ho);clear da;clear HB;clear HO_5;have da:=n0_;have HB:=n1_;have HO202:=n2_;clear n0_ n1_ n2_;clear ho hb hg hat))
         go_roundg k1
         case measure=>have:=HK1.out;omega
         case rel=>exact ⟨(y200),(wrap64 (x6_1+1)),(by first|rfl|(simp;done)|(simp [*];done)),H',⟨by have:=HK1.out;omega⟩,⟨by (with_reducible repeat (first|apply Kd.R_alloc|apply Kd.R_drewN|apply Kd.R_drew));exact HO202.out⟩,⟨by (with_reducible repeat (first|refine aa ?_ _|refine ac ?_|refine a9 ?_ _));exact da.out⟩,⟨by repeat (first|(with_reducible first|exact HB.out|apply a6|apply a4|apply a5|refine a7 ?_ GE196.out)|exact HB.out)⟩⟩
        ·rw [if_neg c10] at H
         exact absurd H (by simp)
       ·rw [if_neg c9] at H
        exact absurd H (by simp)
      ·rw [if_neg c8] at H
       exact absurd H (by simp)
    ·rw [if_neg c5] at H
     exact absurd H (by simp)
   ·rw [if_neg c4] at H
    have f8:decide (x6_1 < (bR.length:Int))=false:=zzH c4
    clear c4
    replace H:=Option.bind_eq_some_iff.mp H
    obtain ⟨t203,A130,H⟩:=H
    replace H:(some (!t203))=some r:=H
    have A13:=zzA A130
    clear A130
    obtain rfl:=Option.some.inj H
    have hcz14_0:wr.cell? ⟨gr,0,none⟩=some (.int .i64 bB):=(a8 da.out 0).trans rfl
    have hcz14_1:wr.cell? ⟨gr,1,none⟩=some (.int .i64 cG):=(a8 da.out 1).trans rfl
    have hcz14_2:wr.cell? ⟨gr,2,none⟩=some (.slice dZ bR.length dP):=(a8 da.out 2).trans rfl
    have hcz14_3:wr.cell? ⟨gr,3,none⟩=some (.slice dQ cj.length dR):=(a8 da.out 3).trans rfl
    have hfz14_0:=ab da.out 0
    have hfz14_1:=ab da.out 1
    have hfz14_2:=ab da.out 2
    have hfz14_3:=ab da.out 3
    obtain ⟨Ao15,co15,eo15⟩:=Kd.R_slice HO_5.out
    subst eo15
    go_wp2_with (first|((with_reducible refine ar (f:=52) rfl ?_);refine bi (some 35) rfl rfl Try.func52 (by kernel_rfl) rfl #[.agg #[.int .i64 bB,.int .i64 cG,.slice dZ bR.length dP,.slice dQ cj.length dR],.slice Ao15 x5_1.length co15] rfl (by (try simp only [List.map_toArray,List.map_cons,List.map_nil]);first|done|rfl|(simp only [List.length_drop,List.length_take];rfl)) ?_;(with_reducible refine (fastiref15_fulfilled.calls bB cG _ _ bR _ _ cj _ _ x5_1 t203 _ ?side1 ?side2 ?side3 ?side4 ?side5 ?side6 A13.out).mono ?_);(case side1=>repeat (first|exact (zzI iL.out HB.out)|(with_reducible refine Kd.C_alloc ?_ _)|(with_reducible refine Kd.C_drewN ?_ _)|(with_reducible refine Kd.C_drew ?_)));(case side2=>exact l4.out);(case side3=>repeat (first|exact (zzI HR0_3.out HB.out)|(with_reducible refine Kd.C_alloc ?_ _)|(with_reducible refine Kd.C_drewN ?_ _)|(with_reducible refine Kd.C_drew ?_)));(case side4=>exact HC0_3.out);(case side5=>repeat (first|exact (Kd.R_reads' HO_5.out).2.2|(with_reducible refine Kd.C_alloc ?_ _)|(with_reducible refine Kd.C_drewN ?_ _)|(with_reducible refine Kd.C_drew ?_)));(case side6=>exact (Kd.R_reads' HO_5.out).2.1);rintro e w16 ⟨rfl,hb⟩;refine ⟨_,rfl,?_⟩;have n0_:=zzA (Kd.R_below (by (with_reducible repeat (first|apply Kd.R_alloc|apply Kd.R_drewN|apply Kd.R_drew));exact HO_5.out) hb);have n1_:=zzA (af (g:=gr) (o:=.cells #[.int .i64 bB,.int .i64 cG,.slice dZ bR.length dP,.slice dQ cj.length dR] 49 (0,0)) (by (with_reducible repeat (first|refine aa ?_ _|refine ac ?_|refine a9 ?_ _));exact da.out) hb);have n2_:=zzA (ag (by repeat (first|(with_reducible first|exact HB.out|apply a6|apply a4|apply a5|refine a7 ?_ GE196.out)|exact HB.out)) hb);clear HO_5;clear da;clear HB;have HO_5:=n0_;have da:=n1_;have HB:=n2_;clear n0_ n1_ n2_;(try clear hb);(try clear hb2);(try clear hk);(try clear hi)))
    go_ret
    exact ⟨by first|rfl|(simp [ak,al] <;> rfl)|(simp [*,ak,al] <;> rfl),by repeat (first|(with_reducible first|exact HB.out|apply a6|apply a4|apply a5|refine a7 ?_ GE196.out)|exact HB.out)⟩
def fastiref15_first.l0:Nat→List Int→Int→List (List Int)→List (S49)→Option (Int)
 | 0,_,_,_,_=>none
 | k+1,x1,x5,x213000,jt=>if x5 < (jt.length:Int) then (if 0≤x5 then ((fastiref15_Breaks.f k ((aj jt x5).f0) ((aj jt x5).f1) ((aj jt x5).f2) ((aj jt x5).f3) x1).bind fun t214=>(if t214=true then (some x5) else (fastiref15_first.l0 k x1 (wrap64 (x5+1)) x213000 jt))) else (none)) else (some (-1))
def fastiref15_first.f (k:Nat) (ai:List (List Int)) (ah:List (S49)) (l1:List Int):Option (Int):=fastiref15_first.l0 k l1 0 ai ah
set_option maxHeartbeats 8000000 in
set_option maxRecDepth 100000 in
theorem fastiref15_first.calls (k:Nat) (ax:Option Addr) (ap:Nat) (ai:List (List Int)) (au:Option Addr) (am:Nat) (ah:List (S49)) (A1:Option Addr) (c1:Nat) (l1:List Int) (r:Int) (w:World) (bV:Kd.C (Kd.slice 3 (Kd.int .i64)) w ax ai.length ai) (bX:ai.length≤ap) (bP:Kd.C k49 w au ah.length ah) (bU:ah.length≤am) (hr1:Kd.C (Kd.int .i64) w A1 l1.length l1) (hc1:l1.length≤c1) (h:fastiref15_first.f k ai ah l1=some r) :
  Calls Try.prog 54 #[.agg #[.slice ax ai.length ap,.slice au ah.length am],.slice A1 l1.length c1] w fun e w'=>e=.returned (.int .i64 r)∧Below w.heap.size w w':=by
 have hu25:=Try.underlying25
 have hu49:=Try.underlying49
 have bz:=zzA bV
 have bH:=zzA bX
 clear bV bX
 have bq:=zzA bP
 have bF:=zzA bU
 clear bP bU
 have HR1:=zzA hr1
 have HC1:=zzA hc1
 clear hr1 hc1
 have HB:=zzA (Below.refl w.heap.size w)
 have H:(fastiref15_first.l0 k l1 0 ai ah)=some r:=h
 clear h
 have H':=zzA H
 clear H
 go_enter Try.func54,Try.ntmps54
 go_wp2_with (first|((with_reducible refine ay (N:=2) rfl ?_);refine aq ?hg (N:=2) ?hd (cs:=#[.slice ax ai.length ap,.slice au ah.length am]) (t:=25) ?hr ?_;(case hd=>rfl);(case hg=>rfl);(case hr=>first|(go_simp;done)|(go_simp;rfl));intro lM hg w3 hbox hb;have n0_:=zzA (ag (by repeat (first|(with_reducible first|exact HB.out|apply a6|apply a4|apply a5)|exact HB.out)) hb);have n1_:=zzA (hbox);have n2_:=zzA ((by rw [hg];exact (ae (by repeat (first|(with_reducible first|exact HB.out|apply a6|apply a4|apply a5)|exact HB.out))):w.heap.size≤lM));have n3_:=zzA ((by rw [hg];exact (ae (by repeat (first|(with_reducible first|exact HB.out|apply a6|apply a4|apply a5)|exact HB.out))):w.heap.size≤lM));clear HB;have HB:=n0_;have fo:=n1_;have GW212:=n2_;have GE212:=n3_;clear n0_ n1_ n2_ n3_;clear hb hbox hg))
 go_loopg [5] k (fun kq v5 w'=>∃ (x5_1:Int),v5=.int .i64 x5_1∧Aside0 (fastiref15_first.l0 kq l1 x5_1 ai ah=some r)∧Aside0 (kq≤k)∧Aside0 (w'.heap[lM]?=some (.cells #[(.slice ax ai.length ap),(.slice au ah.length am)] 25 (0,0)))∧Aside0 (Below w.heap.size w w'))
 case atStart=>exact ⟨(0),(by first|rfl|(simp;done)|(simp [*];done)),H',⟨Nat.le_refl _⟩,⟨by (with_reducible repeat (first|refine aa ?_ _|refine ac ?_|refine a9 ?_ _));exact fo.out⟩,⟨by repeat (first|(with_reducible first|exact HB.out|apply a6|apply a4|apply a5|refine a7 ?_ GE212.out)|exact HB.out)⟩⟩
 case round =>
  clear H'
  try clear c1;try clear p2
  obtain ⟨x5_1,rfl,HA,HK1,fo,HB⟩:=hrel
  cases gk with
  | zero=>exact absurd HA.out (by simp [fastiref15_first.l0])
  | succ k1 =>
   have H:=HA.out
   clear HA
   simp only [fastiref15_first.l0] at H
   by_cases c4:x5_1 < (ah.length:Int)
   ·rw [if_pos c4] at H
    have f8:decide (x5_1 < (ah.length:Int))=true:=zzG c4
    clear c4
    by_cases c5:0≤x5_1
    ·rw [if_pos c5] at H
     have jU:decide (0≤x5_1)=true:=zzG c5
     clear c5
     replace H:=Option.bind_eq_some_iff.mp H
     obtain ⟨t214,A60,H⟩:=H
     replace H:(if t214=true then (some x5_1) else (fastiref15_first.l0 k1 l1 (wrap64 (x5_1+1)) ai ah))=some r:=H
     have A6:=zzA A60
     clear A60
     by_cases c7:t214=true
     ·subst c7
      have H1:(some x5_1)=some r:=by rw [if_pos rfl] at H;exact H
      clear H
      have H:=H1
      clear H1
      obtain rfl:=Option.some.inj H
      have eD:wr.cell? ⟨lM,0,none⟩=some (.slice ax ai.length ap):=(a8 fo.out 0).trans rfl
      have eE:wr.cell? ⟨lM,1,none⟩=some (.slice au ah.length am):=(a8 fo.out 1).trans rfl
      have eF:=ab fo.out 0
      have eG:=ab fo.out 1
      have p213:0≤(x5_1:Int):=zzF (by first|(with_reducible assumption)|assumption)
      have q213:x5_1 < (ah.length:Int):=zzF (by first|(with_reducible assumption)|assumption)
      obtain ⟨ad213,A213_2,c213_2,A213_3,c213_3,e213,ig,ii,ij,ik,lN,lO,lP,lQ⟩:=ex bq.out x5_1 p213 q213
      cases e213
      replace ig:=(HB.out.cell (zzE w _ ig)).trans ig
      replace ii:=(HB.out.cell (zzE w _ ii)).trans ii
      replace ij:=(HB.out.cell (zzE w _ ij)).trans ij
      replace ik:=(HB.out.cell (zzE w _ ik)).trans ik
      have HR213_2:=zzA lO
      have HC213_2:=zzA lN
      clear lO lN
      have HR213_3:=zzA lQ
      have HC213_3:=zzA lP
      clear lQ lP
      replace p213:=eq_true p213
      replace q213:=eq_true q213
      go_wp2_with (first|((with_reducible refine ar (f:=34) rfl ?_);refine bi (some 19) rfl rfl Try.func34 (by kernel_rfl) rfl #[.agg #[.int .i64 ((aj ah x5_1).f0),.int .i64 ((aj ah x5_1).f1),.slice A213_2 ((aj ah x5_1).f2).length c213_2,.slice A213_3 ((aj ah x5_1).f3).length c213_3],.slice A1 l1.length c1] rfl (by (try simp only [List.map_toArray,List.map_cons,List.map_nil]);first|done|rfl|(simp only [List.length_drop,List.length_take];rfl)) ?_;(with_reducible refine (fastiref15_Breaks.calls k1 ((aj ah x5_1).f0) ((aj ah x5_1).f1) _ _ ((aj ah x5_1).f2) _ _ ((aj ah x5_1).f3) _ _ l1 true _ ?side1 ?side2 ?side3 ?side4 ?side5 ?side6 A6.out).mono ?_);(case side1=>repeat (first|exact (zzI HR213_2.out HB.out)|(with_reducible refine Kd.C_alloc ?_ _)|(with_reducible refine Kd.C_drewN ?_ _)|(with_reducible refine Kd.C_drew ?_)));(case side2=>exact HC213_2.out);(case side3=>repeat (first|exact (zzI HR213_3.out HB.out)|(with_reducible refine Kd.C_alloc ?_ _)|(with_reducible refine Kd.C_drewN ?_ _)|(with_reducible refine Kd.C_drew ?_)));(case side4=>exact HC213_3.out);(case side5=>repeat (first|exact (zzI HR1.out HB.out)|(with_reducible refine Kd.C_alloc ?_ _)|(with_reducible refine Kd.C_drewN ?_ _)|(with_reducible refine Kd.C_drew ?_)));(case side6=>exact HC1.out);rintro e w9 ⟨rfl,hb⟩;refine ⟨_,rfl,?_⟩;have n0_:=zzA (af (g:=lM) (o:=.cells #[.slice ax ai.length ap,.slice (some ad213) ah.length am] 25 (0,0)) (by (with_reducible repeat (first|refine aa ?_ _|refine ac ?_|refine a9 ?_ _));exact fo.out) hb);have n1_:=zzA (ag (by repeat (first|(with_reducible first|exact HB.out|apply a6|apply a4|apply a5|refine a7 ?_ GE212.out)|exact HB.out)) hb);clear fo;clear HB;have fo:=n0_;have HB:=n1_;clear n0_ n1_;(try clear hb);(try clear hb2);(try clear hk);(try clear hi)))
      go_ret
      exact ⟨by first|rfl|(simp [ak,al] <;> rfl)|(simp [*,ak,al] <;> rfl),by repeat (first|(with_reducible first|exact HB.out|apply a6|apply a4|apply a5|refine a7 ?_ GE212.out)|exact HB.out)⟩
     ·replace c7:=Bool.eq_false_iff.mpr c7
      subst c7
      have H1:(fastiref15_first.l0 k1 l1 (wrap64 (x5_1+1)) ai ah)=some r:=by rw [if_neg (show ¬ (false=true) by decide)] at H;exact H
      clear H
      have H:=H1
      clear H1
      have H':=zzA H
      clear H
      have ef:wr.cell? ⟨lM,0,none⟩=some (.slice ax ai.length ap):=(a8 fo.out 0).trans rfl
      have eh:wr.cell? ⟨lM,1,none⟩=some (.slice au ah.length am):=(a8 fo.out 1).trans rfl
      have ei:=ab fo.out 0
      have ej:=ab fo.out 1
      have p213:0≤(x5_1:Int):=zzF (by first|(with_reducible assumption)|assumption)
      have q213:x5_1 < (ah.length:Int):=zzF (by first|(with_reducible assumption)|assumption)
      obtain ⟨ad213,A213_2,c213_2,A213_3,c213_3,e213,ig,ii,ij,ik,lN,lO,lP,lQ⟩:=ex bq.out x5_1 p213 q213
      cases e213
      replace ig:=(HB.out.cell (zzE w _ ig)).trans ig
      replace ii:=(HB.out.cell (zzE w _ ii)).trans ii
      replace ij:=(HB.out.cell (zzE w _ ij)).trans ij
      replace ik:=(HB.out.cell (zzE w _ ik)).trans ik
      have HR213_2:=zzA lO
      have HC213_2:=zzA lN
      clear lO lN
      have HR213_3:=zzA lQ
      have HC213_3:=zzA lP
      clear lQ lP
      replace p213:=eq_true p213
      replace q213:=eq_true q213
      go_wp2_with (first|((with_reducible refine ar (f:=34) rfl ?_);refine bi (some 19) rfl rfl Try.func34 (by kernel_rfl) rfl #[.agg #[.int .i64 ((aj ah x5_1).f0),.int .i64 ((aj ah x5_1).f1),.slice A213_2 ((aj ah x5_1).f2).length c213_2,.slice A213_3 ((aj ah x5_1).f3).length c213_3],.slice A1 l1.length c1] rfl (by (try simp only [List.map_toArray,List.map_cons,List.map_nil]);first|done|rfl|(simp only [List.length_drop,List.length_take];rfl)) ?_;(with_reducible refine (fastiref15_Breaks.calls k1 ((aj ah x5_1).f0) ((aj ah x5_1).f1) _ _ ((aj ah x5_1).f2) _ _ ((aj ah x5_1).f3) _ _ l1 false _ ?side1 ?side2 ?side3 ?side4 ?side5 ?side6 A6.out).mono ?_);(case side1=>repeat (first|exact (zzI HR213_2.out HB.out)|(with_reducible refine Kd.C_alloc ?_ _)|(with_reducible refine Kd.C_drewN ?_ _)|(with_reducible refine Kd.C_drew ?_)));(case side2=>exact HC213_2.out);(case side3=>repeat (first|exact (zzI HR213_3.out HB.out)|(with_reducible refine Kd.C_alloc ?_ _)|(with_reducible refine Kd.C_drewN ?_ _)|(with_reducible refine Kd.C_drew ?_)));(case side4=>exact HC213_3.out);(case side5=>repeat (first|exact (zzI HR1.out HB.out)|(with_reducible refine Kd.C_alloc ?_ _)|(with_reducible refine Kd.C_drewN ?_ _)|(with_reducible refine Kd.C_drew ?_)));(case side6=>exact HC1.out);rintro e w11 ⟨rfl,hb⟩;refine ⟨_,rfl,?_⟩;have n0_:=zzA (af (g:=lM) (o:=.cells #[.slice ax ai.length ap,.slice (some ad213) ah.length am] 25 (0,0)) (by (with_reducible repeat (first|refine aa ?_ _|refine ac ?_|refine a9 ?_ _));exact fo.out) hb);have n1_:=zzA (ag (by repeat (first|(with_reducible first|exact HB.out|apply a6|apply a4|apply a5|refine a7 ?_ GE212.out)|exact HB.out)) hb);clear fo;clear HB;have fo:=n0_;have HB:=n1_;clear n0_ n1_;(try clear hb);(try clear hb2);(try clear hk);(try clear hi)))
      go_roundg k1
      case measure=>have:=HK1.out;omega
      case rel=>exact ⟨(wrap64 (x5_1+1)),(by first|rfl|(simp;done)|(simp [*];done)),H',⟨by have:=HK1.out;omega⟩,⟨by (with_reducible repeat (first|refine aa ?_ _|refine ac ?_|refine a9 ?_ _));exact fo.out⟩,⟨by repeat (first|(with_reducible first|exact HB.out|apply a6|apply a4|apply a5|refine a7 ?_ GE212.out)|exact HB.out)⟩⟩
    ·rw [if_neg c5] at H
     exact absurd H (by simp)
   ·rw [if_neg c4] at H
    have f8:decide (x5_1 < (ah.length:Int))=false:=zzH c4
    clear c4
    obtain rfl:=Option.some.inj H
    have dd:wr.cell? ⟨lM,0,none⟩=some (.slice ax ai.length ap):=(a8 fo.out 0).trans rfl
    have de:wr.cell? ⟨lM,1,none⟩=some (.slice au ah.length am):=(a8 fo.out 1).trans rfl
    have df:=ab fo.out 0
    have dg:=ab fo.out 1
    go_wp2
    go_ret
    exact ⟨by first|rfl|(simp [ak,al] <;> rfl)|(simp [*,ak,al] <;> rfl),by repeat (first|(with_reducible first|exact HB.out|apply a6|apply a4|apply a5|refine a7 ?_ GE212.out)|exact HB.out)⟩
end Go.Proofs.Ytcbpkdemcdikaaa.X
