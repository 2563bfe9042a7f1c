/- Proved here: the given statement SearchProofSpec holds (theorem searchProofSpec_holds); no condition beyond the statement's own. -/
import Derived.Test.YtcbpkdemcdikaaaRows
import Derived.Test.YtcbpkdemcdikaaaSearchProofSpecN
import Derived.Test.YtcbpkdemcdikaaaSearchProofSpecI
import Derived.WalkKit
import Derived.ProofKit
import Derived.OpenShut
import Derived.ShutString
import Derived.ChangeOld
import Derived.Below
import Derived.SizedLaws
import Derived.Test.YtcbpkdemcdikaaaSearchProofSpecA
namespace Go.Proofs.Ytcbpkdemcdikaaa.searchProofSpec
open Go.ChangeShapes Go.WideShapes Go.ChangeAt Go.RowKit
open Go.ChangeMaps (open_string shut_string)
open Go.Proofs.YtcbpkdemcdikaaaW.PrintWords
set_option linter.unusedVariables false
theorem own:ownKnob Try.prog.godebug=none:=by kernel_rfl
theorem laidOut:laidOutB Try.prog=true:=by kernel_rfl
set_option maxRecDepth 100000 in
theorem lifted (os:Os) (started:os.Started) (H:Type) (enc:TypeId × Value→H) :
    ReturnsInHanded {} Try.checked os 4 .any (Rows.searchProofSpecSpec.pre6 enc Try.prog Try.f4 Rows.searchProofSpecRow.domain false) (Rows.searchProofSpecSpec.post enc Try.prog Try.f4 false true false false):=by
  refine returnsInHanded_of_change_sized (C:=Try.checked) own started (by kernel_rfl) Try.func4
    (ChangeSpec.witness6 (enc:=enc) (C:=Try.checked) false ⟨#[],#[.agg #[.slice none 0 0,.slice none 0 0],.agg #[.int .i64 0,.slice none 0 0]],[]⟩ 8 (by kernel_rfl) (by kernel_rfl) (by kernel_rfl) (by kernel_rfl)) ?_
  intro W base args ds gs before hval0 hW hcnd hsz0 _
  have hsz:(DataW.weightsEach Try.prog (Try.f4.params.toList ++ Rows.searchProofSpecSpec.plain.varTypes Try.prog) (ds ++ gs)).all (·≤reachBytes)=true:=hsz0
  have hval:∀ (j:Nat) t v,Try.f4.params[j]?=some t→args[j]?=some v→Value.okWide Try.prog W .any base t v:=hval0
  have hW':=hW
  obtain ⟨p,q,hA0,hV,rfl,hfz,hnd⟩:=hW
  have hA:DataW.TrodAll enc Try.prog W 0 (fun _=>true) true Try.f4.params.toList args.toList ds p:=hA0
  rw [Try.params4] at hA hval hsz
  obtain ⟨v0,vs0,d0,ds0,p0,q0,hargs,rfl,rfl,h0,r0⟩:=trodAll_cons hA
  obtain ⟨v1,vs1,d1,ds1,p1,q1,rfl,rfl,rfl,h1,r1⟩:=trodAll_cons r0
  obtain ⟨rfl,rfl,rfl⟩:=trodAll_nil r1
  obtain rfl:args=#[v0,v1]:=by cases args;simp_all
  obtain ⟨rfl,rfl⟩:=trodVars_none hV
  have k0:=h0
  have lt0:∀ x ∈ p0,x.block < W.heap.size:=by obtain ⟨m,hm⟩:=k0;exact DataW.trod_lt m _ _ _ hm
  have z0:∀ n ∈ d0.weights Try.prog 25,n≤140737488351232:=fun n hn=>by
    have:=List.all_eq_true.1 hsz n (DataW.weights_mem_each (j:=0) rfl rfl n hn)
    exact of_decide_eq_true this
  obtain ⟨ax,ap,ai,au,am,ah,rfl,bV,bX,bP,bU⟩:=X.OP.open25 (hval 0 25 v0 rfl rfl) h0 z0
  have k1:=h1
  have lt1:∀ x ∈ p1,x.block < W.heap.size:=by obtain ⟨m,hm⟩:=k1;exact DataW.trod_lt m _ _ _ hm
  have z1:∀ n ∈ d1.weights Try.prog 39,n≤140737488351232:=fun n hn=>by
    have:=List.all_eq_true.1 hsz n (DataW.weights_mem_each (j:=1) rfl rfl n hn)
    exact of_decide_eq_true this
  obtain ⟨bg,cS,ci,aT,rfl,fy,fz⟩:=X.OP.open39 (hval 1 39 v1 rfl rfl) h1 z1
  clear hA0 hval0 hsz0 hsz
  obtain ⟨k,h⟩:=Pure.SearchProofSpec ai ah bg aT 
  refine (X.fastilaw15_SearchProofSpec.calls k _ _ ai _ _ ah bg _ _ aT true W bV bX bP bU fy fz rfl h).mono ?_
  rintro e W' ⟨rfl,hd⟩
  have bel:Below W.heap.size W W':=hd
  exact ⟨_,rfl,_,_,_,[],_,[],hW',trodAll_mk1 (shut_bool Try.underlying4 _),(trodAll_cons_mk (Below.trod laidOut (by kernel_rfl) (of_decide_eq_true (by kernel_rfl)) k0 bel lt0) (trodAll_cons_mk (Below.trod laidOut (by kernel_rfl) (of_decide_eq_true (by kernel_rfl)) k1 bel lt1) trodAll_mk0)),rfl,bel.frame _,fun h=>by cases h⟩
theorem over:Rows.searchProofSpecRow.holds Try.pinned (OpenSpec.ofChange Rows.searchProofSpecSpec) :=
  OpenClaim.holds_of_wide 4 Try.f4 rfl rfl rfl rfl rfl rfl rfl ⟨rfl,rfl,rfl,rfl,rfl⟩ rfl rfl rfl rfl rfl (by kernel_rfl) Try.func4 (by kernel_rfl)
    (of_decide_eq_true (by kernel_rfl)) (by unfold Func.isWrapper;first|(rw [if_pos (by decide +kernel)];kernel_rfl)|(rw [if_neg (by decide +kernel)];exact ⟨rfl,rfl⟩))
    (fun os started H enc _=>lifted os started H enc)
theorem proved:Rows.SearchProofSpecSaid:=over
#print axioms proved
end Go.Proofs.Ytcbpkdemcdikaaa.searchProofSpec
namespace Go.Proofs.Ytcbpkdemcdikaaa
theorem searchProofSpec_holds:Rows.SearchProofSpecSaid:=searchProofSpec.proved
end Go.Proofs.Ytcbpkdemcdikaaa
