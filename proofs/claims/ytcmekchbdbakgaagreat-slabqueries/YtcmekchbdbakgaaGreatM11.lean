/- The law SlabQueries of the program answers true for every input, and its arguments read as before. No conditions. -/
import Derived.Test.YtcmekchbdbakgaaGreatM10
import Derived.Test.YtcmekchbdbakgaaGreatRows
import Derived.Test.YtcmekchbdbakgaaGreatM6
import Derived.WalkKit
import Derived.ProofKit
import Derived.OpenShut
import Derived.ShutString
import Derived.ChangeOld
import Derived.Below
import Derived.Carry
import Derived.Handed
import Derived.KernelRfl
set_option linter.unusedVariables false
set_option linter.unusedSimpArgs false
set_option linter.unusedSectionVars false
set_option maxRecDepth 10000
set_option maxHeartbeats 8000000
section
/-
 The law SlabQueries of the program answers true for every input and leaves its arguments aq they were; no conditions.
-/
namespace Go.Proofs.YtcmekchbdbakgaaGreat
open Go.Sx Go.ChangeShapes Go.WideShapes Go.ChangeAt Go.RowKit
set_option maxRecDepth 100000 in
theorem zfn (os : Os) (started : os.Started) (H : Type) (enc : TypeId×Value→H) :
  ReturnsInHanded {} Tryz.checked os 5 .any (Rows.slabQueriesSpec.pre6 enc Tryz.prog Tryz.f5 Rows.slabQueriesRow.domain false) (Rows.slabQueriesSpec.post enc Tryz.prog Tryz.f5 false true false false):=by
 refine returnsInHanded_of_change (C:=Tryz.checked) ownP started (by kernel_rfl) Tryz.func5
  (ChangeSpec.witness6 (enc:=enc) (C:=Tryz.checked) false ⟨#[],#[.agg #[.bool false,.string ByteArray.empty,.string ByteArray.empty,.bool false,.string ByteArray.empty,.string ByteArray.empty,.bool false,.string ByteArray.empty,.string ByteArray.empty,.bool false,.string ByteArray.empty,.string ByteArray.empty],.slice none 0 0,.agg #[.int .i64 0,.int .i64 0,.int .i64 0]],[]⟩ 8 (by kernel_rfl) (by kernel_rfl) (by kernel_rfl) (by kernel_rfl)) ?_
 intro W base args ds gs before hval0 hW hcnd _;have hval : ∀ (j : Nat) t v,Tryz.f5.params[j]?=some t→args[j]?=some v→Value.okWide Tryz.prog W .any base t v:=hval0;have hW':=hW;obtain ⟨p,q,hA0,hV,rfl,hfz,hnd⟩:=hW;have hA : DataW.TrodAll enc Tryz.prog W 0 (fun _=>true) true Tryz.f5.params.toList args.toList ds p:=hA0;rw [Tryz.params5] at hA hval;obtain ⟨v0,vs0,d0,ds0,p0,q0,hargs,rfl,rfl,h0,r0⟩:=trodAll_cons hA;obtain ⟨v1,vs1,d1,ds1,p1,q1,rfl,rfl,rfl,h1,r1⟩:=trodAll_cons r0;obtain ⟨v2,vs2,d2,ds2,p2,q2,rfl,rfl,rfl,h2,r2⟩:=trodAll_cons r1;obtain ⟨rfl,rfl,rfl⟩:=trodAll_nil r2;obtain rfl : args=#[v0,v1,v2]:=by cases args; simp_all
 obtain ⟨rfl,rfl⟩:=trodVars_none hV;have lt0 : ∀ x∈p0,x.block<W.heap.size:=by obtain ⟨m,hm⟩:=h0; exact DataW.trod_lt m _ _ _ hm
 have k0 : DataW.Trod enc PP W 0 (fun _=>true) true zaM v0 d0 p0:=h0;obtain ⟨a0,rfl⟩:=zst (hval 0 _ v0 rfl rfl) k0;have lt1 : ∀ x∈p1,x.block<W.heap.size:=by obtain ⟨m,hm⟩:=h1; exact DataW.trod_lt m _ _ _ hm
 have k1 : DataW.Trod enc PP W 0 (fun _=>true) true zbU v1 d1 p1:=h1;obtain ⟨A1,c1,a1,rfl,l1,F1⟩:=zsa (hval 1 _ v1 rfl rfl) k1;have lt2 : ∀ x∈p2,x.block<W.heap.size:=by obtain ⟨m,hm⟩:=h2; exact DataW.trod_lt m _ _ _ hm
 have k2 : DataW.Trod enc PP W 0 (fun _=>true) true zao v2 d2 p2:=h2;obtain ⟨a2,rfl⟩:=zrc (hval 2 _ v2 rfl rfl) k2;clear hA0 hval0;refine ((zj5 a0 A1 c1 a1 l1 a2).calls W (zmQ F1)).mono fun e W' ⟨he,bel0⟩=>?_
 subst he;have bel:=bel0.b;exact ⟨_,rfl,_,_,_,[],_,[],hW',trodAll_mk1 (shut_bool ztf _),(trodAll_cons_mk (Below.trod zl2 (by kernel_rfl) (of_decide_eq_true (by kernel_rfl)) k0 bel lt0) (trodAll_cons_mk (Below.trod zl2 (by kernel_rfl) (of_decide_eq_true (by kernel_rfl)) k1 bel lt1) (trodAll_cons_mk (Below.trod zl2 (by kernel_rfl) (of_decide_eq_true (by kernel_rfl)) k2 bel lt2) trodAll_mk0))),rfl,bel.frame _,fun h=>by cases h⟩
theorem slabQueries_holds : Rows.SlabQueriesSaid :=
 OpenClaim.holds_of_wide 5 Tryz.f5 rfl rfl rfl rfl rfl rfl rfl ⟨rfl,rfl,rfl,rfl,rfl⟩ rfl rfl rfl rfl rfl (by kernel_rfl) Tryz.func5 (by kernel_rfl)
  (of_decide_eq_true (by kernel_rfl)) (by unfold Func.isWrapper; first | (rw [if_pos (by decide +kernel)]; kernel_rfl) | (rw [if_neg (by decide +kernel)]; exact ⟨rfl,rfl⟩))
  (fun os started H enc _=>zfn os started H enc)
end Go.Proofs.YtcmekchbdbakgaaGreat
end
#print axioms Go.Proofs.YtcmekchbdbakgaaGreat.slabQueries_holds
