/- A part of the proof of a law: the symbolic executor, contracts of functions of the program, plain laws. No conditions. -/
import Derived.Test.YtcmekchbdbakgaaGreatM8
import Derived.Test.YtcmekchbdbakgaaGreatM7
import Derived.Test.YtcmekchbdbakgaaGreatM6
set_option linter.unusedVariables false
set_option linter.unusedSimpArgs false
set_option linter.unusedSectionVars false
section
set_option maxRecDepth 10000
set_option maxHeartbeats 4000000
namespace Go.Sx
open Go Go.Proofs
theorem zfW {b o X j y z : Nat} (h : X=j*12) : (some ⟨b,o+X+y+z,none⟩ : Option Addr)=(some (⟨b,o,none⟩ : Addr)).map (fun a=>a.add (j*12+(y+z))):=by
 subst h; rw [Option.map_some,Addr.add_lit,Nat.add_assoc,Nat.add_assoc]
theorem zAj {lo hi : V} {P : List (V×V)} {x : Rat} (hlo : SzV K0 lo) (hhi : SzV K0 hi) (hP : ∀ e∈P,SzV KP e.1∧SzV KP e.2) (hx : Sz KX x) (n : Nat) : ∀ y∈ordI lo hi P x n,Sz 200000 y:=fun y hy=>by
 rcases zp3.1 hy with h | h | ⟨i,s,_,h2,_,h4⟩
 ·rw [h]; exact hlo.2.le (by decide)
 ·rw [h]; exact hhi.2.le (by decide)
 ·exact ztb (p:=⟨s.1,s.2,0⟩) (hP s (List.mem_of_getElem? h2)) hx y h4
theorem zse {e : V×V} (h : e.1≠e.2) (x : Rat) : zdP ⟨PQ e.1,PQ e.2⟩ (Q x).v=hgtE e.1 e.2 x:=by
 have hd : ¬zb5 ⟨PQ e.1,PQ e.2⟩:=fun k=>h (by have:=zca.1 k; simpa using this)
 rw [zdP,if_neg hd,Q_v,show (⟨PQ e.1,PQ e.2⟩ : Sg).A.v=e.1 from PQ_v _,show (⟨PQ e.1,PQ e.2⟩ : Sg).B.v=e.2 from PQ_v _]
theorem zoD (lo hi : V) (B : Option Addr) (cB : Nat) (P : List (V×V)) (x : Rat) (hlo : SzV K0 lo) (hhi : SzV K0 hi) (hy : lo.y<hi.y) (hP : ∀ e∈P,SzV KP e.1∧SzV KP e.2) (hzx : Sz KX x) (hl : P.length≤400) :
   FnM PP zb4 [bxV ⟨PQ lo,PQ hi⟩,.slice B P.length cB,qV x] (facts [zaf B (rowV sgq P)]) (zhU (ι:=SlI (ordI lo hi P x P.length).length) slIV (slIR (rowV ratQ (ordI lo hi P x P.length)))):=by
 refine FnE.ofS zab mixed zes rfl rfl (Nat.le_of_ble_eq_true rfl) (by simp [zaf.ok]) ?_
 intro w hw
 obtain ⟨n,hn⟩ : ∃ n,n=P.length:=⟨_,rfl⟩
 have hB : 0<n→∃ b o,B=some ⟨b,o,none⟩:=fun h=>zoi (zaK hw) (by rw [zag zaN]; omega)
 rw [←hn] at hl ⊢
 refine WPS.peel zab mixed ?_
 conv=>whnf
 refine WPS.peel zab mixed ?_
 conv=>whnf
 refine WPS.seq ?_
 refine WPS.peel zab mixed ?_
 conv=>whnf
 refine WPS.block ?_
 refine WPS.le ?_ (SLe.own 7 17 4 zaq 3 2 rfl rfl rfl rfl (by decide) rfl rfl)
 refine WPS.ofX (SLX.freezeF 4 rfl (fun A0 c0 hc0 hf0=>SLX.here ?_))
 refine WPS.loop (ι:=Nat×Option Addr×Nat) (fun ⟨i,A,c⟩=>⟨[(1,.o (.v (.slice B n cB))),(5,.o (.p 5 0)),(7,.o (.v (.slice A (ordI lo hi P x i).length c))),(8,.o (.v (.int .i64 i)))],[(5,ratM (Q x))],[zaf B (rowV sgq P),zaf A (rowV ratQ (ordI lo hi P x i))]⟩)
   (fun ⟨i,A,c⟩=>i≤n∧(ordI lo hi P x i).length≤c∧Fr w A) (fun ⟨i,_⟩=>n-i) (0,A0,c0) ⟨Nat.zero_le _,hc0,hf0⟩
   (SLe.id ⟨rfl,rfl,rfl,rfl,trivial⟩ ⟨⟨_,rfl,.refl _⟩,trivial⟩ (fun R hR=>by
     rcases List.mem_cons.1 hR with rfl | hR
     · exact List.mem_cons_of_mem _ (List.mem_cons_self ..)
     · rw [List.mem_singleton.1 hR]; exact List.mem_cons_self ..)) ?_
 rintro ⟨i,A,c⟩ ⟨hi0,hc,hfr⟩
 have zI:=zAj hlo hhi hP hzx i
 have aI:=zns hy P x i
 have lI:=zt0 lo hi P x i
 refine WPS.peel zab mixed ?_
 conv=>whnf
 by_cases hin : i<n
 rotate_left
 · refine zae (decide_eq_false (show ¬(i : Int)<(n : Int) by omega)) ?_
   obtain rfl : i=n:=by omega
   refine WPS.of zab mixed ?_
   conv=>whnf
   intro N E w' hm
   refine ⟨⟨(A,c),hc⟩,rfl,fun R hR=>?_,fun R hR b hb=>?_⟩
   · rw [List.mem_singleton.1 hR]; exact (hm.res _ (List.mem_cons_of_mem _ (List.mem_cons_self ..))).2.1
   · rw [List.mem_singleton.1 hR] at hb; exact hfr.bs b hb
 refine zai (decide_eq_true (show (i : Int)<(n : Int) by omega)) ?_
 conv=>whnf
 obtain ⟨e,he⟩ : ∃ e,P[i]?=some e:=⟨_,List.getElem?_eq_getElem (by omega)⟩
 have heo:=hP e (List.mem_of_getElem? he)
 obtain ⟨bB,oB,rfl⟩:=hB (by omega)
 have wi : some (SV.o (.v (.int .i64 (IntKind.i64.wrap ((i : Int)+1)))))=some (SV.o (.v (.int .i64 ((i+1 : Nat) : Int)))):=zan hin (by omega)
 have hI : ordI lo hi P x (i+1)=ordK x e (ordI lo hi P x i):=by rw [ordI,he]
 have up : ∀ {l : List Rat},(∀ y∈l,Sz 200000 y)→∀ y∈l,Sz KV y:=fun h y hy=>(h y hy).le (by decide)
 refine WPS.seq ?_
 refine WPS.block ?_
 refine WPS.peel zab mixed ?_
 conv=>whnf
 refine ⟨⟨by omega,by omega,rfl⟩,?_⟩
 rw [Option.map_some,Addr.add_lit]
 conv=>whnf
 refine zao.fld (o:=0) sgq zaN (List.mem_cons_self ..) he (by first | exact zaY rfl | exact zaO rfl | exact zfW rfl) (by decide) (by decide) (fun h=>by cases h) ?_
 conv=>whnf
 refine cf (zuw e.1 e.2) ?_
 conv=>whnf
 by_cases hne : e.1=e.2
 · refine zai (decide_eq_true hne) ?_
   conv=>whnf
   have hI' : ordI lo hi P x (i+1)=ordI lo hi P x i:=by rw [hI]; exact if_pos hne
   refine WPS.of zab mixed ?_
   conv=>whnf
   exact ⟨(i+1,A,c),⟨by omega,by rw [hI']; exact hc,hfr⟩,by show n-(i+1)<n-i; omega,SLe.id ⟨rfl,rfl,by rw [hI']; rfl,wi,trivial⟩ ⟨⟨_,rfl,.refl _⟩,trivial⟩ (fun R hR=>by change R∈[_,zaf _ (rowV ratQ (ordI lo hi P x (i+1)))] at hR; rw [hI'] at hR; exact hR)⟩
 refine zae (decide_eq_false hne) ?_
 conv=>whnf
 refine WPS.seq ?_
 refine WPS.peel zab mixed ?_
 conv=>whnf
 refine ⟨⟨by omega,by omega,rfl⟩,?_⟩
 rw [Option.map_some,Addr.add_lit]
 conv=>whnf
 refine zao.fld (o:=0) sgq zaN (List.mem_cons_self ..) he (by first | exact zaY rfl | exact zaO rfl | exact zfW rfl) (by decide) (by decide) (fun h=>by cases h) ?_
 conv=>whnf
 refine cf (zwJ e.1 e.2) ?_
 conv=>whnf
 refine WPS.cond rfl (fun hv=>?_) (fun hv=>?_)
 · have hv : e.1.x=e.2.x:=of_decide_eq_true hv
   refine WPS.seq ?_
   refine WPS.peel zab mixed ?_
   conv=>whnf
   refine zaj.quiet (by kernel_rfl) ?_
   conv=>whnf
   refine ⟨⟨by omega,by omega,rfl⟩,?_⟩
   rw [Option.map_some,Addr.add_lit]
   conv=>whnf
   refine zao.fld (o:=0) sgq zaN (List.mem_cons_self ..) he (by first | exact zaY rfl | exact zaO rfl | exact zfW rfl) (by decide) (by decide) (fun h=>by cases h) ?_
   conv=>whnf
   refine WPS.cond rfl (fun hx=>?_) (fun hx=>?_)
   · have hx : e.1.x=x:=of_decide_eq_true ((eqRV e.1.x x).symm.trans hx)
     obtain ⟨L1,hL1⟩ : ∃ L1,L1=insU e.2.y (insU e.1.y (ordI lo hi P x i)):=⟨_,rfl⟩
     have hI' : ordI lo hi P x (i+1)=L1:=by rw [hI,ordK,if_neg hne,if_pos hv,if_pos hx,hL1]
     have y1 : Sz 200000 e.1.y:=heo.1.2.le (by decide)
     have y2 : Sz 200000 e.2.y:=heo.2.2.le (by decide)
     have zI1:=zqD y1 zI
     have aI1 : Asc (insU e.1.y (ordI lo hi P x i)):=zcm aI
     have lI1:=zcL e.1.y (ordI lo hi P x i)
     refine WPS.drawT zab mixed [] (14+4294967296*8) zzF (K:=fun st=>∃ A c,L1.length≤c∧Fr w A∧SLe ⟨w,[],zb0.ntmps⟩ st ⟨[(1,.o (.v (.slice (some ⟨bB,oB,none⟩) n cB))),(5,.o (.p 5 0)),(7,.o (.v (.slice A L1.length c))),(8,.o (.v (.int .i64 i)))],[(5,ratM (Q x))],[zaf (some ⟨bB,oB,none⟩) (rowV sgq P),zaf A (rowV ratQ L1)]⟩) (by kernel_rfl) ?_ ?_
     · have hix : (0 : Int)≤(i : Int)∧(i : Int)<(n : Int)∧(some (⟨bB,oB,none⟩ : Addr)).isSome=true:=⟨by omega,by omega,rfl⟩
       conv=>whnf
       repeat' (first
         | exact True.intro
         | (refine And.intro ?_ ?_ <;> (conv=>whnf))
         | (refine ⟨hix,?_⟩; rw [Option.map_some,Addr.add_lit]; conv=>whnf)
         | (refine zao.fld (o:=3) sgq zaN (by first | exact List.mem_cons_self .. | exact List.mem_cons_of_mem _ (List.mem_cons_self ..)) he (by first | exact zaY rfl | exact zaO rfl | exact zfW rfl) (by decide) (by decide) (fun h=>by cases h) ?_; conv=>whnf)
         | (refine zao.fld (o:=9) sgq zaN (by first | exact List.mem_cons_self .. | exact List.mem_cons_of_mem _ (List.mem_cons_self ..)) he (by first | exact zaY rfl | exact zaO rfl | exact zfW rfl) (by decide) (by decide) (fun h=>by cases h) ?_; conv=>whnf)
         | (refine zac.ins (l:=ordI lo hi P x i) (x:=e.1.y) aI (y1.le (by decide)) (up zI) (by omega) hc (List.mem_cons_of_mem _ (List.mem_cons_self ..)) hfr (fun A' c' hc' hfr'=>?_) rfl rfl; conv=>whnf)
         | (refine zac.ins (l:=insU e.1.y (ordI lo hi P x i)) (x:=e.2.y) aI1 (y2.le (by decide)) (up zI1) (by omega) (by assumption) (List.mem_cons_self ..) (by assumption) (fun A' c' hc' hfr'=>?_) rfl rfl; rw [←hL1] at *; conv=>whnf)
         | (refine ⟨_,_,?_,?_,SLe.id ⟨rfl,rfl,rfl,rfl,trivial⟩ ⟨⟨_,rfl,.refl _⟩,trivial⟩ (fun R hR=>?_)⟩
            · assumption
            · assumption
            · rcases List.mem_cons.1 hR with rfl | hR
              · exact List.mem_cons_of_mem _ (List.mem_cons_of_mem _ (List.mem_cons_self ..))
              · rw [List.mem_singleton.1 hR]; exact List.mem_cons_self ..))
     rintro st ⟨A1,c1,hc1,hfr1,hst⟩
     refine WPS.le ?_ hst
     refine WPS.of zab mixed ?_
     conv=>whnf
     refine WPS.of zab mixed ?_
     conv=>whnf
     exact ⟨(i+1,A1,c1),⟨by omega,by rw [hI']; exact hc1,hfr1⟩,by show n-(i+1)<n-i; omega,SLe.id ⟨rfl,rfl,by rw [hI']; rfl,wi,trivial⟩ ⟨⟨_,rfl,.refl _⟩,trivial⟩ (fun R hR=>by change R∈[_,zaf _ (rowV ratQ (ordI lo hi P x (i+1)))] at hR; rw [hI'] at hR; exact hR)⟩
   · have hx : ¬e.1.x=x:=of_decide_eq_false ((eqRV e.1.x x).symm.trans hx)
     have hI' : ordI lo hi P x (i+1)=ordI lo hi P x i:=by rw [hI,ordK,if_neg hne,if_pos hv,if_neg hx]
     refine WPS.of zab mixed ?_
     conv=>whnf
     refine WPS.of zab mixed ?_
     conv=>whnf
     refine WPS.of zab mixed ?_
     conv=>whnf
     exact ⟨(i+1,A,c),⟨by omega,by rw [hI']; exact hc,hfr⟩,by show n-(i+1)<n-i; omega,SLe.id ⟨rfl,rfl,by rw [hI']; rfl,wi,trivial⟩ ⟨⟨_,rfl,.refl _⟩,trivial⟩ (fun R hR=>by change R∈[_,zaf _ (rowV ratQ (ordI lo hi P x (i+1)))] at hR; rw [hI'] at hR; exact hR)⟩
 · have hv : ¬e.1.x=e.2.x:=of_decide_eq_false hv
   refine WPS.of zab mixed ?_
   conv=>whnf
   refine WPS.peel zab mixed ?_
   conv=>whnf
   refine zaj.late [(10,9,[8])] (by kernel_rfl) ?_
   conv=>whnf
   refine ⟨⟨by omega,by omega,rfl⟩,?_⟩
   rw [Option.map_some,Addr.add_lit]
   conv=>whnf
   refine zao.fld (o:=0) sgq zaN (List.mem_cons_self ..) he (by first | exact zaY rfl | exact zaO rfl | exact zfW rfl) (by decide) (by decide) (fun h=>by cases h) ?_
   conv=>whnf
   refine cd (ztT ⟨PQ e.1,PQ e.2⟩ (Q x) ⟨heo.1.q.le (by decide),heo.2.q.le (by decide)⟩ (hzx.q.le (by decide))) ?_
   rw [zse hne]
   have hO : hgtO ⟨e.1,e.2,0⟩ x=if (hgtE e.1 e.2 x).2=0 then some (hgtE e.1 e.2 x).1 else none:=rfl
   have hzy : ∀ y,hgtO ⟨e.1,e.2,0⟩ x=some y→Sz 200000 y:=fun y hy=>zpK (p:=⟨e.1,e.2,0⟩) heo hzx hy
   generalize hgtE e.1 e.2 x=r at hO ⊢
   obtain ⟨y,k⟩:=r
   conv=>whnf
   refine WPS.peel zab mixed ?_
   conv=>whnf
   refine WPS.cond rfl (fun hk=>?_) (fun hk=>?_)
   · have hk : k=0:=by simpa using hk
     have hO' : hgtO ⟨e.1,e.2,0⟩ x=some y:=by rw [hO]; exact if_pos hk
     have y1:=hzy y hO'
     have hI' : ordI lo hi P x (i+1)=insU y (ordI lo hi P x i):=by rw [hI,ordK,if_neg hne,if_neg hv,hO']
     refine WPS.of zab mixed ?_
     conv=>whnf
     refine zac.ins (l:=ordI lo hi P x i) (x:=y) aI (y1.le (by decide)) (up zI) (by omega) hc (List.mem_cons_of_mem _ (List.mem_cons_self ..)) hfr (fun A' c' hc' hfr'=>?_) rfl rfl
     conv=>whnf
     refine WPS.of zab mixed ?_
     conv=>whnf
     exact ⟨(i+1,A',c'),⟨by omega,by rw [hI']; exact hc',hfr'⟩,by show n-(i+1)<n-i; omega,SLe.id ⟨rfl,rfl,by rw [hI']; rfl,wi,trivial⟩ ⟨⟨_,rfl,.refl _⟩,trivial⟩ (fun R hR=>by
       change R∈[_,zaf _ (rowV ratQ (ordI lo hi P x (i+1)))] at hR
       rw [hI'] at hR
       rcases List.mem_cons.1 hR with rfl | hR
       · exact List.mem_cons_of_mem _ (List.mem_cons_self ..)
       · rw [List.mem_singleton.1 hR]; exact List.mem_cons_self ..)⟩
   · have hk : ¬k=0:=by simpa using hk
     have hO' : hgtO ⟨e.1,e.2,0⟩ x=none:=by rw [hO]; exact if_neg hk
     have hI' : ordI lo hi P x (i+1)=ordI lo hi P x i:=by rw [hI,ordK,if_neg hne,if_neg hv,hO']
     refine WPS.of zab mixed ?_
     conv=>whnf
     refine WPS.of zab mixed ?_
     conv=>whnf
     exact ⟨(i+1,A,c),⟨by omega,by rw [hI']; exact hc,hfr⟩,by show n-(i+1)<n-i; omega,SLe.id ⟨rfl,rfl,by rw [hI']; rfl,wi,trivial⟩ ⟨⟨_,rfl,.refl _⟩,trivial⟩ (fun R hR=>by change R∈[_,zaf _ (rowV ratQ (ordI lo hi P x (i+1)))] at hR; rw [hI'] at hR; exact hR)⟩
end Go.Sx
end
section
set_option maxRecDepth 10000
set_option maxHeartbeats 8000000
namespace Go.Sx
open Go Go.Proofs
theorem WPS.cutN {P : Program} {C : Cx} {st : SS} {x y : Code} {Q : Exit→SS→Prop} (J : SS→Prop) (h1 : WPS P C x st (fun e s=>e=.normal∧J s)) (h2 : ∀ s,J s→WPS P C y s Q) : WPS P C (.seq x y) st Q :=
 WPS.seq (h1.mono fun e s ⟨he,hJ⟩=>by subst he; exact h2 s hJ)
theorem zwT {y : Rat} {i : Nat} : ∀ {M : List (Rat×Nat)} {k : Nat},(∀ j z,M[j]?=some z→j<k→z.1<y)→(∀ z,M[k]?=some z→y<z.1)→k≤M.length→insY y i M=M.take k++(y,i)::M.drop k
 | [],k,_,_,hk=>by
  obtain rfl : k=0:=by simpa using hk
  rfl
 | z::M,0,_,h,_=>by
  have:=h z rfl
  unfold insY
  rw [if_neg (by grind),if_neg (by grind)]; rfl
 | z::M,k+1,h1,h2,hk=>by
  have:=h1 0 z rfl (by omega)
  unfold insY
  rw [if_pos this,zwT (k:=k) (fun j u hj hl=>h1 (j+1) u hj (by omega)) (fun u hu=>h2 u hu) (by simpa using hk)]
  rfl
theorem zv1 {y : Rat} {i : Nat} {z : Rat×Nat} : ∀ {M : List (Rat×Nat)} {k : Nat},(∀ j z,M[j]?=some z→j<k→z.1<y)→M[k]?=some z→z.1=y→insY y i M=M
 | [],k,_,h,_=>by simp at h
 | u::M,0,_,h,e=>by
  cases h
  unfold insY
  rw [if_neg (by grind),if_pos e]
 | u::M,k+1,h1,h2,e=>by
  have:=h1 0 u rfl (by omega)
  unfold insY
  rw [if_pos this,zv1 (k:=k) (fun j v hj hl=>h1 (j+1) v hj (by omega)) h2 e]
theorem zuB {A B : V} {x : Rat} (hA : SzV KP A) (hB : SzV KP B) (hx : Sz KY x) : Sz 400000 (hgtE A B x).1:=by
 have z0 : Sz 400000 (0 : Rat):=(show Sz 1 (0 : Rat) from ⟨by decide,by decide⟩).le (by decide)
 unfold hgtE
 split
 ·exact z0
 ·split
  ·exact (hA.2.add (((hx.sub hA.1).div (hB.sub hA).1).mul (hB.sub hA).2)).le (by decide)
  ·exact z0
theorem zz1 {lo hi : V} {P : List (V×V)} {x : Rat} (hP : ∀ e∈P,SzV KP e.1∧SzV KP e.2) (hx : Sz KY x) (n : Nat) : ∀ z∈strI lo hi P x n,Sz 400000 z.1:=fun z hz=>by
 obtain ⟨y,i⟩:=z
 obtain ⟨_,h2,_⟩:=zqJ.1 hz
 cases hp : P[i]? with
 | none=>rw [hp] at h2; cases h2
 | some s =>
  rw [hp] at h2
  have h2 : rcO lo hi x s=some y:=h2
  unfold rcO at h2
  split at h2
  ·cases h2
  ·split at h2
   ·cases h2
   ·cases h2
    have:=hP s (List.mem_of_getElem? hp)
    exact zuB this.1 this.2 hx
theorem zuy (k : Nat) : ∀ v∈intC k,v.oneCell'=true:=fun v hv=>by
 rw [List.mem_singleton.1 hv]; rfl
def zsI (n : Nat) : Code→Option Code
 | .region id ops b=>if Nat.beq id n=true then some (.region id ops b) else none
 | .seq a b=>(zsI n a).or (zsI n b)
 | .block _ a=>zsI n a
 | .loop a=>zsI n a
 | .cond _ a b=>(zsI n a).or (zsI n b)
 | _=>none
noncomputable def zzb (f : Func) : Code:=f.body.getD .skip
theorem zyK (bB oB cB n : Nat) (A A' : Option Addr) (c c' m k i : Nat) (x y : Rat) (lo hi : V) (P : List (V×V)) (M : List (Rat×Nat)) (w : World) (hm : m=M.length) (hk : k≤m) (hc : m≤c) (hc' : m≤c') (lI : m≤400) (hins : insY y i M=M.take k++(y,i)::M.drop k) :
   WPS PP ⟨w,[],zaz.ntmps⟩ ((zsI 14 (zzb zaz)).getD .skip) ⟨[(1,.o (.v (.slice (some ⟨bB,oB,none⟩) n cB))),(4,.o (.p 4 0)),(9,.o (.v (.slice A' m c'))),(10,.o (.v (.slice A m c))),(11,.o (.p 11 0)),(12,.o (.v (.int .i64 i))),(13,.o (.p 13 0)),(15,.o (.v (.int .i64 k)))],[(4,.box ((boxC ⟨PQ lo,PQ hi⟩).map AV.v) zaG),(11,ratM (Q x)),(13,ratM (Q y))],[zaf (some ⟨bB,oB,none⟩) (rowV sgq P),zaf A (rowV ratQ (M.map (·.1))),zaf A' (rowV intC (M.map (·.2)))]⟩ (fun e st=>e=.normal∧SLe ⟨w,[],zaz.ntmps⟩ st ⟨[(1,.o (.v (.slice (some ⟨bB,oB,none⟩) n cB))),(4,.o (.p 4 0)),(9,.o (.v (.slice A' m c'))),(10,.o (.w 137)),(11,.o (.p 11 0)),(12,.o (.v (.int .i64 i))),(15,.o (.v (.int .i64 k)))],[(4,.box ((boxC ⟨PQ lo,PQ hi⟩).map AV.v) zaG),(11,ratM (Q x)),(137,.own zaq 3 (m+1) (rowV ratQ ((insY y i M).map (·.1))))],[zaf (some ⟨bB,oB,none⟩) (rowV sgq P),zaf A' (rowV intC (M.map (·.2)))]⟩):=by
 have hm1 : (M.map (·.1)).length=m:=by rw [List.length_map,hm]
 have hm2 : (M.map (·.2)).length=m:=by rw [List.length_map,hm]
 have hsl0 : (0 : Int)≤0∧(0 : Int)≤(k : Int)∧(k : Int)≤(c : Int):=by omega
 have hsl1 : 0≤(k : Int)∧(k : Int)≤(m : Int)∧(m : Int)≤(c : Int):=by omega
 have hsl0' : (0 : Int)≤0∧(0 : Int)≤(k : Int)∧(k : Int)≤(c' : Int):=by omega
 have hsl1' : 0≤(k : Int)∧(k : Int)≤(m : Int)∧(m : Int)≤(c' : Int):=by omega
 have hb0 : 0+k≤9223372036854775807∧(0+k)*40≤140737488355328:=by omega
 have hb1 : (0+k)+1≤9223372036854775807∧((0+k)+1)*40≤140737488355328:=by omega
 have hb2 : ((0+k)+1)+(m-k)≤9223372036854775807∧(((0+k)+1)+(m-k))*40≤140737488355328:=by omega
 have hb0' : 0+k≤9223372036854775807∧(0+k)*8≤140737488355328:=by omega
 have hb1' : (0+k)+1≤9223372036854775807∧((0+k)+1)*8≤140737488355328:=by omega
 have hb2' : ((0+k)+1)+(m-k)≤9223372036854775807∧(((0+k)+1)+(m-k))*8≤140737488355328:=by omega
 have hs0 : k=0∨(if c=0 then A else A.map (fun a=>a.add (0*3)))=A.map (fun a=>a.add (0*3)):=by
   by_cases hc0 : c=0
   · exact .inl (by omega)
   · exact .inr (if_neg hc0)
 have hs1 : m-k=0∨(if c=k then A else A.map (fun a=>a.add (k*3)))=A.map (fun a=>a.add (k*3)):=by
   by_cases hci : c=k
   · exact .inl (by omega)
   · exact .inr (if_neg hci)
 have hs0' : k=0∨(if c'=0 then A' else A'.map (fun a=>a.add (0*1)))=A'.map (fun a=>a.add (0*1)):=by
   by_cases hc0 : c'=0
   · exact .inl (by omega)
   · exact .inr (if_neg hc0)
 have hs1' : m-k=0∨(if c'=k then A' else A'.map (fun a=>a.add (k*1)))=A'.map (fun a=>a.add (k*1)):=by
   by_cases hci : c'=k
   · exact .inl (by omega)
   · exact .inr (if_neg hci)
 have hfin : app (app (app [] (rowV ratQ (((M.map (·.1)).drop 0).take k))) (ratC (Q y))) (rowV ratQ (((M.map (·.1)).drop k).take (m-k)))=rowV ratQ ((insY y i M).map (·.1)):=by
   have e : ((M.map (·.1)).drop k).take (m-k)=(M.map (·.1)).drop k:=List.take_of_length_le (by rw [List.length_drop,hm1]; omega)
   rw [hins,za1,za1,za1,e,List.drop_zero,List.nil_append,List.map_append,List.map_cons,List.map_take,List.map_drop,zaC,List.append_assoc]
   rfl
 have hfin' : app (app (app [] (rowV intC (((M.map (·.2)).drop 0).take k))) [.int .i64 (i : Int)]) (rowV intC (((M.map (·.2)).drop k).take (m-k)))=rowV intC ((insY y i M).map (·.2)):=by
   have e : ((M.map (·.2)).drop k).take (m-k)=(M.map (·.2)).drop k:=List.take_of_length_le (by rw [List.length_drop,hm2]; omega)
   rw [hins,za1,za1,za1,e,List.drop_zero,List.nil_append,List.map_append,List.map_cons,List.map_take,List.map_drop,zaC,List.append_assoc]
   rfl
 have hle : ((0+k)+1)+(m-k)=m+1:=by omega
 have hme : MEle (ME.own zaq 3 (((0+k)+1)+(m-k)) (app (app (app [] (rowV ratQ (((M.map (·.1)).drop 0).take k))) (ratC (Q y))) (rowV ratQ (((M.map (·.1)).drop k).take (m-k))))) (ME.own zaq 3 (m+1) (rowV ratQ ((insY y i M).map (·.1)))):=by
   rw [hfin,hle]; exact .refl _
 have hme' : MEle (ME.own zen 1 (((0+k)+1)+(m-k)) (app (app (app [] (rowV intC (((M.map (·.2)).drop 0).take k))) [.int .i64 (i : Int)]) (rowV intC (((M.map (·.2)).drop k).take (m-k))))) (ME.own zen 1 (m+1) (rowV intC ((insY y i M).map (·.2)))):=by
   rw [hfin',hle]; exact .refl _
 clear hfin hfin'
 refine WPS.drawT zab mixed [] (11+4294967296*(5+65536*8)) zu9 (K:=fun st=>SLe ⟨w,[],zaz.ntmps⟩ st ⟨[(1,.o (.v (.slice (some ⟨bB,oB,none⟩) n cB))),(4,.o (.p 4 0)),(9,.o (.v (.slice A' m c'))),(10,.o (.w 137)),(11,.o (.p 11 0)),(12,.o (.v (.int .i64 i))),(15,.o (.v (.int .i64 k)))],[(4,.box ((boxC ⟨PQ lo,PQ hi⟩).map AV.v) zaG),(11,ratM (Q x)),(137,.own zaq 3 (m+1) (rowV ratQ ((insY y i M).map (·.1))))],[zaf (some ⟨bB,oB,none⟩) (rowV sgq P),zaf A' (rowV intC (M.map (·.2)))]⟩) (by kernel_rfl) ?_ ?_
 · conv=>whnf
   repeat' (first
     | exact True.intro
     | (refine And.intro ?_ ?_ <;> (conv=>whnf))
     | (refine ⟨hsl0,?_⟩; conv=>whnf)
     | (refine ⟨hsl1,?_⟩; conv=>whnf)
     | (refine zmj.of (SLX.of (SLe.lit0 109 109 138 zaq 3 rfl rfl rfl) ?_); conv=>whnf)
     | (refine zgF.sub (A:=A) (l:=M.map (·.1)) (k:=0) (m:=k) (n:=3) ratQ zaP zny (List.mem_cons_of_mem _ (List.mem_cons_self ..)) hs0 (by omega) (by decide) ?_; conv=>whnf)
     | (refine zgF.sub (A:=A) (l:=M.map (·.1)) (k:=k) (m:=m-k) (n:=3) ratQ zaP zny (List.mem_cons_of_mem _ (List.mem_cons_self ..)) hs1 (by omega) (by decide) ?_; conv=>whnf)
     | (refine ⟨hb0,?_⟩; conv=>whnf)
     | (refine ⟨hb1,?_⟩; conv=>whnf)
     | (refine ⟨hb2,?_⟩; conv=>whnf)
     | (refine SLe.mk (fun k=>bif Nat.beq k 137 then 120 else k) ⟨rfl,rfl,rfl,rfl,rfl,rfl,rfl,trivial⟩ ⟨⟨_,rfl,.refl _⟩,⟨_,rfl,.refl _⟩,⟨_,rfl,hme⟩,trivial⟩ rfl (fun R hR=>?_)
        rcases List.mem_cons.1 hR with rfl | hR
        · exact List.mem_cons_self ..
        · rw [List.mem_singleton.1 hR]; exact List.mem_cons_of_mem _ (List.mem_cons_of_mem _ (List.mem_cons_self ..))))
 exact fun st hst=>⟨rfl,hst⟩
end Go.Sx
end
section
set_option maxRecDepth 10000
set_option maxHeartbeats 8000000
namespace Go.Sx
open Go Go.Proofs
theorem zyr (bB oB cB n : Nat) (A A' : Option Addr) (c c' m k i : Nat) (x y : Rat) (lo hi : V) (P : List (V×V)) (M : List (Rat×Nat)) (w : World) (hm : m=M.length) (hk : k≤m) (hc : m≤c) (hc' : m≤c') (lI : m≤400) (hins : insY y i M=M.take k++(y,i)::M.drop k) :
   WPS PP ⟨w,[],zaz.ntmps⟩ ((zsI 15 (zzb zaz)).getD .skip) ⟨[(1,.o (.v (.slice (some ⟨bB,oB,none⟩) n cB))),(4,.o (.p 4 0)),(9,.o (.v (.slice A' m c'))),(10,.o (.w 137)),(11,.o (.p 11 0)),(12,.o (.v (.int .i64 i))),(15,.o (.v (.int .i64 k)))],[(4,.box ((boxC ⟨PQ lo,PQ hi⟩).map AV.v) zaG),(11,ratM (Q x)),(137,.own zaq 3 (m+1) (rowV ratQ ((insY y i M).map (·.1))))],[zaf (some ⟨bB,oB,none⟩) (rowV sgq P),zaf A' (rowV intC (M.map (·.2)))]⟩ (fun e st=>e=.normal∧SLe ⟨w,[],zaz.ntmps⟩ st ⟨[(1,.o (.v (.slice (some ⟨bB,oB,none⟩) n cB))),(4,.o (.p 4 0)),(9,.o (.w 139)),(10,.o (.w 137)),(11,.o (.p 11 0)),(12,.o (.v (.int .i64 i)))],[(4,.box ((boxC ⟨PQ lo,PQ hi⟩).map AV.v) zaG),(11,ratM (Q x)),(137,.own zaq 3 (m+1) (rowV ratQ ((insY y i M).map (·.1)))),(139,.own zen 1 (m+1) (rowV intC ((insY y i M).map (·.2))))],[zaf (some ⟨bB,oB,none⟩) (rowV sgq P)]⟩):=by
 have hm1 : (M.map (·.1)).length=m:=by rw [List.length_map,hm]
 have hm2 : (M.map (·.2)).length=m:=by rw [List.length_map,hm]
 have hsl0 : (0 : Int)≤0∧(0 : Int)≤(k : Int)∧(k : Int)≤(c : Int):=by omega
 have hsl1 : 0≤(k : Int)∧(k : Int)≤(m : Int)∧(m : Int)≤(c : Int):=by omega
 have hsl0' : (0 : Int)≤0∧(0 : Int)≤(k : Int)∧(k : Int)≤(c' : Int):=by omega
 have hsl1' : 0≤(k : Int)∧(k : Int)≤(m : Int)∧(m : Int)≤(c' : Int):=by omega
 have hb0 : 0+k≤9223372036854775807∧(0+k)*40≤140737488355328:=by omega
 have hb1 : (0+k)+1≤9223372036854775807∧((0+k)+1)*40≤140737488355328:=by omega
 have hb2 : ((0+k)+1)+(m-k)≤9223372036854775807∧(((0+k)+1)+(m-k))*40≤140737488355328:=by omega
 have hb0' : 0+k≤9223372036854775807∧(0+k)*8≤140737488355328:=by omega
 have hb1' : (0+k)+1≤9223372036854775807∧((0+k)+1)*8≤140737488355328:=by omega
 have hb2' : ((0+k)+1)+(m-k)≤9223372036854775807∧(((0+k)+1)+(m-k))*8≤140737488355328:=by omega
 have hs0 : k=0∨(if c=0 then A else A.map (fun a=>a.add (0*3)))=A.map (fun a=>a.add (0*3)):=by
   by_cases hc0 : c=0
   · exact .inl (by omega)
   · exact .inr (if_neg hc0)
 have hs1 : m-k=0∨(if c=k then A else A.map (fun a=>a.add (k*3)))=A.map (fun a=>a.add (k*3)):=by
   by_cases hci : c=k
   · exact .inl (by omega)
   · exact .inr (if_neg hci)
 have hs0' : k=0∨(if c'=0 then A' else A'.map (fun a=>a.add (0*1)))=A'.map (fun a=>a.add (0*1)):=by
   by_cases hc0 : c'=0
   · exact .inl (by omega)
   · exact .inr (if_neg hc0)
 have hs1' : m-k=0∨(if c'=k then A' else A'.map (fun a=>a.add (k*1)))=A'.map (fun a=>a.add (k*1)):=by
   by_cases hci : c'=k
   · exact .inl (by omega)
   · exact .inr (if_neg hci)
 have hfin : app (app (app [] (rowV ratQ (((M.map (·.1)).drop 0).take k))) (ratC (Q y))) (rowV ratQ (((M.map (·.1)).drop k).take (m-k)))=rowV ratQ ((insY y i M).map (·.1)):=by
   have e : ((M.map (·.1)).drop k).take (m-k)=(M.map (·.1)).drop k:=List.take_of_length_le (by rw [List.length_drop,hm1]; omega)
   rw [hins,za1,za1,za1,e,List.drop_zero,List.nil_append,List.map_append,List.map_cons,List.map_take,List.map_drop,zaC,List.append_assoc]
   rfl
 have hfin' : app (app (app [] (rowV intC (((M.map (·.2)).drop 0).take k))) [.int .i64 (i : Int)]) (rowV intC (((M.map (·.2)).drop k).take (m-k)))=rowV intC ((insY y i M).map (·.2)):=by
   have e : ((M.map (·.2)).drop k).take (m-k)=(M.map (·.2)).drop k:=List.take_of_length_le (by rw [List.length_drop,hm2]; omega)
   rw [hins,za1,za1,za1,e,List.drop_zero,List.nil_append,List.map_append,List.map_cons,List.map_take,List.map_drop,zaC,List.append_assoc]
   rfl
 have hle : ((0+k)+1)+(m-k)=m+1:=by omega
 have hme : MEle (ME.own zaq 3 (((0+k)+1)+(m-k)) (app (app (app [] (rowV ratQ (((M.map (·.1)).drop 0).take k))) (ratC (Q y))) (rowV ratQ (((M.map (·.1)).drop k).take (m-k))))) (ME.own zaq 3 (m+1) (rowV ratQ ((insY y i M).map (·.1)))):=by
   rw [hfin,hle]; exact .refl _
 have hme' : MEle (ME.own zen 1 (((0+k)+1)+(m-k)) (app (app (app [] (rowV intC (((M.map (·.2)).drop 0).take k))) [.int .i64 (i : Int)]) (rowV intC (((M.map (·.2)).drop k).take (m-k))))) (ME.own zen 1 (m+1) (rowV intC ((insY y i M).map (·.2)))):=by
   rw [hfin',hle]; exact .refl _
 clear hfin hfin'
 refine WPS.drawT zab mixed [] (11+4294967296*(5+65536*8)) zvo (K:=fun st=>SLe ⟨w,[],zaz.ntmps⟩ st ⟨[(1,.o (.v (.slice (some ⟨bB,oB,none⟩) n cB))),(4,.o (.p 4 0)),(9,.o (.w 139)),(10,.o (.w 137)),(11,.o (.p 11 0)),(12,.o (.v (.int .i64 i)))],[(4,.box ((boxC ⟨PQ lo,PQ hi⟩).map AV.v) zaG),(11,ratM (Q x)),(137,.own zaq 3 (m+1) (rowV ratQ ((insY y i M).map (·.1)))),(139,.own zen 1 (m+1) (rowV intC ((insY y i M).map (·.2))))],[zaf (some ⟨bB,oB,none⟩) (rowV sgq P)]⟩) (by kernel_rfl) ?_ ?_
 · conv=>whnf
   repeat' (first
     | exact True.intro
     | (refine And.intro ?_ ?_ <;> (conv=>whnf))
     | (refine ⟨hsl0',?_⟩; conv=>whnf)
     | (refine ⟨hsl1',?_⟩; conv=>whnf)
     | (refine zmj.of (SLX.of (SLe.lit0 121 121 138 zen 1 rfl rfl rfl) ?_); conv=>whnf)
     | (refine zgF.sub (A:=A') (l:=M.map (·.2)) (k:=0) (m:=k) (n:=1) intC zkw zuy (List.mem_cons_of_mem _ (List.mem_cons_self ..)) hs0' (by omega) (by decide) ?_; conv=>whnf)
     | (refine zgF.sub (A:=A') (l:=M.map (·.2)) (k:=k) (m:=m-k) (n:=1) intC zkw zuy (List.mem_cons_of_mem _ (List.mem_cons_self ..)) hs1' (by omega) (by decide) ?_; conv=>whnf)
     | (refine ⟨hb0',?_⟩; conv=>whnf)
     | (refine ⟨hb1',?_⟩; conv=>whnf)
     | (refine ⟨hb2',?_⟩; conv=>whnf)
     | (refine SLe.mk (fun k=>bif Nat.beq k 139 then 132 else k) ⟨rfl,rfl,rfl,rfl,rfl,rfl,trivial⟩ ⟨⟨_,rfl,.refl _⟩,⟨_,rfl,.refl _⟩,⟨_,rfl,.refl _⟩,⟨_,rfl,hme'⟩,trivial⟩ rfl (fun R hR=>?_)
        rw [List.mem_singleton.1 hR]; exact List.mem_cons_self ..))
 exact fun st hst=>⟨rfl,hst⟩
end Go.Sx
end
section
set_option maxRecDepth 10000
set_option maxHeartbeats 8000000
namespace Go.Sx
open Go Go.Proofs
theorem zAA (lo hi : V) (B : Option Addr) (cB : Nat) (P : List (V×V)) (l r : Rat) (hlo : SzV K0 lo) (hhi : SzV K0 hi) (hP : ∀ e∈P,SzV KP e.1∧SzV KP e.2) (hzl : Sz KX l) (hzr : Sz KX r) (hl : P.length≤400) :
   FnM PP zeb [bxV ⟨PQ lo,PQ hi⟩,.slice B P.length cB,qV l,qV r] (facts [zaf B (rowV sgq P)]) (zhU (ι:=SlI (strI lo hi P ((l+r)/2) P.length).length) slIV (slIR (rowV intC ((strI lo hi P ((l+r)/2) P.length).map (·.2))))):=by
 refine FnE.ofS zab mixed ziQ rfl rfl (Nat.le_of_ble_eq_true rfl) (by simp [zaf.ok]) ?_
 intro w hw
 obtain ⟨n,hn⟩ : ∃ n,n=P.length:=⟨_,rfl⟩
 have hB : 0<n→∃ b o,B=some ⟨b,o,none⟩:=fun h=>zoi (zaK hw) (by rw [zag zaN]; omega)
 have zm : Sz KY ((l+r)/2):=((hzl.add hzr).div (show Sz 2 (2 : Rat) from ⟨by decide,by decide⟩)).le (by decide)
 have hmid:=zxE l r (hzl.le (by decide)) (hzr.le (by decide))
 rw [←hn] at hl ⊢
 refine WPS.peel zab mixed ?_
 conv=>whnf
 refine WPS.peel zab mixed ?_
 conv=>whnf
 refine WPS.peel zab mixed ?_
 conv=>whnf
 refine WPS.peel zab mixed ?_
 conv=>whnf
 refine cf hmid ?_
 generalize (l+r)/2=x at zm ⊢
 conv=>whnf
 refine WPS.seq ?_
 refine WPS.peel zab mixed ?_
 conv=>whnf
 refine WPS.block ?_
 refine WPS.le ?_ ((SLe.lit0 9 16 135 zen 1 rfl rfl rfl).trans (SLe.lit0 10 17 136 zaq 3 rfl rfl rfl))
 refine WPS.ofX (SLX.freezeF 135 rfl (fun A1 c1 hc1 hf1=>SLX.freezeF 136 rfl (fun A0 c0 hc0 hf0=>SLX.here ?_)))
 refine WPS.loop (ι:=Nat×Option Addr×Nat×Option Addr×Nat) (fun ⟨i,A,c,A',c'⟩=>⟨[(1,.o (.v (.slice B n cB))),(4,.o (.p 4 0)),(9,.o (.v (.slice A' (strI lo hi P x i).length c'))),(10,.o (.v (.slice A (strI lo hi P x i).length c))),(11,.o (.p 11 0)),(12,.o (.v (.int .i64 i)))],[(4,.box ((boxC ⟨PQ lo,PQ hi⟩).map AV.v) zaG),(11,ratM (Q x))],[zaf B (rowV sgq P),zaf A (rowV ratQ ((strI lo hi P x i).map (·.1))),zaf A' (rowV intC ((strI lo hi P x i).map (·.2)))]⟩)
   (fun ⟨i,A,c,A',c'⟩=>i≤n∧(strI lo hi P x i).length≤c∧(strI lo hi P x i).length≤c'∧Fr w A') (fun ⟨i,_⟩=>n-i) (0,A0,c0,A1,c1) ⟨Nat.zero_le _,hc0,hc1,hf1⟩
   (SLe.id ⟨rfl,rfl,rfl,rfl,rfl,rfl,trivial⟩ ⟨⟨_,rfl,.refl _⟩,⟨_,rfl,.refl _⟩,trivial⟩ (fun R hR=>by
     rcases List.mem_cons.1 hR with rfl | hR
     · exact List.mem_cons_of_mem _ (List.mem_cons_of_mem _ (List.mem_cons_self ..))
     · rcases List.mem_cons.1 hR with rfl | hR
       · exact List.mem_cons_self ..
       · rw [List.mem_singleton.1 hR]; exact List.mem_cons_of_mem _ (List.mem_cons_self ..))) ?_
 rintro ⟨i,A,c,A',c'⟩ ⟨hi0,hc,hc',hfr'⟩
 have zI:=zz1 (lo:=lo) (hi:=hi) hP zm i
 have lI:=zqs lo hi P x i
 refine WPS.peel zab mixed ?_
 conv=>whnf
 by_cases hin : i<n
 rotate_left
 · refine zae (decide_eq_false (show ¬(i : Int)<(n : Int) by omega)) ?_
   obtain rfl : i=n:=by omega
   refine WPS.of zab mixed ?_
   conv=>whnf
   intro N E w' hm
   refine ⟨⟨(A',c'),hc'⟩,rfl,fun R hR=>?_,fun R hR b hb=>?_⟩
   · rw [List.mem_singleton.1 hR]; exact (hm.res _ (List.mem_cons_of_mem _ (List.mem_cons_of_mem _ (List.mem_cons_self ..)))).2.1
   · rw [List.mem_singleton.1 hR] at hb; exact hfr'.bs b hb
 refine zai (decide_eq_true (show (i : Int)<(n : Int) by omega)) ?_
 conv=>whnf
 obtain ⟨e,he⟩ : ∃ e,P[i]?=some e:=⟨_,List.getElem?_eq_getElem (by omega)⟩
 have heo:=hP e (List.mem_of_getElem? he)
 obtain ⟨bB,oB,rfl⟩:=hB (by omega)
 have wi : some (SV.o (.v (.int .i64 (IntKind.i64.wrap ((i : Int)+1)))))=some (SV.o (.v (.int .i64 ((i+1 : Nat) : Int)))):=zan hin (by omega)
 have hno : rcO lo hi x e=none→strI lo hi P x (i+1)=strI lo hi P x i:=fun h=>by
   rw [strI,he]
   show (match rcO lo hi x e with | none=>strI lo hi P x i | some y=>insY y i (strI lo hi P x i))=_
   rw [h]
 have hyes : ∀ y,rcO lo hi x e=some y→strI lo hi P x (i+1)=insY y i (strI lo hi P x i):=fun y h=>by
   rw [strI,he]
   show (match rcO lo hi x e with | none=>strI lo hi P x i | some y=>insY y i (strI lo hi P x i))=_
   rw [h]
 refine WPS.seq ?_
 refine WPS.block ?_
 refine WPS.peel zab mixed ?_
 conv=>whnf
 refine zaj.quiet (by kernel_rfl) ?_
 conv=>whnf
 refine ⟨⟨by omega,by omega,rfl⟩,?_⟩
 rw [Option.map_some,Addr.add_lit]
 conv=>whnf
 refine zao.fld (o:=0) sgq zaN (List.mem_cons_self ..) he (by first | exact zaY rfl | exact zaO rfl) (by decide) (by decide) (fun h=>by cases h) ?_
 conv=>whnf
 refine cd (zuw e.1 e.2) ?_
 conv=>whnf
 by_cases hne : e.1=e.2
 · refine zai (decide_eq_true hne) ?_
   conv=>whnf
   have hI:=hno (if_pos (.inl hne))
   refine WPS.of zab mixed ?_
   conv=>whnf
   exact ⟨(i+1,A,c,A',c'),⟨by omega,by rw [hI]; exact hc,by rw [hI]; exact hc',hfr'⟩,by show n-(i+1)<n-i; omega,SLe.id ⟨rfl,rfl,by rw [hI]; rfl,by rw [hI]; rfl,rfl,wi,trivial⟩ ⟨⟨_,rfl,.refl _⟩,⟨_,rfl,.refl _⟩,trivial⟩ (fun R hR=>by change R∈[_,zaf _ (rowV ratQ ((strI lo hi P x (i+1)).map (·.1))),zaf _ (rowV intC ((strI lo hi P x (i+1)).map (·.2)))] at hR; rw [hI] at hR; exact hR)⟩
 refine zae (decide_eq_false hne) ?_
 conv=>whnf
 refine ⟨⟨by omega,by omega,rfl⟩,?_⟩
 rw [Option.map_some,Addr.add_lit]
 conv=>whnf
 refine zao.fld (o:=0) sgq zaN (List.mem_cons_self ..) he (by first | exact zaY rfl | exact zaO rfl) (by decide) (by decide) (fun h=>by cases h) ?_
 conv=>whnf
 refine cd (zwJ e.1 e.2) ?_
 conv=>whnf
 by_cases hv : e.1.x=e.2.x
 · refine zai (decide_eq_true hv) ?_
   conv=>whnf
   have hI:=hno (if_pos (.inr (.inl hv)))
   refine WPS.of zab mixed ?_
   conv=>whnf
   exact ⟨(i+1,A,c,A',c'),⟨by omega,by rw [hI]; exact hc,by rw [hI]; exact hc',hfr'⟩,by show n-(i+1)<n-i; omega,SLe.id ⟨rfl,rfl,by rw [hI]; rfl,by rw [hI]; rfl,rfl,wi,trivial⟩ ⟨⟨_,rfl,.refl _⟩,⟨_,rfl,.refl _⟩,trivial⟩ (fun R hR=>by change R∈[_,zaf _ (rowV ratQ ((strI lo hi P x (i+1)).map (·.1))),zaf _ (rowV intC ((strI lo hi P x (i+1)).map (·.2)))] at hR; rw [hI] at hR; exact hR)⟩
 refine zae (decide_eq_false hv) ?_
 conv=>whnf
 refine ⟨⟨by omega,by omega,rfl⟩,?_⟩
 rw [Option.map_some,Addr.add_lit]
 conv=>whnf
 refine zao.fld (o:=0) sgq zaN (List.mem_cons_self ..) he (by first | exact zaY rfl | exact zaO rfl) (by decide) (by decide) (fun h=>by cases h) ?_
 conv=>whnf
 refine cd (zaX (Q e.1.x) (Q x) (heo.1.1.q.le (by decide)) (zm.q.le (by decide))) ?_
 rw [Q_v,Q_v]
 conv=>whnf
 by_cases h1 : x<e.1.x
 · refine zai (decide_eq_true (zbC.2 h1)) ?_
   conv=>whnf
   have hI:=hno (if_pos (.inr (.inr (.inl h1))))
   refine WPS.of zab mixed ?_
   conv=>whnf
   exact ⟨(i+1,A,c,A',c'),⟨by omega,by rw [hI]; exact hc,by rw [hI]; exact hc',hfr'⟩,by show n-(i+1)<n-i; omega,SLe.id ⟨rfl,rfl,by rw [hI]; rfl,by rw [hI]; rfl,rfl,wi,trivial⟩ ⟨⟨_,rfl,.refl _⟩,⟨_,rfl,.refl _⟩,trivial⟩ (fun R hR=>by change R∈[_,zaf _ (rowV ratQ ((strI lo hi P x (i+1)).map (·.1))),zaf _ (rowV intC ((strI lo hi P x (i+1)).map (·.2)))] at hR; rw [hI] at hR; exact hR)⟩
 refine zae (decide_eq_false (fun h=>h1 (zbC.1 h))) ?_
 conv=>whnf
 refine ⟨⟨by omega,by omega,rfl⟩,?_⟩
 rw [Option.map_some,Addr.add_lit]
 conv=>whnf
 refine zao.fld (o:=6) sgq zaN (List.mem_cons_self ..) he (by first | exact zaY rfl | exact zaO rfl) (by decide) (by decide) (fun h=>by cases h) ?_
 conv=>whnf
 refine cd (zaX (Q e.2.x) (Q x) (heo.2.1.q.le (by decide)) (zm.q.le (by decide))) ?_
 rw [Q_v,Q_v]
 conv=>whnf
 by_cases h2 : e.2.x<x
 · refine zai (decide_eq_true (zbg.2 h2)) ?_
   conv=>whnf
   have hI:=hno (if_pos (.inr (.inr (.inr h2))))
   refine WPS.of zab mixed ?_
   conv=>whnf
   exact ⟨(i+1,A,c,A',c'),⟨by omega,by rw [hI]; exact hc,by rw [hI]; exact hc',hfr'⟩,by show n-(i+1)<n-i; omega,SLe.id ⟨rfl,rfl,by rw [hI]; rfl,by rw [hI]; rfl,rfl,wi,trivial⟩ ⟨⟨_,rfl,.refl _⟩,⟨_,rfl,.refl _⟩,trivial⟩ (fun R hR=>by change R∈[_,zaf _ (rowV ratQ ((strI lo hi P x (i+1)).map (·.1))),zaf _ (rowV intC ((strI lo hi P x (i+1)).map (·.2)))] at hR; rw [hI] at hR; exact hR)⟩
 refine zae (decide_eq_false (fun h=>h2 (zbg.1 h))) ?_
 conv=>whnf
 have hrc : rcO lo hi x e=if (hgtE e.1 e.2 x).1=lo.y∨(hgtE e.1 e.2 x).1=hi.y then none else some (hgtE e.1 e.2 x).1:=if_neg (fun h=>h.elim hne (fun h=>h.elim hv (fun h=>h.elim h1 h2)))
 have zy:=zuB heo.1 heo.2 zm
 refine WPS.peel zab mixed ?_
 conv=>whnf
 refine zaj.late [(10,13,[8])] (by kernel_rfl) ?_
 conv=>whnf
 refine ⟨⟨by omega,by omega,rfl⟩,?_⟩
 rw [Option.map_some,Addr.add_lit]
 conv=>whnf
 refine zao.fld (o:=0) sgq zaN (List.mem_cons_self ..) he (by first | exact zaY rfl | exact zaO rfl) (by decide) (by decide) (fun h=>by cases h) ?_
 conv=>whnf
 refine cd (ztT ⟨PQ e.1,PQ e.2⟩ (Q x) ⟨heo.1.q.le (by decide),heo.2.q.le (by decide)⟩ (zm.q.le (by decide))) ?_
 rw [zse hne]
 obtain ⟨y,hyd⟩ : ∃ y,y=(hgtE e.1 e.2 x).1:=⟨_,rfl⟩
 obtain ⟨ec,hec⟩ : ∃ ec,ec=(hgtE e.1 e.2 x).2:=⟨_,rfl⟩
 rw [←hyd] at hrc zy ⊢
 rw [←hec]
 conv=>whnf
 refine WPS.peel zab mixed ?_
 conv=>whnf
 by_cases hy1 : y=lo.y
 · refine zai ((eqRV y lo.y).trans (decide_eq_true hy1)) ?_
   conv=>whnf
   have hI:=hno (by rw [hrc]; exact if_pos (.inl hy1))
   refine WPS.of zab mixed ?_
   conv=>whnf
   exact ⟨(i+1,A,c,A',c'),⟨by omega,by rw [hI]; exact hc,by rw [hI]; exact hc',hfr'⟩,by show n-(i+1)<n-i; omega,SLe.id ⟨rfl,rfl,by rw [hI]; rfl,by rw [hI]; rfl,rfl,wi,trivial⟩ ⟨⟨_,rfl,.refl _⟩,⟨_,rfl,.refl _⟩,trivial⟩ (fun R hR=>by change R∈[_,zaf _ (rowV ratQ ((strI lo hi P x (i+1)).map (·.1))),zaf _ (rowV intC ((strI lo hi P x (i+1)).map (·.2)))] at hR; rw [hI] at hR; exact hR)⟩
 refine zae ((eqRV y lo.y).trans (decide_eq_false hy1)) ?_
 conv=>whnf
 by_cases hy2 : y=hi.y
 · refine zai ((eqRV y hi.y).trans (decide_eq_true hy2)) ?_
   conv=>whnf
   have hI:=hno (by rw [hrc]; exact if_pos (.inr hy2))
   refine WPS.of zab mixed ?_
   conv=>whnf
   exact ⟨(i+1,A,c,A',c'),⟨by omega,by rw [hI]; exact hc,by rw [hI]; exact hc',hfr'⟩,by show n-(i+1)<n-i; omega,SLe.id ⟨rfl,rfl,by rw [hI]; rfl,by rw [hI]; rfl,rfl,wi,trivial⟩ ⟨⟨_,rfl,.refl _⟩,⟨_,rfl,.refl _⟩,trivial⟩ (fun R hR=>by change R∈[_,zaf _ (rowV ratQ ((strI lo hi P x (i+1)).map (·.1))),zaf _ (rowV intC ((strI lo hi P x (i+1)).map (·.2)))] at hR; rw [hI] at hR; exact hR)⟩
 refine zae ((eqRV y hi.y).trans (decide_eq_false hy2)) ?_
 conv=>whnf
 have hI:=hyes y (by rw [hrc]; exact if_neg (fun h=>h.elim hy1 hy2))
 refine WPS.le (st':=⟨[(1,.o (.v (.slice (some ⟨bB,oB,none⟩) n cB))),(4,.o (.p 4 0)),(9,.o (.v (.slice A' (strI lo hi P x i).length c'))),(10,.o (.v (.slice A (strI lo hi P x i).length c))),(11,.o (.p 11 0)),(12,.o (.v (.int .i64 i))),(13,.o (.p 13 0))],[(4,.box ((boxC ⟨PQ lo,PQ hi⟩).map AV.v) zaG),(11,ratM (Q x)),(13,ratM (Q y))],[zaf (some ⟨bB,oB,none⟩) (rowV sgq P),zaf A (rowV ratQ ((strI lo hi P x i).map (·.1))),zaf A' (rowV intC ((strI lo hi P x i).map (·.2)))]⟩) ?_ (SLe.id ⟨rfl,rfl,rfl,rfl,rfl,rfl,rfl,trivial⟩ ⟨⟨_,rfl,.refl _⟩,⟨_,rfl,.refl _⟩,⟨_,rfl,.refl _⟩,trivial⟩ (fun R hR=>by exact hR))
 obtain ⟨M,hM⟩ : ∃ M,M=strI lo hi P x i:=⟨_,rfl⟩
 obtain ⟨m,hm⟩ : ∃ m,m=M.length:=⟨_,rfl⟩
 rw [←hM] at hI hc hc' zI lI ⊢
 rw [←hm] at hc hc' lI ⊢
 refine WPS.pure (p:=0<m→A.isSome=true) (fun w' hR h=>zap (hR (zaf A (rowV ratQ (M.map (·.1)))) (List.mem_cons_of_mem _ (List.mem_cons_self ..))) (by rw [zag zaP,List.length_map]; omega)) (fun hAs=>?_)
 refine WPS.peel zab mixed ?_
 conv=>whnf
 refine WPS.cutN (J:=fun s=>∃ k,k≤m∧(∀ j z,M[j]?=some z→j<k→z.1<y)∧(∀ z,M[k]?=some z→¬z.1<y)∧SLe ⟨w,[],zaz.ntmps⟩ s ⟨[(1,.o (.v (.slice (some ⟨bB,oB,none⟩) n cB))),(4,.o (.p 4 0)),(9,.o (.v (.slice A' m c'))),(10,.o (.v (.slice A m c))),(11,.o (.p 11 0)),(12,.o (.v (.int .i64 i))),(13,.o (.p 13 0)),(15,.o (.v (.int .i64 k)))],[(4,.box ((boxC ⟨PQ lo,PQ hi⟩).map AV.v) zaG),(11,ratM (Q x)),(13,ratM (Q y))],[zaf (some ⟨bB,oB,none⟩) (rowV sgq P),zaf A (rowV ratQ (M.map (·.1))),zaf A' (rowV intC (M.map (·.2)))]⟩) ?_ ?_
 · refine WPS.block ?_
   refine WPS.loop (ι:=Nat) (fun k=>⟨[(1,.o (.v (.slice (some ⟨bB,oB,none⟩) n cB))),(4,.o (.p 4 0)),(9,.o (.v (.slice A' m c'))),(10,.o (.v (.slice A m c))),(11,.o (.p 11 0)),(12,.o (.v (.int .i64 i))),(13,.o (.p 13 0)),(15,.o (.v (.int .i64 k)))],[(4,.box ((boxC ⟨PQ lo,PQ hi⟩).map AV.v) zaG),(11,ratM (Q x)),(13,ratM (Q y))],[zaf (some ⟨bB,oB,none⟩) (rowV sgq P),zaf A (rowV ratQ (M.map (·.1))),zaf A' (rowV intC (M.map (·.2)))]⟩)
     (fun k=>k≤m∧(∀ j z,M[j]?=some z→j<k→z.1<y)) (fun k=>m-k) 0 ⟨Nat.zero_le _,fun j z _ h=>absurd h (Nat.not_lt_zero j)⟩
     (SLe.id ⟨rfl,rfl,rfl,rfl,rfl,rfl,rfl,rfl,trivial⟩ ⟨⟨_,rfl,.refl _⟩,⟨_,rfl,.refl _⟩,⟨_,rfl,.refl _⟩,trivial⟩ (fun R hR=>hR)) ?_
   intro k ⟨hk,hlt⟩
   refine WPS.peel zab mixed ?_
   conv=>whnf
   refine zaj.quiet (by kernel_rfl) ?_
   conv=>whnf
   by_cases hkm : k<m
   · refine zai (decide_eq_true (show (k : Int)<(m : Int) by omega)) ?_
     obtain ⟨z,hz⟩ : ∃ z,M[k]?=some z:=⟨_,List.getElem?_eq_getElem (by omega)⟩
     have hz1 : (M.map (·.1))[k]?=some z.1:=by rw [List.getElem?_map,hz]; rfl
     conv=>whnf
     refine ⟨⟨by omega,by omega,hAs (by omega)⟩,?_⟩
     conv=>whnf
     refine zao.elem (A:=A) (xs:=M.map (·.1)) (j:=(k : Int)) ratQ zaP (List.mem_cons_of_mem _ (List.mem_cons_self ..)) rfl (by rw [Int.toNat_natCast,List.length_map]; omega) (by decide) (fun h=>by cases h) ?_
     intro z' hz'
     obtain rfl : z'=z.1:=by rw [Int.toNat_natCast,hz1] at hz'; exact (Option.some.inj hz').symm
     conv=>whnf
     refine cd (zaX (Q z.1) (Q y) ((zI z (List.mem_of_getElem? hz)).q.le (by decide)) (zy.q.le (by decide))) ?_
     rw [Q_v,Q_v]
     conv=>whnf
     refine zah ?_ ?_ <;> intro h
     · have hzy : z.1<y:=zbg.1 (of_decide_eq_true h)
       conv=>whnf
       refine WPS.of zab mixed ?_
       conv=>whnf
       refine ⟨k+1,⟨by omega,fun j u hu hj=>?_⟩,by show m-(k+1)<m-k; omega,SLe.id ⟨rfl,rfl,rfl,rfl,rfl,rfl,rfl,zan hkm (by omega),trivial⟩ ⟨⟨_,rfl,.refl _⟩,⟨_,rfl,.refl _⟩,⟨_,rfl,.refl _⟩,trivial⟩ (fun R hR=>hR)⟩
       by_cases hjk : j=k
       · subst hjk; rw [hz] at hu; cases hu; exact hzy
       · exact hlt j u hu (by omega)
     · conv=>whnf
       exact ⟨rfl,k,by omega,hlt,fun u hu hlu=>by
         rw [hz] at hu; cases hu
         exact of_decide_eq_false h (zbg.2 hlu),SLe.id ⟨rfl,rfl,rfl,rfl,rfl,rfl,rfl,rfl,trivial⟩ ⟨⟨_,rfl,.refl _⟩,⟨_,rfl,.refl _⟩,⟨_,rfl,.refl _⟩,trivial⟩ (fun R hR=>hR)⟩
   · refine zae (decide_eq_false (show ¬(k : Int)<(m : Int) by omega)) ?_
     conv=>whnf
     exact ⟨rfl,k,by omega,hlt,fun u hu _=>by have:=(List.getElem?_eq_some_iff.1 hu).1; omega,SLe.id ⟨rfl,rfl,rfl,rfl,rfl,rfl,rfl,rfl,trivial⟩ ⟨⟨_,rfl,.refl _⟩,⟨_,rfl,.refl _⟩,⟨_,rfl,.refl _⟩,trivial⟩ (fun R hR=>hR)⟩
 rintro s ⟨k,hk,hlt,hge,hs⟩
 refine WPS.le ?_ hs
 by_cases hsame : ∃ z,M[k]?=some z∧z.1=y
 · obtain ⟨z,hz,hzy⟩:=hsame
   have hkm : k<m:=by have:=(List.getElem?_eq_some_iff.1 hz).1; omega
   have hI2 : strI lo hi P x (i+1)=M:=by rw [hI]; exact zv1 hlt hz hzy
   have hz1 : (M.map (·.1))[k]?=some z.1:=by rw [List.getElem?_map,hz]; rfl
   refine WPS.peel zab mixed ?_
   conv=>whnf
   refine zaj.quiet (by kernel_rfl) ?_
   conv=>whnf
   refine zai (decide_eq_true (show (k : Int)<(m : Int) by omega)) ?_
   conv=>whnf
   refine ⟨⟨by omega,by omega,hAs (by omega)⟩,?_⟩
   conv=>whnf
   refine zao.elem (A:=A) (xs:=M.map (·.1)) (j:=(k : Int)) ratQ zaP (List.mem_cons_of_mem _ (List.mem_cons_self ..)) rfl (by rw [Int.toNat_natCast,List.length_map]; omega) (by decide) (fun h=>by cases h) ?_
   intro z' hz'
   obtain rfl : z'=z.1:=by rw [Int.toNat_natCast,hz1] at hz'; exact (Option.some.inj hz').symm
   conv=>whnf
   refine zai ((eqRV z.1 y).trans (decide_eq_true hzy)) ?_
   conv=>whnf
   refine WPS.of zab mixed ?_
   conv=>whnf
   exact ⟨(i+1,A,c,A',c'),⟨by omega,by rw [hI2,←hm]; exact hc,by rw [hI2,←hm]; exact hc',hfr'⟩,by show n-(i+1)<n-i; omega,SLe.id ⟨rfl,rfl,by rw [hI2,←hm]; rfl,by rw [hI2,←hm]; rfl,rfl,wi,trivial⟩ ⟨⟨_,rfl,.refl _⟩,⟨_,rfl,.refl _⟩,trivial⟩ (fun R hR=>by change R∈[_,zaf _ (rowV ratQ ((strI lo hi P x (i+1)).map (·.1))),zaf _ (rowV intC ((strI lo hi P x (i+1)).map (·.2)))] at hR; rw [hI2] at hR; exact hR)⟩
 have hgt : ∀ z,M[k]?=some z→y<z.1:=fun z hz=>by
   have h1:=hge z hz
   have h2 : ¬z.1=y:=fun e=>hsame ⟨z,hz,e⟩
   grind
 have hins : insY y i M=M.take k++(y,i)::M.drop k:=zwT hlt hgt (by omega)
 have hlen : (insY y i M).length=m+1:=by
   rw [hins,List.length_append,List.length_cons,List.length_take,List.length_drop]; omega
 refine WPS.cutN (J:=fun s=>SLe ⟨w,[],zaz.ntmps⟩ s ⟨[(1,.o (.v (.slice (some ⟨bB,oB,none⟩) n cB))),(4,.o (.p 4 0)),(9,.o (.v (.slice A' m c'))),(10,.o (.v (.slice A m c))),(11,.o (.p 11 0)),(12,.o (.v (.int .i64 i))),(13,.o (.p 13 0)),(15,.o (.v (.int .i64 k)))],[(4,.box ((boxC ⟨PQ lo,PQ hi⟩).map AV.v) zaG),(11,ratM (Q x)),(13,ratM (Q y))],[zaf (some ⟨bB,oB,none⟩) (rowV sgq P),zaf A (rowV ratQ (M.map (·.1))),zaf A' (rowV intC (M.map (·.2)))]⟩) ?_ ?_
 · refine WPS.of zab mixed ?_
   conv=>whnf
   refine zaj.quiet (by kernel_rfl) ?_
   conv=>whnf
   by_cases hkm : k<m
   · refine zai (decide_eq_true (show (k : Int)<(m : Int) by omega)) ?_
     obtain ⟨z,hz⟩ : ∃ z,M[k]?=some z:=⟨_,List.getElem?_eq_getElem (by omega)⟩
     have hz1 : (M.map (·.1))[k]?=some z.1:=by rw [List.getElem?_map,hz]; rfl
     conv=>whnf
     refine ⟨⟨by omega,by omega,hAs (by omega)⟩,?_⟩
     conv=>whnf
     refine zao.elem (A:=A) (xs:=M.map (·.1)) (j:=(k : Int)) ratQ zaP (List.mem_cons_of_mem _ (List.mem_cons_self ..)) rfl (by rw [Int.toNat_natCast,List.length_map]; omega) (by decide) (fun h=>by cases h) ?_
     intro z' hz'
     obtain rfl : z'=z.1:=by rw [Int.toNat_natCast,hz1] at hz'; exact (Option.some.inj hz').symm
     conv=>whnf
     refine zae ((eqRV z.1 y).trans (decide_eq_false (fun e=>hsame ⟨z,hz,e⟩))) ?_
     conv=>whnf
     exact ⟨rfl,SLe.id ⟨rfl,rfl,rfl,rfl,rfl,rfl,rfl,rfl,trivial⟩ ⟨⟨_,rfl,.refl _⟩,⟨_,rfl,.refl _⟩,⟨_,rfl,.refl _⟩,trivial⟩ (fun R hR=>hR)⟩
   · refine zae (decide_eq_false (show ¬(k : Int)<(m : Int) by omega)) ?_
     conv=>whnf
     exact ⟨rfl,SLe.id ⟨rfl,rfl,rfl,rfl,rfl,rfl,rfl,rfl,trivial⟩ ⟨⟨_,rfl,.refl _⟩,⟨_,rfl,.refl _⟩,⟨_,rfl,.refl _⟩,trivial⟩ (fun R hR=>hR)⟩
 intro s hs
 refine WPS.le ?_ hs
 refine WPS.cutN (J:=fun st=>SLe ⟨w,[],zaz.ntmps⟩ st ⟨[(1,.o (.v (.slice (some ⟨bB,oB,none⟩) n cB))),(4,.o (.p 4 0)),(9,.o (.v (.slice A' m c'))),(10,.o (.w 137)),(11,.o (.p 11 0)),(12,.o (.v (.int .i64 i))),(15,.o (.v (.int .i64 k)))],[(4,.box ((boxC ⟨PQ lo,PQ hi⟩).map AV.v) zaG),(11,ratM (Q x)),(137,.own zaq 3 (m+1) (rowV ratQ ((insY y i M).map (·.1))))],[zaf (some ⟨bB,oB,none⟩) (rowV sgq P),zaf A' (rowV intC (M.map (·.2)))]⟩) ?_ ?_
 · exact zyK bB oB cB n A A' c c' m k i x y lo hi P M w hm hk hc hc' (by omega) hins
 intro st hst
 refine WPS.le ?_ hst
 refine (zyr bB oB cB n A A' c c' m k i x y lo hi P M w hm hk hc hc' (by omega) hins).mono ?_
 rintro e0 st ⟨rfl,hst⟩
 refine WPS.le ?_ hst
 refine WPS.ofX (SLX.freezeF 137 rfl (fun A2 c2 hc2 hf2=>SLX.freezeF 139 rfl (fun A3 c3 hc3 hf3=>SLX.here ?_)))
 refine WPS.of zab mixed ?_
 conv=>whnf
 rw [←hlen] at hc2 hc3
 exact ⟨(i+1,A2,c2,A3,c3),⟨by omega,by rw [hI]; exact hc2,by rw [hI]; exact hc3,hf3⟩,by show n-(i+1)<n-i; omega,SLe.id ⟨rfl,rfl,by rw [hI,hlen]; rfl,by rw [hI,hlen]; rfl,rfl,wi,trivial⟩ ⟨⟨_,rfl,.refl _⟩,⟨_,rfl,.refl _⟩,trivial⟩ (fun R hR=>by
   change R∈[_,zaf _ (rowV ratQ ((strI lo hi P x (i+1)).map (·.1))),zaf _ (rowV intC ((strI lo hi P x (i+1)).map (·.2)))] at hR
   rw [hI] at hR
   rcases List.mem_cons.1 hR with rfl | hR
   · exact List.mem_cons_of_mem _ (List.mem_cons_of_mem _ (List.mem_cons_self ..))
   · rcases List.mem_cons.1 hR with rfl | hR
     · exact List.mem_cons_of_mem _ (List.mem_cons_self ..)
     · rw [List.mem_singleton.1 hR]; exact List.mem_cons_self ..)⟩
end Go.Sx
end
section
set_option maxRecDepth 10000
set_option maxHeartbeats 8000000
namespace Go.Sx
open Go Go.Proofs
def zw3 : OT:=.q 2 (.q 3 (.fork (.alt 4 (.walk [0,1,5,6,7]) (.alt 0 (.fork (.alt 4 (.walk [1,5,6,7]) (.alt 1 (.fork (.alt 4 (.walk [5,6,7]) (.alt 6 (.walk [4,5,7]) .nil))) (.alt 6 (.fork (.alt 4 (.walk [1,5,7]) (.alt 1 (.walk [4,5,7]) .nil))) .nil)))) (.alt 1 (.fork (.alt 4 (.walk [0,5,6,7]) (.alt 0 (.fork (.alt 4 (.walk [5,6,7]) (.alt 6 (.walk [4,5,7]) .nil))) (.alt 6 (.fork (.alt 4 (.walk [0,5,7]) (.alt 0 (.walk [4,5,7]) .nil))) .nil)))) (.alt 6 (.fork (.alt 4 (.walk [0,1,5,7]) (.alt 0 (.fork (.alt 4 (.walk [1,5,7]) (.alt 1 (.walk [4,5,7]) .nil))) (.alt 1 (.fork (.alt 4 (.walk [0,5,7]) (.alt 0 (.walk [4,5,7]) .nil))) .nil)))) .nil))))))
def zwC : OT:=.q 2 (.q 3 (.q 4 (.q 5 (.q 6 (.q 7 (.q 8 (.fork (.alt 9 (.walk [0,1,10,11,12,13]) (.alt 0 (.fork (.alt 9 (.walk [1,10,11,12,13]) (.alt 1 (.walk [9,10,11,12,13]) .nil))) .nil)))))))))
def zwv : OT:=.q 2 (.q 3 (.q 4 (.q 5 (.q 6 (.q 7 (.q 8 (.q 9 (.q 10 (.q 11 (.q 12 (.q 13 (.q 14 (.fork (.alt 15 (.walk [0,1,16,17,18,19]) (.alt 0 (.fork (.alt 15 (.walk [1,16,17,18,19]) (.alt 1 (.walk [15,16,17,18,19]) .nil))) .nil)))))))))))))))
theorem zBj {lo hi : V} {e : V×V} (hlo : SzV K0 lo) (hhi : SzV K0 hi) (he : SzV K0 e.1∧SzV K0 e.2) : SzV KP (clE lo hi e).1∧SzV KP (clE lo hi e).2:=by
 have z0 : SzV KP V0:=⟨(show Sz 1 (0 : Rat) from ⟨by decide,by decide⟩).le (by decide),(show Sz 1 (0 : Rat) from ⟨by decide,by decide⟩).le (by decide)⟩
 unfold clE
 split
 ·exact ⟨z0,z0⟩
 ·rename_i c d h
  split
  ·exact ⟨z0,z0⟩
  ·obtain ⟨z1,z2⟩:=znA hlo hhi he.1 he.2 h
   exact zvK z1 z2
theorem zyQ {AY : Option Addr} {cY : Nat} {Y : List Rat} {LS : List (Ln Rat)} {SS : List (Ln Nat)} {rest : List Res} {R : Res} (h : R∈((LS++[(⟨AY,cY,Y⟩ : Ln Rat)]).map (Ln.R ratQ)++SS.map (Ln.R intC))++rest) : R∈zaf AY (rowV ratQ Y)::((LS.map (Ln.R ratQ)++SS.map (Ln.R intC))++rest):=by
 rw [List.map_append] at h
 exact zv9 h
theorem zv3 {AT : Option Addr} {cT : Nat} {T : List Nat} {LS : List (Ln Rat)} {SS : List (Ln Nat)} {rest : List Res} {R : Res} (h : R∈(LS.map (Ln.R ratQ)++(SS++[(⟨AT,cT,T⟩ : Ln Nat)]).map (Ln.R intC))++rest) : R∈zaf AT (rowV intC T)::((LS.map (Ln.R ratQ)++SS.map (Ln.R intC))++rest):=by
 rw [List.map_append] at h
 have e : (zaf AT (rowV intC T))=Ln.R intC (⟨AT,cT,T⟩ : Ln Nat):=rfl
 simp only [List.mem_append,List.mem_cons,List.map_cons,List.map_nil,List.not_mem_nil,or_false] at *
 rcases h with (h | (h | h)) | h
 ·exact .inr (.inl (.inl h))
 ·exact .inr (.inl (.inr h))
 ·exact .inl (by rw [h,e])
 ·exact .inr (.inr h)
def NewR (w : World) (R : Res) : Prop:=∀ b∈R.bs,w.heap.size≤b
theorem zwb (lo hi : V) (A : Option Addr) (c : Nat) (E : List (V×V)) (hlo : SzV K0 lo) (hhi : SzV K0 hi) (hx : lo.x<hi.x) (hy : lo.y<hi.y) (hE : ∀ e∈E,(SzV K0 e.1∧SzV K0 e.2)∧e.1≠e.2) (hl : E.length≤400) :
   FnM PP zcq [bxV ⟨PQ lo,PQ hi⟩,.slice A E.length c] (facts [zaf A (rowV sgq E)]) (zhU (ι:=zqg lo hi E A c) (fun s=>.tuple #[s.1.V,.int .i64 0]) (fun s=>s.1.F')):=by
 refine FnE.ofS zab mixed zd1 rfl rfl (Nat.le_of_ble_eq_true rfl) (by simp [zaf.ok]) ?_
 intro w hw
 obtain ⟨n,hn⟩ : ∃ n,n=E.length:=⟨_,rfl⟩
 have hA : 0<n→∃ b o,A=some ⟨b,o,none⟩:=fun h=>zoi (zaK hw) (by rw [zag zaN]; omega)
 have hgood : (⟨PQ lo,PQ hi⟩ : Bx).good:=⟨zu8 _,zu8 _,by show (Q lo.x).v<(Q hi.x).v; rw [Q_v,Q_v]; exact hx,by show (Q lo.y).v<(Q hi.y).v; rw [Q_v,Q_v]; exact hy⟩
 have hvb:=zpE ⟨PQ lo,PQ hi⟩ ⟨hlo.q.le (by decide),hhi.q.le (by decide)⟩
 rw [decide_eq_true hgood] at hvb
 have hcl:=zwE lo hi A c E hlo hhi (Rat.le_of_lt hx) (Rat.le_of_lt hy) hE hl
 obtain ⟨P,hP⟩ : ∃ P,P=parL lo hi E:=⟨_,rfl⟩
 have hPl : P.length=E.length:=by rw [hP,List.length_map]
 have hPz : ∀ e∈P,SzV KP e.1∧SzV KP e.2:=fun e he=>by
   rw [hP] at he
   obtain ⟨e0,he0,rfl⟩:=List.mem_map.1 he
   exact zBj hlo hhi (hE e0 he0).1
 rw [show E.map (clE lo hi)=P from hP.symm] at hcl
 rw [←hn] at hcl ⊢
 refine WPS.peel zab mixed ?_
 conv=>whnf
 refine WPS.peel zab mixed ?_
 conv=>whnf
 refine cf hvb ?_
 conv=>whnf
 refine WPS.peel zab mixed ?_
 conv=>whnf
 refine zae (decide_eq_false (show ¬(n : Int)>(400 : Int) by omega)) ?_
 conv=>whnf
 refine WPS.peel zab mixed ?_
 conv=>whnf
 refine zak (ι:=Nat) (fun i=>⟨[(1,.o (.v (.slice A n c))),(2,.o (.p 2 0)),(4,.o (.p 4 0)),(6,.o (.v (.int .i64 i)))],[(2,.box ((boxC ⟨PQ lo,PQ hi⟩).map AV.v) zaG),(4,.box (slZ.map AV.v) zaD)],[zaf A (rowV sgq E)]⟩)
   (fun i=>i≤n) (fun i=>n-i) 0 (Nat.zero_le _)
   (SLe.id ⟨rfl,rfl,rfl,rfl,trivial⟩ ⟨⟨_,rfl,.refl _⟩,⟨_,rfl,.refl _⟩,trivial⟩ (fun R hR=>hR)) ?_
 intro i hi0
 conv=>whnf
 by_cases hin : i<n
 · refine zai (decide_eq_true (show (i : Int)<(n : Int) by omega)) ?_
   obtain ⟨e,he⟩ : ∃ e,E[i]?=some e:=⟨_,List.getElem?_eq_getElem (by omega)⟩
   have heo:=hE e (List.mem_of_getElem? he)
   have hca:=zh5 (PQ e.1) (heo.1.1.q.le (by decide))
   have hcb:=zh5 (PQ e.2) (heo.1.2.q.le (by decide))
   rw [if_pos (zu8 _)] at hca hcb
   obtain ⟨ba,oa,rfl⟩:=hA (by omega)
   conv=>whnf
   refine ⟨⟨by omega,by omega,rfl⟩,?_⟩
   rw [Option.map_some,Addr.add_lit]
   conv=>whnf
   refine zao.fld (o:=0) sgq zaN (List.mem_cons_self ..) he (by first | exact zaY rfl | exact zaO rfl) (by decide) (by decide) (fun h=>by cases h) ?_
   conv=>whnf
   refine cf hca ?_
   conv=>whnf
   refine ⟨⟨by omega,by omega,rfl⟩,?_⟩
   rw [Option.map_some,Addr.add_lit]
   conv=>whnf
   refine zao.fld (o:=6) sgq zaN (List.mem_cons_self ..) he (by first | exact zaY rfl | exact zaO rfl) (by decide) (by decide) (fun h=>by cases h) ?_
   conv=>whnf
   refine cf hcb ?_
   conv=>whnf
   refine zaj.quiet (by kernel_rfl) ?_
   conv=>whnf
   refine ⟨⟨by omega,by omega,rfl⟩,?_⟩
   rw [Option.map_some,Addr.add_lit]
   conv=>whnf
   refine zao.fld (o:=0) sgq zaN (List.mem_cons_self ..) he (by first | exact zaY rfl | exact zaO rfl) (by decide) (by decide) (fun h=>by cases h) ?_
   conv=>whnf
   refine ⟨⟨by omega,by omega,rfl⟩,?_⟩
   rw [Option.map_some,Addr.add_lit]
   conv=>whnf
   refine zao.fld (o:=6) sgq zaN (List.mem_cons_self ..) he (by first | exact zaY rfl | exact zaO rfl) (by decide) (by decide) (fun h=>by cases h) ?_
   conv=>whnf
   refine zae ((eqPV e.1 e.2).trans (decide_eq_false heo.2)) ?_
   conv=>whnf
   exact ⟨i+1,by show i+1≤n; omega,by show n-(i+1)<n-i; omega,SLe.id ⟨rfl,rfl,rfl,zan hin (by omega),trivial⟩ ⟨⟨_,rfl,.refl _⟩,⟨_,rfl,.refl _⟩,trivial⟩ (fun R hR=>hR)⟩
 refine zae (decide_eq_false (show ¬(i : Int)<(n : Int) by omega)) ?_
 conv=>whnf
 refine WPS.peel zab mixed ?_
 conv=>whnf
 refine zac.o 3 hcl.enters (zaB.facts hcl rfl (fun R h=>h)) rfl rfl ?_
 conv=>whnf
 refine WPS.ofX (SLX.freezeF 3 rfl (fun B cB hcB hfB=>SLX.here ?_))
 have hab:=zok lo hi B cB P hlo hhi hx hPz (by omega)
 have hor:=fun x hzx=>zoD lo hi B cB P x hlo hhi hy hPz hzx (by omega)
 have hst:=fun l r hzl hzr=>zAA lo hi B cB P l r hlo hhi hPz hzl hzr (by omega)
 rw [hPl,←hn] at hab
 have hX0 : absI lo hi P n=xsL lo hi (pcsL lo hi E):=by rw [hP,hn]; exact zBC hx E
 have hXz:=zwu hlo hhi hPz n
 have hXl:=zp4 lo hi P n (by omega)
 obtain ⟨X,hX⟩ : ∃ X,X=absI lo hi P n:=⟨_,rfl⟩
 rw [←hX] at hab hX0 hXz hXl
 obtain ⟨nx,hnx⟩ : ∃ nx,nx=X.length:=⟨_,rfl⟩
 rw [←hnx] at hXl hab
 refine WPS.seq ?_
 refine WPS.drawT zab mixed [] (7+4294967296*5) zw3 (K:=fun st=>∃ AX cX,nx≤cX∧NewR w (zaf AX (rowV ratQ X))∧SLe ⟨w,[],zbx.ntmps⟩ st ⟨[(2,.o (.p 2 0)),(4,.o (.p 4 0)),(7,.o (.v (.slice B n cB))),(8,.o (.p 8 0))],[(2,.box ((boxC ⟨PQ lo,PQ hi⟩).map AV.v) zaG),(4,.box (slZ.map AV.v) zaD),(8,.box ((boxC ⟨PQ lo,PQ hi⟩++[Value.slice A n c,Value.slice AX nx cX,nilV,nilV]).map AV.v) zaD)],[zaf AX (rowV ratQ X),zaf B (rowV sgq P),zaf A (rowV sgq E)]⟩) (by kernel_rfl) ?_ ?_
 · conv=>whnf
   repeat' (first
     | exact True.intro
     | (refine And.intro ?_ ?_ <;> (conv=>whnf))
     | (refine zac.e hab.enters (zaB.facts hab rfl (fun R h=>by rw [List.mem_singleton.1 h]; exact List.mem_cons_self ..)) (fun i R hR=>by rw [List.mem_singleton.1 hR]; exact zaf.ok _ _) (fun ⟨⟨AX,cX⟩,hcX⟩ hnew=>?_); conv=>whnf)
     | (refine ⟨_,_,?_,?_,SLe.id ⟨rfl,rfl,rfl,rfl,trivial⟩ ⟨⟨_,rfl,.refl _⟩,⟨_,rfl,.refl _⟩,⟨_,rfl,.refl _⟩,trivial⟩ (fun R hR=>hR)⟩
        · assumption
        · rename_i hnew
          exact hnew _ (List.mem_singleton.2 rfl)))
 rintro st ⟨AX,cX,hcX,hfX,hst0⟩
 refine WPS.le ?_ hst0
 refine WPS.pure (p:=0<X.length→AX.isSome=true) (fun w' hR h=>zap (hR _ (List.mem_cons_self ..)) (by rw [zag zaP]; omega)) (fun hAX=>?_)
 rw [←hnx] at hAX
 refine WPS.seq ?_
 refine WPS.peel zab mixed ?_
 conv=>whnf
 refine WPS.block ?_
 obtain ⟨Yf,hYf⟩ : ∃ Yf : Rat→List Rat,Yf=fun x=>ordI lo hi P x n:=⟨_,rfl⟩
 obtain ⟨Tf,hTf⟩ : ∃ Tf : Rat→Rat→List Nat,Tf=fun l r=>(strI lo hi P ((l+r)/2) n).map (·.2):=⟨_,rfl⟩
 refine WPS.loop (ι:=Nat×List (Ln Rat)×List (Ln Nat)) (fun ⟨i,LS,SS⟩=>⟨[(2,.o (.p 2 0)),(4,.o (.p 4 0)),(7,.o (.v (.slice B n cB))),(8,.o (.p 8 0)),(9,.o (.v (.int .i64 i)))],
     [(2,.box ((boxC ⟨PQ lo,PQ hi⟩).map AV.v) zaG),(4,.box (slZ.map AV.v) zaD),(8,.box ((boxC ⟨PQ lo,PQ hi⟩++[Value.slice A n c,Value.slice AX nx cX]).map AV.v++[.w 120,.w 121]) zaD),(120,.own zcP 1 LS.length (rowV Ln.C LS)),(121,.own zhW 1 SS.length (rowV Ln.C SS))],
     (LS.map (Ln.R ratQ)++SS.map (Ln.R intC))++[zaf AX (rowV ratQ X),zaf B (rowV sgq P),zaf A (rowV sgq E)]⟩)
   (fun ⟨i,LS,SS⟩=>i≤nx∧LS.map (·.xs)=(X.take i).map Yf∧SS.map (·.xs)=zbI Tf (X.take (i+1))∧(∀ l∈LS,NewR w (Ln.R ratQ l))∧(∀ l∈SS,NewR w (Ln.R intC l))) (fun ⟨i,_,_⟩=>nx-i) (0,[],[]) ⟨Nat.zero_le _,rfl,by cases X <;> rfl,(fun l h=>by cases h),(fun l h=>by cases h)⟩
   ((SLe.nilB 8 120 zcP 1 (cs:=(boxC ⟨PQ lo,PQ hi⟩++[Value.slice A n c,Value.slice AX nx cX]).map AV.v) (ds:=[.v nilV]) rfl rfl).trans ((SLe.nilB 8 121 zhW 1 (cs:=(boxC ⟨PQ lo,PQ hi⟩++[Value.slice A n c,Value.slice AX nx cX]).map AV.v++[.w 120]) (ds:=[]) rfl rfl).trans
     (SLe.id ⟨rfl,rfl,rfl,rfl,rfl,trivial⟩ ⟨⟨_,rfl,.refl _⟩,⟨_,rfl,.refl _⟩,⟨_,rfl,.refl _⟩,⟨_,rfl,.refl _⟩,⟨_,rfl,.refl _⟩,trivial⟩ (fun R hR=>hR)))) ?_
 rintro ⟨i,LS,SS⟩ ⟨hi0,hLS,hSS,hFL,hFS⟩
 have hLl : LS.length=i:=by have:=congrArg List.length hLS; simp only [List.length_map,List.length_take] at this; omega
 have hSl : SS.length≤i:=by have:=congrArg List.length hSS; rw [zf7] at this; simp only [List.length_map,List.length_take] at this; omega
 refine WPS.peel zab mixed ?_
 conv=>whnf
 by_cases hin : i<nx
 rotate_left
 · refine zae (decide_eq_false (show ¬(i : Int)<(nx : Int) by omega)) ?_
   rw [List.take_of_length_le (by omega)] at hLS hSS
   refine WPS.of zab mixed ?_
   conv=>whnf
   intro N E1 w' hm
   obtain ⟨AL,cL,hrL,hnL,hsL,hfL⟩:=hm.frz (k:=120) rfl
   obtain ⟨AS,cS,hrS,hnS,hsS,hfS⟩:=hm.frz (k:=121) rfl
   have hXX:=hX0
   have hasc : Asc X:=by rw [hX]; exact zh9 hx P n
   have hLY : LS.map (·.xs)=X.map (ysL lo hi (pcsL lo hi E)):=by
     rw [hLS,hYf]
     refine List.map_congr_left fun x _=>?_
     show ordI lo hi P x n=_
     rw [hP,hn]; exact zBE hy E x
   have hST : SS.map (·.xs)=zbI (zkL lo hi (pcsL lo hi E)) X:=by
     rw [hSS,hTf]
     refine zmh fun c' x y hcx hcy=>?_
     have hxy : x<y:=zl0 hasc hcx hcy (by omega)
     show (strI lo hi P ((x+y)/2) n).map (·.2)=_
     rw [hP,hn]
     refine zBM hxy fun z hz=>?_
     rw [←hXX] at hz
     rintro ⟨h1,h2⟩
     obtain ⟨j,hj⟩:=List.getElem?_of_mem hz
     rcases Nat.lt_trichotomy j c' with hjc | hjc | hjc
     · have:=zl0 hasc hj hcx hjc; grind
     · subst hjc; rw [hcx] at hj; cases hj; grind
     · by_cases h3 : j=c'+1
       · subst h3; rw [hcy] at hj; cases hj; grind
       · have:=zl0 hasc hcy hj (by omega); grind
   refine ⟨⟨⟨lo,hi,⟨A,c,E⟩,⟨AX,cX,X⟩,⟨AL,cL,LS⟩,⟨AS,cS,SS⟩⟩,rfl,rfl,rfl,⟨hXX,hLY,hST⟩,⟨by rw [←hnx]; exact hcX,hnL,hnS⟩⟩,?_,?_,?_⟩
   · show Value.tuple #[.agg ⟨boxC ⟨PQ lo,PQ hi⟩++[Value.slice A n c,Value.slice AX nx cX,(AV.w 120).real E1,(AV.w 121).real E1]⟩,.int .i64 0]=Value.tuple #[.agg ⟨boxC ⟨PQ lo,PQ hi⟩++[Value.slice A E.length c,Value.slice AX X.length cX,Value.slice AL LS.length cL,Value.slice AS SS.length cS]⟩,.int .i64 0]
     rw [hrL,hrS,←hnx,←hn]
   · intro R hR
     rcases List.mem_append.1 hR with hR | hR
     · exact (hm.res R (List.mem_append_left _ hR)).2.1
     · simp only [List.mem_cons,List.not_mem_nil,or_false] at hR
       rcases hR with rfl | rfl | rfl
       · exact hsL
       · exact hsS
       · exact (hm.res _ (List.mem_append_right _ (List.mem_cons_self ..))).2.1
   · intro R hR
     rcases List.mem_append.1 hR with hR | hR
     · rcases List.mem_append.1 hR with hR | hR
       · obtain ⟨l,hl',rfl⟩:=List.mem_map.1 hR; exact hFL l hl'
       · obtain ⟨l,hl',rfl⟩:=List.mem_map.1 hR; exact hFS l hl'
     · simp only [List.mem_cons,List.not_mem_nil,or_false] at hR
       rcases hR with rfl | rfl | rfl
       · exact Fr.bs hfL
       · exact Fr.bs hfS
       · exact hfX
 refine zai (decide_eq_true (show (i : Int)<(nx : Int) by omega)) ?_
 conv=>whnf
 obtain ⟨x,hxi⟩ : ∃ x,X[i]?=some x:=⟨_,List.getElem?_eq_getElem (by omega)⟩
 have hxz:=hXz x (List.mem_of_getElem? hxi)
 have wi : some (SV.o (.v (.int .i64 (IntKind.i64.wrap ((i : Int)+1)))))=some (SV.o (.v (.int .i64 ((i+1 : Nat) : Int)))):=zan hin (by omega)
 have hw1 : IntKind.i64.wrap ((i : Int)+1)=((i+1 : Nat) : Int):=zkv hin (by omega)
 have horx:=hor x hxz
 rw [hPl,←hn] at horx
 obtain ⟨Y,hY⟩ : ∃ Y,Y=ordI lo hi P x n:=⟨_,rfl⟩
 rw [←hY] at horx
 refine WPS.seq ?_
 refine WPS.block ?_
 refine WPS.seq ?_
 refine WPS.drawT zab mixed [] (11+4294967296*10) zwC (K:=fun st=>∃ AY cY,NewR w (zaf AY (rowV ratQ Y))∧SLe ⟨w,[],zbx.ntmps⟩ st ⟨[(2,.o (.p 2 0)),(4,.o (.p 4 0)),(7,.o (.v (.slice B n cB))),(8,.o (.p 8 0)),(9,.o (.v (.int .i64 i)))],
     [(2,.box ((boxC ⟨PQ lo,PQ hi⟩).map AV.v) zaG),(4,.box (slZ.map AV.v) zaD),(8,.box ((boxC ⟨PQ lo,PQ hi⟩++[Value.slice A n c,Value.slice AX nx cX]).map AV.v++[.w 120,.w 121]) zaD),(120,.own zcP 1 (LS++[(⟨AY,cY,Y⟩ : Ln Rat)]).length (rowV Ln.C (LS++[(⟨AY,cY,Y⟩ : Ln Rat)]))),(121,.own zhW 1 SS.length (rowV Ln.C SS))],
     ((LS++[(⟨AY,cY,Y⟩ : Ln Rat)]).map (Ln.R ratQ)++SS.map (Ln.R intC))++[zaf AX (rowV ratQ X),zaf B (rowV sgq P),zaf A (rowV sgq E)]⟩) (by kernel_rfl) ?_ ?_
 · have hb1 : LS.length+1≤9223372036854775807∧(LS.length+1)*24≤140737488355328:=by omega
   have hix : (0 : Int)≤(i : Int)∧(i : Int)<(nx : Int)∧AX.isSome=true:=⟨by omega,by omega,hAX (by omega)⟩
   conv=>whnf
   repeat' (first
     | exact True.intro
     | (refine And.intro ?_ ?_ <;> (conv=>whnf))
     | (refine ⟨hix,?_⟩; conv=>whnf)
     | (refine zao.elem (A:=AX) (xs:=X) (j:=(i : Int)) ratQ zaP (List.mem_append_right _ (List.mem_cons_self ..)) rfl (by rw [Int.toNat_natCast]; omega) (by decide) (fun h=>by cases h) ?_
        intro x' hx'
        obtain rfl : x'=x:=by rw [Int.toNat_natCast,hxi] at hx'; exact (Option.some.inj hx').symm
        conv=>whnf)
     | (refine zac.e horx.enters (zaB.facts horx rfl (fun R h=>by rw [List.mem_singleton.1 h]; exact List.mem_append_right _ (List.mem_cons_of_mem _ (List.mem_cons_self ..)))) (fun i R hR=>by rw [List.mem_singleton.1 hR]; exact zaf.ok _ _) (fun ⟨⟨AY,cY⟩,hcY⟩ hnew=>?_); conv=>whnf)
     | (refine ⟨hb1,?_⟩; conv=>whnf)
     | (refine ⟨AY,cY,?_,SLe.mk (fun k=>bif Nat.beq k 120 then 80 else k) ⟨rfl,rfl,rfl,rfl,rfl,trivial⟩ ⟨⟨_,rfl,.refl _⟩,⟨_,rfl,.refl _⟩,⟨_,rfl,.refl _⟩,⟨_,rfl,?_⟩,⟨_,rfl,.refl _⟩,trivial⟩ rfl (fun R hR=>?_)⟩
        · exact hnew _ (List.mem_singleton.2 rfl)
        · rw [←ln1]; simp only [List.length_append]; exact .refl _
        · exact zyQ hR))
 rintro st ⟨AY,cY,hnY,hst1⟩
 refine WPS.le ?_ hst1
 have hLS' : (LS++[(⟨AY,cY,Y⟩ : Ln Rat)]).map (·.xs)=(X.take (i+1)).map Yf:=by
   rw [zaE hxi,List.map_append,List.map_append,hLS,hY,hYf]; rfl
 have hFL' : ∀ l∈LS++[(⟨AY,cY,Y⟩ : Ln Rat)],NewR w (Ln.R ratQ l):=fun l h=>by
   rcases List.mem_append.1 h with h | h
   · exact hFL l h
   · rw [List.mem_singleton.1 h]; exact hnY
 obtain ⟨L2,hL2⟩ : ∃ L2,L2=LS++[(⟨AY,cY,Y⟩ : Ln Rat)]:=⟨_,rfl⟩
 rw [←hL2] at hLS' hFL' ⊢
 refine WPS.peel zab mixed ?_
 conv=>whnf
 refine WPS.cond rfl (fun hc1=>?_) (fun hc1=>?_)
 rotate_left
 · have hlast : ¬i+1<nx:=fun h=>absurd (of_decide_eq_false hc1) (by rw [hw1]; omega)
   have hSS' : SS.map (·.xs)=zbI Tf (X.take (i+1+1)):=by
     rw [hSS,List.take_of_length_le (by omega),List.take_of_length_le (by omega)]
   refine WPS.of zab mixed ?_
   conv=>whnf
   refine WPS.of zab mixed ?_
   conv=>whnf
   exact ⟨(i+1,L2,SS),⟨by omega,hLS',hSS',hFL',hFS⟩,by show nx-(i+1)<nx-i; omega,SLe.id ⟨rfl,rfl,rfl,rfl,wi,trivial⟩ ⟨⟨_,rfl,.refl _⟩,⟨_,rfl,.refl _⟩,⟨_,rfl,.refl _⟩,⟨_,rfl,.refl _⟩,⟨_,rfl,.refl _⟩,trivial⟩ (fun R hR=>hR)⟩
 have hi1 : i+1<nx:=by have:=of_decide_eq_true hc1; rw [hw1] at this; omega
 obtain ⟨z,hzi⟩ : ∃ z,X[i+1]?=some z:=⟨_,List.getElem?_eq_getElem (by omega)⟩
 have hzz:=hXz z (List.mem_of_getElem? hzi)
 have hstx:=hst x z hxz hzz
 rw [hPl,←hn] at hstx
 have hTl:=zqs lo hi P ((x+z)/2) n
 obtain ⟨T,hT⟩ : ∃ T,T=(strI lo hi P ((x+z)/2) n).map (·.2):=⟨_,rfl⟩
 have hTT : (strI lo hi P ((x+z)/2) n).length=T.length:=by rw [hT,List.length_map]
 rw [←hT,hTT] at hstx
 refine WPS.drawT zab mixed [] (17+4294967296*16) zwv (K:=fun st=>∃ AT cT,NewR w (zaf AT (rowV intC T))∧SLe ⟨w,[],zbx.ntmps⟩ st ⟨[(2,.o (.p 2 0)),(4,.o (.p 4 0)),(7,.o (.v (.slice B n cB))),(8,.o (.p 8 0)),(9,.o (.v (.int .i64 i)))],
     [(2,.box ((boxC ⟨PQ lo,PQ hi⟩).map AV.v) zaG),(4,.box (slZ.map AV.v) zaD),(8,.box ((boxC ⟨PQ lo,PQ hi⟩++[Value.slice A n c,Value.slice AX nx cX]).map AV.v++[.w 120,.w 121]) zaD),(120,.own zcP 1 L2.length (rowV Ln.C L2)),(121,.own zhW 1 (SS++[(⟨AT,cT,T⟩ : Ln Nat)]).length (rowV Ln.C (SS++[(⟨AT,cT,T⟩ : Ln Nat)])))],
     (L2.map (Ln.R ratQ)++(SS++[(⟨AT,cT,T⟩ : Ln Nat)]).map (Ln.R intC))++[zaf AX (rowV ratQ X),zaf B (rowV sgq P),zaf A (rowV sgq E)]⟩) (by kernel_rfl) ?_ ?_
 · have hb1 : SS.length+1≤9223372036854775807∧(SS.length+1)*24≤140737488355328:=by omega
   have hix : (0 : Int)≤(i : Int)∧(i : Int)<(nx : Int)∧AX.isSome=true:=⟨by omega,by omega,hAX (by omega)⟩
   have hix1 : (0 : Int)≤IntKind.i64.wrap ((i : Int)+1)∧IntKind.i64.wrap ((i : Int)+1)<(nx : Int)∧AX.isSome=true:=⟨by rw [hw1]; omega,by rw [hw1]; omega,hAX (by omega)⟩
   conv=>whnf
   repeat' (first
     | exact True.intro
     | (refine And.intro ?_ ?_ <;> (conv=>whnf))
     | (refine ⟨hix,?_⟩; conv=>whnf)
     | (refine ⟨hix1,?_⟩; conv=>whnf)
     | (refine zao.elem (A:=AX) (xs:=X) (j:=(i : Int)) ratQ zaP (List.mem_append_right _ (List.mem_cons_self ..)) rfl (by rw [Int.toNat_natCast]; omega) (by decide) (fun h=>by cases h) ?_
        intro x' hx'
        obtain rfl : x'=x:=by rw [Int.toNat_natCast,hxi] at hx'; exact (Option.some.inj hx').symm
        conv=>whnf)
     | (refine zao.elem (A:=AX) (xs:=X) (j:=((i+1 : Nat) : Int)) ratQ zaP (List.mem_append_right _ (List.mem_cons_self ..)) (by rw [hw1]) (by rw [Int.toNat_natCast]; omega) (by decide) (fun h=>by cases h) ?_
        intro z' hz'
        obtain rfl : z'=z:=by rw [Int.toNat_natCast,hzi] at hz'; exact (Option.some.inj hz').symm
        conv=>whnf)
     | (refine zac.e hstx.enters (zaB.facts hstx rfl (fun R h=>by rw [List.mem_singleton.1 h]; exact List.mem_append_right _ (List.mem_cons_of_mem _ (List.mem_cons_self ..)))) (fun i R hR=>by rw [List.mem_singleton.1 hR]; exact zaf.ok _ _) (fun ⟨⟨AT,cT⟩,hcT⟩ hnew=>?_); conv=>whnf)
     | (refine ⟨hb1,?_⟩; conv=>whnf)
     | (refine ⟨AT,cT,?_,SLe.mk (fun k=>bif Nat.beq k 121 then 105 else k) ⟨rfl,rfl,rfl,rfl,rfl,trivial⟩ ⟨⟨_,rfl,.refl _⟩,⟨_,rfl,.refl _⟩,⟨_,rfl,.refl _⟩,⟨_,rfl,.refl _⟩,⟨_,rfl,?_⟩,trivial⟩ rfl (fun R hR=>?_)⟩
        · exact hnew _ (List.mem_singleton.2 rfl)
        · rw [←ln1]; simp only [List.length_append]; exact .refl _
        · exact zv3 hR))
 rintro st ⟨AT,cT,hnT,hst2⟩
 refine WPS.le ?_ hst2
 have hSS' : (SS++[(⟨AT,cT,T⟩ : Ln Nat)]).map (·.xs)=zbI Tf (X.take (i+1+1)):=by
   rw [zaE hzi,zaE hxi,List.append_assoc,show [x]++[z]=[x,z] from rfl,zhd,←zaE hxi,List.map_append,hSS,hT,hTf]; rfl
 have hFS' : ∀ l∈SS++[(⟨AT,cT,T⟩ : Ln Nat)],NewR w (Ln.R intC l):=fun l h=>by
   rcases List.mem_append.1 h with h | h
   · exact hFS l h
   · rw [List.mem_singleton.1 h]; exact hnT
 refine WPS.of zab mixed ?_
 conv=>whnf
 exact ⟨(i+1,L2,SS++[(⟨AT,cT,T⟩ : Ln Nat)]),⟨by omega,hLS',hSS',hFL',hFS'⟩,by show nx-(i+1)<nx-i; omega,SLe.id ⟨rfl,rfl,rfl,rfl,wi,trivial⟩ ⟨⟨_,rfl,.refl _⟩,⟨_,rfl,.refl _⟩,⟨_,rfl,.refl _⟩,⟨_,rfl,.refl _⟩,⟨_,rfl,.refl _⟩,trivial⟩ (fun R hR=>hR)⟩
end Go.Sx
end
section
set_option maxRecDepth 10000
set_option maxHeartbeats 4000000
namespace Go.Sx
open Go Go.Proofs
theorem zyh (a b : V) : (((PQ a).x.neg==(PQ a).x.neg&&((bs (PQ a).x.num).toList==(bs (PQ a).x.num).toList&&((bs (PQ a).x.den).toList==(bs (PQ a).x.den).toList&&((PQ a).y.neg==(PQ a).y.neg&&((bs (PQ a).y.num).toList==(bs (PQ a).y.num).toList&&((bs (PQ a).y.den).toList==(bs (PQ a).y.den).toList&&((PQ b).x.neg==(PQ b).x.neg&&((bs (PQ b).x.num).toList==(bs (PQ b).x.num).toList&&((bs (PQ b).x.den).toList==(bs (PQ b).x.den).toList&&((PQ b).y.neg==(PQ b).y.neg&&((bs (PQ b).y.num).toList==(bs (PQ b).y.num).toList&&((bs (PQ b).y.den).toList==(bs (PQ b).y.den).toList&&true)))))))))))))=true:=by
 simp only [beq_self_eq_true,Bool.true_and]
theorem zzl {α : Type} {l m : List (Ln α)} (h : m.map (·.xs)=l.map (·.xs)) {i : Nat} {x y : Ln α} (hx : l[i]?=some x) (hy : m[i]?=some y) : y.xs=x.xs:=by
 have h1:=congrArg (fun z=>z[i]?) h
 simp only [List.getElem?_map,hx,hy,Option.map_some,Option.some.injEq] at h1
 exact h1
theorem zzp (s t : Sl) (hlo : t.lo=s.lo) (hhi : t.hi=s.hi) (hsg : t.sg.xs=s.sg.xs) (hX : t.X.xs=s.X.xs) (hL : t.L.xs.map (·.xs)=s.L.xs.map (·.xs)) (hS : t.S.xs.map (·.xs)=s.S.xs.map (·.xs))
  (k1 : s.sg.xs.length≤100000000) (k2 : s.X.xs.length≤100000000) (k3 : s.L.xs.length≤100000000) (k4 : s.S.xs.length≤100000000) (k5 : ∀ l∈s.L.xs,l.xs.length≤100000000) (k6 : ∀ l∈s.S.xs,l.xs.length≤100000000) :
  FnM PP zeK [s.V,t.V] (facts (s.F++t.F)) (zbu (.bool true)):=by
 refine FnS.of zab mixed zj0 rfl rfl (Nat.le_of_ble_eq_true rfl) (fun R hR=>(List.mem_append.1 hR).elim (s.F_ok R) (t.F_ok R)) ?_
 intro w hw
 have nL : t.L.xs.length=s.L.xs.length:=by have:=congrArg List.length hL; simpa using this
 have nS : t.S.xs.length=s.S.xs.length:=by have:=congrArg List.length hS; simpa using this
 have hAL : 0<s.L.xs.length→s.L.A.isSome=true:=fun h=>zap (hw _ (List.mem_append_left _ Sl.F_L)) (by rw [zag Ln.C_len]; omega)
 have hBL : 0<s.L.xs.length→t.L.A.isSome=true:=fun h=>zap (hw _ (List.mem_append_right _ Sl.F_L)) (by rw [zag Ln.C_len]; omega)
 have hAS : 0<s.S.xs.length→s.S.A.isSome=true:=fun h=>zap (hw _ (List.mem_append_left _ Sl.F_S)) (by rw [zag Ln.C_len]; omega)
 have hBS : 0<s.S.xs.length→t.S.A.isSome=true:=fun h=>zap (hw _ (List.mem_append_right _ Sl.F_S)) (by rw [zag Ln.C_len]; omega)
 have h1:=zzN s.sg.A t.sg.A s.sg.c t.sg.c s.sg.xs t.sg.xs k1 (by rw [hsg]; exact k1)
 rw [decide_eq_true hsg.symm] at h1
 have h2:=zpT s.X.A t.X.A s.X.c t.X.c s.X.xs t.X.xs k2 (by rw [hX]; exact k2)
 rw [decide_eq_true hX.symm] at h2
 have hbx : ∀ (a b c d : V),c=a→d=b→(((PQ a).x.neg==(PQ c).x.neg&&((bs (PQ a).x.num).toList==(bs (PQ c).x.num).toList&&((bs (PQ a).x.den).toList==(bs (PQ c).x.den).toList&&((PQ a).y.neg==(PQ c).y.neg&&((bs (PQ a).y.num).toList==(bs (PQ c).y.num).toList&&((bs (PQ a).y.den).toList==(bs (PQ c).y.den).toList&&((PQ b).x.neg==(PQ d).x.neg&&((bs (PQ b).x.num).toList==(bs (PQ d).x.num).toList&&((bs (PQ b).x.den).toList==(bs (PQ d).x.den).toList&&((PQ b).y.neg==(PQ d).y.neg&&((bs (PQ b).y.num).toList==(bs (PQ d).y.num).toList&&((bs (PQ b).y.den).toList==(bs (PQ d).y.den).toList&&true)))))))))))))=true:=fun a b c d e1 e2=>by
  subst e1 e2; exact zyh _ _
 have hb:=hbx s.lo s.hi t.lo t.hi hlo hhi
 clear hbx
 have hnL : (!((s.L.xs.length : Int)==(t.L.xs.length : Int)))=false:=by rw [nL]; simp
 have hnS : (!((s.S.xs.length : Int)==(t.S.xs.length : Int)))=false:=by rw [nS]; simp
 conv=>whnf
 refine zae (congrArg (!·) hb) ?_
 conv=>whnf
 refine cfs h1 ?_ rfl (fun R hR=>?_)
 rotate_left
 ·rcases List.mem_cons.1 hR with rfl | hR
  ·exact List.mem_append_left _ Sl.F_sg
  ·rw [List.mem_singleton.1 hR]; exact List.mem_append_right _ Sl.F_sg
 conv=>whnf
 refine cfs h2 ?_ rfl (fun R hR=>?_)
 rotate_left
 ·rcases List.mem_cons.1 hR with rfl | hR
  ·exact List.mem_append_left _ Sl.F_X
  ·rw [List.mem_singleton.1 hR]; exact List.mem_append_right _ Sl.F_X
 conv=>whnf
 refine zae hnL ?_
 conv=>whnf
 refine zae hnS ?_
 conv=>whnf
 refine zak (ι:=Nat) (fun i=>⟨[(2,.o (.p 2 0)),(3,.o (.p 3 0)),(5,.o (.v (.int .i64 i)))],[(2,.box (s.C.map AV.v) zaD),(3,.box (t.C.map AV.v) zaD)],s.F++t.F⟩)
  (fun i=>i≤s.L.xs.length) (fun i=>s.L.xs.length-i) 0 (Nat.zero_le _) (SLe.id ⟨rfl,rfl,rfl,trivial⟩ ⟨⟨_,rfl,.refl _⟩,⟨_,rfl,.refl _⟩,trivial⟩ (fun R hR=>hR)) ?_
 intro i hi
 conv=>whnf
 by_cases hin : i<s.L.xs.length
 ·refine zai (decide_eq_true (show (i : Int)<(s.L.xs.length : Int) by omega)) ?_
  obtain ⟨x,hx⟩ : ∃ x,s.L.xs[i]?=some x:=⟨_,List.getElem?_eq_getElem (by omega)⟩
  obtain ⟨y,hy⟩ : ∃ y,t.L.xs[i]?=some y:=⟨_,List.getElem?_eq_getElem (by omega)⟩
  have hxy:=zzl hL hx hy
  have hm1:=List.mem_of_getElem? hx
  have hm2:=List.mem_of_getElem? hy
  have h3:=zpT x.A y.A x.c y.c x.xs y.xs (k5 x hm1) (by rw [hxy]; exact k5 x hm1)
  rw [decide_eq_true hxy.symm] at h3
  conv=>whnf
  refine zaj.quiet (by kernel_rfl) ?_
  conv=>whnf
  refine ⟨⟨by omega,by omega,hAL (by omega)⟩,?_⟩
  conv=>whnf
  refine zao.elem (A:=s.L.A) (xs:=s.L.xs) (j:=(i : Int)) Ln.C Ln.C_len (List.mem_append_left _ Sl.F_L) rfl (by rw [Int.toNat_natCast]; omega) (by decide) (fun _=>rfl) ?_
  intro x' hx'
  obtain rfl:=zbV hx' hx
  conv=>whnf
  refine ⟨⟨by omega,by omega,hBL (by omega)⟩,?_⟩
  conv=>whnf
  refine zao.elem (A:=t.L.A) (xs:=t.L.xs) (j:=(i : Int)) Ln.C Ln.C_len (List.mem_append_right _ Sl.F_L) rfl (by rw [Int.toNat_natCast]; omega) (by decide) (fun _=>rfl) ?_
  intro y' hy'
  obtain rfl:=zbV hy' hy
  conv=>whnf
  refine cds h3 ?_ rfl (fun R hR=>?_)
  rotate_left
  ·rcases List.mem_cons.1 hR with rfl | hR
   ·exact List.mem_append_left _ (Sl.F_l hm1)
   ·rw [List.mem_singleton.1 hR]; exact List.mem_append_right _ (Sl.F_l hm2)
  conv=>whnf
  exact ⟨i+1,by show i+1≤s.L.xs.length; omega,by show s.L.xs.length-(i+1)<s.L.xs.length-i; omega,SLe.id ⟨rfl,rfl,zan hin (by omega),trivial⟩ ⟨⟨_,rfl,.refl _⟩,⟨_,rfl,.refl _⟩,trivial⟩ (fun R hR=>hR)⟩
 refine zae (decide_eq_false (show ¬(i : Int)<(s.L.xs.length : Int) by omega)) ?_
 conv=>whnf
 refine zak (ι:=Nat) (fun i=>⟨[(2,.o (.p 2 0)),(3,.o (.p 3 0)),(6,.o (.v (.int .i64 i)))],[(2,.box (s.C.map AV.v) zaD),(3,.box (t.C.map AV.v) zaD)],s.F++t.F⟩)
  (fun i=>i≤s.S.xs.length) (fun i=>s.S.xs.length-i) 0 (Nat.zero_le _) (SLe.id ⟨rfl,rfl,rfl,trivial⟩ ⟨⟨_,rfl,.refl _⟩,⟨_,rfl,.refl _⟩,trivial⟩ (fun R hR=>hR)) ?_
 intro j hj
 conv=>whnf
 by_cases hjn : j<s.S.xs.length
 ·refine zai (decide_eq_true (show (j : Int)<(s.S.xs.length : Int) by omega)) ?_
  obtain ⟨x,hx⟩ : ∃ x,s.S.xs[j]?=some x:=⟨_,List.getElem?_eq_getElem (by omega)⟩
  obtain ⟨y,hy⟩ : ∃ y,t.S.xs[j]?=some y:=⟨_,List.getElem?_eq_getElem (by omega)⟩
  have hxy:=zzl hS hx hy
  have hm1:=List.mem_of_getElem? hx
  have hm2:=List.mem_of_getElem? hy
  have h3:=zvz x.A y.A x.c y.c x.xs y.xs (k6 x hm1) (by rw [hxy]; exact k6 x hm1)
  rw [decide_eq_true hxy.symm] at h3
  conv=>whnf
  refine zaj.quiet (by kernel_rfl) ?_
  conv=>whnf
  refine ⟨⟨by omega,by omega,hAS (by omega)⟩,?_⟩
  conv=>whnf
  refine zao.elem (A:=s.S.A) (xs:=s.S.xs) (j:=(j : Int)) Ln.C Ln.C_len (List.mem_append_left _ Sl.F_S) rfl (by rw [Int.toNat_natCast]; omega) (by decide) (fun _=>rfl) ?_
  intro x' hx'
  obtain rfl:=zbV hx' hx
  conv=>whnf
  refine ⟨⟨by omega,by omega,hBS (by omega)⟩,?_⟩
  conv=>whnf
  refine zao.elem (A:=t.S.A) (xs:=t.S.xs) (j:=(j : Int)) Ln.C Ln.C_len (List.mem_append_right _ Sl.F_S) rfl (by rw [Int.toNat_natCast]; omega) (by decide) (fun _=>rfl) ?_
  intro y' hy'
  obtain rfl:=zbV hy' hy
  conv=>whnf
  refine cds h3 ?_ rfl (fun R hR=>?_)
  rotate_left
  ·rcases List.mem_cons.1 hR with rfl | hR
   ·exact List.mem_append_left _ (Sl.F_s hm1)
   ·rw [List.mem_singleton.1 hR]; exact List.mem_append_right _ (Sl.F_s hm2)
  conv=>whnf
  exact ⟨j+1,by show j+1≤s.S.xs.length; omega,by show s.S.xs.length-(j+1)<s.S.xs.length-j; omega,SLe.id ⟨rfl,rfl,zan hjn (by omega),trivial⟩ ⟨⟨_,rfl,.refl _⟩,⟨_,rfl,.refl _⟩,trivial⟩ (fun R hR=>hR)⟩
 refine zae (decide_eq_false (show ¬(j : Int)<(s.S.xs.length : Int) by omega)) ?_
 conv=>whnf
 exact zaa rfl
theorem zy2 (s : Sl) (h : s.X.xs.length=0) : FnM PP zcr [s.V] (facts s.F) (zdn zaZ 3 0 []):=by
 refine FnO.of zab mixed zeh rfl rfl (Nat.le_of_ble_eq_true rfl) s.F_ok ?_
 intro w hw
 conv=>whnf
 refine zak (ι:=Unit) (fun _=>⟨[(1,.o (.p 1 0)),(3,.o (.w 7)),(4,.o (.v (.int .i64 0)))],[(1,.box (s.C.map AV.v) zaD),(7,.own zaZ 3 0 [])],s.F⟩)
  (fun _=>True) (fun _=>0) () trivial
  ((SLe.lit0 3 7 8 zaZ 3 rfl rfl rfl).trans (SLe.mk (fun k=>bif Nat.beq k 7 then 8 else k) ⟨rfl,rfl,rfl,trivial⟩ ⟨⟨_,rfl,.refl _⟩,⟨_,rfl,.refl _⟩,trivial⟩ rfl (fun R hR=>hR))) ?_
 intro _ _
 conv=>whnf
 refine zae (decide_eq_false (show ¬(0 : Int)<(s.X.xs.length : Int) by omega)) ?_
 conv=>whnf
 exact ⟨7,rfl,rfl⟩
end Go.Sx
end
section
set_option maxRecDepth 10000
set_option maxHeartbeats 4000000
namespace Go.Sx
open Go Go.Proofs
theorem zvs (b : Bx) (A : Option Addr) (c : Nat) (l : List (Pt×Pt)) (hb : b.sm K0) (hl : ∀ e∈l,e.1.sm K0∧e.2.sm K0) (hn : l.length≤1000) (he : bldE b l≠0) :
  FnM PP zcq [bxV b,.slice A l.length c] (facts [zaf A (rowV sgC l)]) (zbu (.tuple #[.agg ⟨slZ⟩,.int .i64 (bldE b l)])):=by
 refine FnS.of zab mixed zd1 rfl rfl (Nat.le_of_ble_eq_true rfl) (by simp [zaf.ok]) ?_
 intro w hw
 obtain ⟨n,hnd⟩ : ∃ n,n=l.length:=⟨_,rfl⟩
 have hA : 0<n→∃ b o,A=some ⟨b,o,none⟩:=fun h=>zoi (zaK hw) (by rw [zag zdW]; omega)
 have hvb:=zpE b ⟨hb.1.le (by decide),hb.2.le (by decide)⟩
 have hE : bldE b l=if ¬b.good then 1 else if 400<n then 4 else segE l:=by rw [bldE,hnd]
 rw [←hnd] at hn ⊢
 conv=>whnf
 refine cf hvb ?_
 by_cases hg : b.good
 rotate_left
 ·rw [decide_eq_false hg]
  rw [if_pos hg] at hE
  conv=>whnf
  rw [hE]
  exact zas rfl
 rw [decide_eq_true hg]
 rw [if_neg (fun h=>h hg)] at hE
 conv=>whnf
 by_cases h4 : 400<n
 ·refine zai (decide_eq_true (show (n : Int)>(400 : Int) by omega)) ?_
  rw [if_pos h4] at hE
  conv=>whnf
  rw [hE]
  exact zas rfl
 refine zae (decide_eq_false (show ¬(n : Int)>(400 : Int) by omega)) ?_
 rw [if_neg h4] at hE
 conv=>whnf
 refine zak (ι:=Nat) (fun i=>⟨[(1,.o (.v (.slice A n c))),(4,.o (.p 4 0)),(6,.o (.v (.int .i64 i)))],[(4,.box (slZ.map AV.v) zaD)],[zaf A (rowV sgC l)]⟩)
  (fun i=>i≤n∧segE (l.drop i)=segE l) (fun i=>n-i) 0 ⟨Nat.zero_le _,rfl⟩
  (SLe.id ⟨rfl,rfl,rfl,trivial⟩ ⟨⟨_,rfl,.refl _⟩,trivial⟩ (fun R hR=>hR)) ?_
 rintro i ⟨hi0,hd⟩
 conv=>whnf
 by_cases hin : i<n
 rotate_left
 ·exfalso
  rw [List.drop_of_length_le (by omega)] at hd
  exact he (by rw [hE,←hd]; rfl)
 refine zai (decide_eq_true (show (i : Int)<(n : Int) by omega)) ?_
 obtain ⟨e,hee⟩ : ∃ e,l[i]?=some e:=⟨_,List.getElem?_eq_getElem (by omega)⟩
 have heo:=hl e (List.mem_of_getElem? hee)
 have hca:=zh5 e.1 (heo.1.le (by decide))
 have hcb:=zh5 e.2 (heo.2.le (by decide))
 rw [zrW hee] at hd
 obtain ⟨ba,oa,rfl⟩:=hA (by omega)
 conv=>whnf
 refine ⟨⟨by omega,by omega,rfl⟩,?_⟩
 rw [Option.map_some,Addr.add_lit]
 conv=>whnf
 refine zao.fld (o:=0) sgC zdW (List.mem_cons_self ..) hee (by first | exact zaY rfl | exact zaO rfl) (by decide) (by decide) (fun h=>by cases h) ?_
 conv=>whnf
 refine cf hca ?_
 by_cases h1 : e.1.ok
 rotate_left
 ·rw [if_pos (fun h=>h1 h.1)] at hd
  rw [if_neg h1]
  conv=>whnf
  rw [hE,←hd]
  exact zas rfl
 rw [if_pos h1]
 conv=>whnf
 refine ⟨⟨by omega,by omega,rfl⟩,?_⟩
 rw [Option.map_some,Addr.add_lit]
 conv=>whnf
 refine zao.fld (o:=6) sgC zdW (List.mem_cons_self ..) hee (by first | exact zaY rfl | exact zaO rfl) (by decide) (by decide) (fun h=>by cases h) ?_
 conv=>whnf
 refine cf hcb ?_
 by_cases h2 : e.2.ok
 rotate_left
 ·rw [if_pos (fun h=>h2 h.2)] at hd
  rw [if_neg h2]
  conv=>whnf
  rw [hE,←hd]
  exact zas rfl
 rw [if_pos h2]
 rw [if_neg (fun h=>h ⟨h1,h2⟩)] at hd
 have hq1:=Pt.ok_eq h1
 have hq2:=Pt.ok_eq h2
 conv=>whnf
 refine zaj.quiet (by kernel_rfl) ?_
 conv=>whnf
 refine ⟨⟨by omega,by omega,rfl⟩,?_⟩
 rw [Option.map_some,Addr.add_lit]
 conv=>whnf
 refine zao.fld (o:=0) sgC zdW (List.mem_cons_self ..) hee (by first | exact zaY rfl | exact zaO rfl) (by decide) (by decide) (fun h=>by cases h) ?_
 conv=>whnf
 refine ⟨⟨by omega,by omega,rfl⟩,?_⟩
 rw [Option.map_some,Addr.add_lit]
 conv=>whnf
 refine zao.fld (o:=6) sgC zdW (List.mem_cons_self ..) hee (by first | exact zaY rfl | exact zaO rfl) (by decide) (by decide) (fun h=>by cases h) ?_
 conv=>whnf
 by_cases h3 : e.1=e.2
 ·rw [if_pos h3] at hd
  refine zai (by rw [hq1,hq2]; exact (eqPV e.1.v e.2.v).trans (decide_eq_true (by rw [h3]))) ?_
  conv=>whnf
  rw [hE,←hd]
  exact zas rfl
 rw [if_neg h3] at hd
 refine zae (by rw [hq1,hq2]; exact (eqPV e.1.v e.2.v).trans (decide_eq_false (fun k=>h3 (by rw [hq1,hq2,k])))) ?_
 conv=>whnf
 exact ⟨i+1,⟨by omega,hd⟩,by show n-(i+1)<n-i; omega,SLe.id ⟨rfl,rfl,zan hin (by omega),trivial⟩ ⟨⟨_,rfl,.refl _⟩,trivial⟩ (fun R hR=>hR)⟩
end Go.Sx
end
section
/- Arguments of the laws: boxes, slices of segments. -/
set_option maxRecDepth 10000
set_option maxHeartbeats 2000000
namespace Go.Sx
open Go Go.Proofs Go.ChangeShapes Go.WideShapes Go.RowKit Go.Deep
section
variable {H : Type} {enc : TypeId×Value→H} {w : World} {base : Nat} {spare : Nat→Bool} {held : Bool} {fuel : Nat} {cs : List Value} {x : DataW H×List MemPlace}
theorem zw9 : PP.cellsOf zaG=12:=by kernel_rfl
theorem zyA (h : DataW.trod enc PP w base spare held fuel zaG cs=some x) : ∃ e : Pt×Pt,cs=sgC e:=by
 obtain ⟨xs,n,_,_,hlen,hxl,hf⟩:=DataW.trod_struct (zab zaG _ rfl).1.und h
 rw [zw9] at hlen
 obtain ⟨y0,h0⟩:=zem (show 0<xs.length by rw [hxl]; decide)
 obtain ⟨y1,h1⟩:=zem (show 1<xs.length by rw [hxl]; decide)
 have g0 : DataW.trod enc PP w base spare held n za5 ((cs.drop 0).take (PP.cellsOf za5))=xs[0]?:=hf 0 _ rfl
 have g1 : DataW.trod enc PP w base spare held n za5 ((cs.drop 6).take (PP.cellsOf za5))=xs[1]?:=hf 1 _ rfl
 rw [h0] at g0; rw [h1] at g1
 rw [zjB] at g0 g1
 obtain ⟨p,e0⟩:=zpX g0
 obtain ⟨q,e1⟩:=zpX g1
 refine ⟨(p,q),?_⟩
 rw [List.take_of_length_le (by rw [List.length_drop]; omega)] at e1
 rw [List.drop_zero] at e0
 rw [sgC,←e0,←e1,List.take_append_drop]
theorem zx3 {r : Reach} {b : Nat} {v : Value} {d : DataW H} {ps : List MemPlace} (hv : Value.okWide PP w r b zaG v) (h : DataW.Trod enc PP w base spare held zaG v d ps) : ∃ s : Bx,v=bxV s:=by
 obtain ⟨cs,rfl,_⟩:=okWide_struct (zab zaG _ rfl).1.und hv
 obtain ⟨fuel,hf⟩:=h
 obtain ⟨e,hr⟩:=zyA hf
 exact ⟨⟨e.1,e.2⟩,by cases cs; exact congrArg (fun l : List Value=>Value.agg ⟨l⟩) hr⟩
theorem zy1 {r : Reach} {b : Nat} {v : Value} {d : DataW H} {ps : List MemPlace} (hv : Value.okWide PP w r b zbR v) (h : DataW.Trod enc PP w base spare held zbR v d ps) :
  ∃ (A : Option Addr) (c : Nat) (l : List (Pt×Pt)),v=.slice A l.length c∧l.length≤c∧SlF A (rowV sgC l) w:=by
 obtain ⟨a,len,cap,rfl⟩:=okWide_slice (zab zbR _ rfl).1.und hv
 obtain ⟨fuel,hf⟩:=h
 obtain ⟨A,c,l,e,h1,h2⟩:=zyT sgC zdW (by decide) (zab zbR _ rfl).1.und zkD zzG hf
 exact ⟨A,c,l,List.head_eq_of_cons_eq e,h1,h2⟩
end
end Go.Sx
end
section
/- The laws of slab. -/
set_option maxRecDepth 10000
set_option maxHeartbeats 2000000
namespace Go.Sx
open Go Go.Proofs
structure Bld (b : Bx) (l : List (Pt×Pt)) (lo hi : V) (E : List (V×V)) : Prop where
 hb : b=⟨PQ lo,PQ hi⟩
 hl : l=E.map fun e=>(PQ e.1,PQ e.2)
 grt : zhT b l=false
 len : E.length≤8
 x : lo.x<hi.x
 y : lo.y<hi.y
 zlo : SzV K0 lo
 zhi : SzV K0 hi
 E : ∀ e∈E,(SzV K0 e.1∧SzV K0 e.2)∧e.1≠e.2
theorem zyO {a : V} (h : (PQ a).sm K0) : SzV K0 a:=by
 have:=h.sz (k:=K0) (by decide)
 rwa [PQ_v] at this
theorem Bld.of {b : Bx} {l : List (Pt×Pt)} (h : ¬(zhT b l=true∨8<l.length∨bldE b l≠0)) : ∃ lo hi E,Bld b l lo hi E:=by
 have h1 : zhT b l=false:=by
  cases hg : zhT b l with
  | true=>exact absurd (.inl hg) h
  | false=>rfl
 have h2 : ¬8<l.length:=fun k=>h (.inr (.inl k))
 have h3 : bldE b l=0:=Classical.byContradiction fun k=>h (.inr (.inr k))
 obtain ⟨lo,hi,E,rfl,hx,hy,rfl,hE,hl⟩:=zsC h3
 obtain ⟨hb,hs,_,_⟩:=zzi h1
 refine ⟨lo,hi,E,rfl,rfl,h1,by rw [List.length_map] at h2; omega,hx,hy,zyO hb.1,zyO hb.2,fun e he=>?_⟩
 have:=hs (PQ e.1,PQ e.2) (List.mem_map.2 ⟨e,he,rfl⟩)
 exact ⟨⟨zyO this.1,zyO this.2⟩,hE e he⟩
end Go.Sx
end
section
/- The law SlabBuilds. -/
set_option maxRecDepth 10000
set_option maxHeartbeats 4000000
namespace Go.Sx
open Go Go.Proofs
def slE : Sl:=⟨V0,V0,⟨none,0,[]⟩,⟨none,0,[]⟩,⟨none,0,[]⟩,⟨none,0,[]⟩⟩
theorem zCl : slE.V=.agg ⟨slZ⟩:=by
 show Value.agg ⟨boxC ⟨PQ V0,PQ V0⟩++[nilV,nilV,nilV,nilV]⟩=_
 have : PQ V0=P0:=by rw [PQ,show V0.x=0 from rfl,show V0.y=0 from rfl,zhg]; rfl
 rw [this]; rfl
theorem zAi : ∀ R∈slE.F,∀ w,R.φ w:=fun R hR w=>by
 have h : R∈[zaf none [],zaf none [],zaf none [],zaf none []]:=hR
 simp only [List.mem_cons,List.not_mem_nil,or_false,or_self] at h
 rw [h]; exact .inl rfl
theorem zpL {s t : Sl} (hX : t.X.xs=s.X.xs) (hL : t.L.xs.map (·.xs)=s.L.xs.map (·.xs)) (d c : Nat) : zdC t d c=zdC s d c:=by
 have h1 : t.L.xs.length=s.L.xs.length:=by have:=congrArg List.length hL; simpa using this
 have h2 : t.L.xs.map (fun x=>((x.xs.length : Nat) : Int))=s.L.xs.map (fun x=>((x.xs.length : Nat) : Int)):=by
  have:=congrArg (List.map (fun z : List Rat=>((z.length : Nat) : Int))) hL
  rw [List.map_map,List.map_map] at this; exact this
 rw [zdC,zdC,h1,h2,hX]
theorem zn7 {s t : Sl} (hX : t.X.xs=s.X.xs) (hL : t.L.xs.map (·.xs)=s.L.xs.map (·.xs)) (hS : t.S.xs.map (·.xs)=s.S.xs.map (·.xs)) (d c : Nat) : zbv t d c=zbv s d c:=by
 have h1 : t.L.xs.length=s.L.xs.length:=by have:=congrArg List.length hL; simpa using this
 have h3 : t.S.xs.length=s.S.xs.length:=by have:=congrArg List.length hS; simpa using this
 have h2 : t.S.xs.map (fun x=>((x.xs.length : Nat) : Int))=s.S.xs.map (fun x=>((x.xs.length : Nat) : Int)):=by
  have:=congrArg (List.map (fun z : List Nat=>((z.length : Nat) : Int))) hS
  rw [List.map_map,List.map_map] at this; exact this
 rw [zbv,zbv,h1,h2,h3,hX]
theorem zwe {s t : Sl} (hX : t.X.xs=s.X.xs) (hL : t.L.xs.map (·.xs)=s.L.xs.map (·.xs)) (hS : t.S.xs.map (·.xs)=s.S.xs.map (·.xs)) (k c : Nat) : cntK t k c=cntK s k c:=by
 match k with
 | 0=>exact zpL hX hL 0 c
 | 1=>exact zpL hX hL 1 c
 | 2=>exact zn7 hX hL hS 2 c
 | k+3=>exact zn7 hX hL hS 1 c
theorem zsS {s t : Sl} (h : ∀ k c,cntK t k c=cntK s k c) (c : Nat) : ∀ j,colF t c j=colF s c j
 | 0=>rfl
 | j+1=>by rw [colF,colF,zsS h c j,zeU,zeU,h]
theorem zpI {s t : Sl} (h : ∀ k c,cntK t k c=cntK s k c) : ∀ n c,zdA t c n=zdA s c n
 | 0,c=>rfl
 | n+1,c=>by rw [zdA,zdA,zsS h c 4,zpI h n (c+1)]
theorem zrm (b : Bx) (A : Option Addr) (c : Nat) (l : List (Pt×Pt)) (hlc : l.length≤c) :
  FnM PP zcE [bxV b,.slice A l.length c] (facts [zaf A (rowV sgC l)]) (zbu (.bool true)):=by
 refine FnS.of zab mixed zfw rfl rfl (Nat.le_of_ble_eq_true rfl) (by simp [zaf.ok]) ?_
 intro w hw
 have hgr:=zwh b A c l
 conv=>whnf
 refine cfs hgr ?_
 cases hg : zhT b l with
 | true =>
  conv=>whnf
  refine cf zog ?_
  conv=>whnf
  exact zaa rfl
 | false =>
 obtain ⟨hb0,hs0,hlen,hl405⟩:=zzi hg
 conv=>whnf
 by_cases he : bldE b l=0
 rotate_left
 ·have h1:=zu4 b A c l hb0 hs0 (by omega) he
  have h2:=zvs b A c l hb0 hs0 (by omega) he
  have h3:=zzp slE slE rfl rfl rfl rfl rfl rfl (by decide) (by decide) (by decide) (by decide) (fun _ h=>by cases h) (fun _ h=>by cases h)
  have h4:=zoK slE ⟨by decide,by decide,by decide,(fun _ h=>by cases h),(fun _ h=>by cases h),by decide⟩ (by decide)
  have h5:=zy2 slE rfl
  rw [zCl] at h3 h4 h5
  generalize bldE b l=ec at h1 h2
  refine cfs h1 ?_
  conv=>whnf
  refine cfs h2 ?_
  conv=>whnf
  refine zaj.quiet (by kernel_rfl) ?_
  conv=>whnf
  refine zad.v h3.enters (zaB.factsT h3 rfl (fun R hR=>.inr (zAi R ((List.mem_append.1 hR).elim id id)))) ?_
  conv=>whnf
  refine zai (beq_self_eq_true ec) ?_
  conv=>whnf
  refine zad.o h4.enters (zaB.factsT h4 rfl (fun R hR=>.inr (zAi R hR))) ?_
  conv=>whnf
  refine zad.o h5.enters (zaB.factsT h5 rfl (fun R hR=>.inr (zAi R hR))) ?_
  conv=>whnf
  refine zad.v (zjE none none 0 0 [] [] (by decide) (by decide)).enters (zaB.sl2 (fun y z=>[y,z]) (RdA.own (k:=35) rfl) (RdA.own (k:=37) rfl) (List.mem_cons_self ..) (List.mem_cons_of_mem _ (List.mem_cons_self ..)) (fun _=>rfl) (fun A1 c1 A2 c2 _ _=>zjE A1 A2 c1 c2 [] [] (by decide) (by decide))) ?_
  conv=>whnf
  refine cd zog ?_
  conv=>whnf
  exact zaa rfl
 obtain ⟨lo,hi,E,hB⟩:=Bld.of (b:=b) (l:=l) (fun h=>by
  rcases h with h | h | h
  ·rw [hg] at h; cases h
  ·obtain ⟨_,_,E,_,_,_,hl',_,hE4⟩:=zsC he
   rw [hl',List.length_map] at hlen h
   omega
  ·exact h he)
 obtain ⟨rfl,rfl,_,hlen8,hx,hy,hlo,hhi,hE⟩:=hB
 have h1:=zsv lo hi A c E hlo hhi hx hy hE (by omega)
 have h2:=zwb lo hi A c E hlo hhi hx hy hE (by omega)
 rw [List.length_map,show rowV sgC (E.map fun e=>(PQ e.1,PQ e.2))=rowV sgq E from zgl ..]
 refine zac.e h1.enters (zaB.facts h1 rfl (fun R h=>h)) (fun i=>zya i) (fun d _=>?_)
 obtain ⟨d,e1,e2,e3,his,e5⟩:=d
 conv=>whnf
 refine zac.e h2.enters (zaB.facts h2 rfl (fun R h=>by rw [List.mem_singleton.1 h]; exact List.mem_append_right _ (List.mem_cons_self ..))) (fun i=>zya i) (fun t _=>?_)
 obtain ⟨t,f1,f2,f3,hit,f5⟩:=t
 have hX : t.X.xs=d.X.xs:=by rw [hit.1,his.1,e1,e2,e3,f1,f2,f3]
 have hL : t.L.xs.map (·.xs)=d.L.xs.map (·.xs):=by rw [hit.2.1,his.2.1,hX,e1,e2,e3,f1,f2,f3]
 have hS : t.S.xs.map (·.xs)=d.S.xs.map (·.xs):=by rw [hit.2.2,his.2.2,hX,e1,e2,e3,f1,f2,f3]
 have hsgd : d.sg.xs.length≤8:=by rw [e3]; exact hlen8
 have hsgt : t.sg.xs.length≤8:=by rw [f3]; exact hlen8
 obtain ⟨hsm,hcl⟩:=Sl.is_small his hsgd
 obtain ⟨hsmt,hclt⟩:=Sl.is_small hit hsgt
 have hcells : zdA t 0 t.X.xs.length=zgw d:=by rw [zgw,hX]; exact zpI (zwe hX hL hS) _ _
 obtain ⟨n1,n2,n3⟩:=Sl.is_len hit
 obtain ⟨m1,m2,m3,m4,m5,m6⟩:=hsmt
 obtain ⟨k1,k2,k3,k4,k5,k6⟩:=hsm
 have hxl : t.X.xs.length≤100000:=by
  have hpl : (pcsL t.lo t.hi t.sg.xs).length≤8:=Nat.le_trans zqo hsgt
  rw [hit.1]
  refine Nat.le_trans (znC _) ?_
  have:=zlk (pcsL t.lo t.hi t.sg.xs) (pcsL t.lo t.hi t.sg.xs).length (by omega)
  simp only [List.length_cons]; omega
 have hpd : (pcsL d.lo d.hi d.sg.xs).length≤8:=Nat.le_trans zqo hsgd
 have hB : ∀ k cc,cntK d k cc≤(28 : Nat):=fun k cc=>by
  have:=zvQ (s:=d) (B:=26) (fun l hl=>by
   obtain ⟨x,hx⟩:=Sl.is_line his hl
   rw [hx]
   have:=zxc (lo:=d.lo) (hi:=d.hi) (ps:=pcsL d.lo d.hi d.sg.xs) (x:=x)
   omega) (fun l hl=>by
   obtain ⟨x,y,h⟩:=Sl.is_strip his hl
   rw [h]
   have:=zrP (lo:=d.lo) (hi:=d.hi) (ps:=pcsL d.lo d.hi d.sg.xs) (l:=x) (r:=y)
   omega) k cc
  omega
 have hcl8 : (zgw d).length≤100000000:=by
  have:=zn0 hB d.X.xs.length 0
  rw [hX] at hxl
  rw [zgw]; omega
 have h3:=zzp d t (by rw [f1,e1]) (by rw [f2,e2]) (by rw [f3,e3]) hX hL hS (by omega) (by omega) (by omega) (by omega) (fun l h=>by have:=k4 l h; omega) (fun l h=>by have:=k5 l h; omega)
 have h4:=zoK d ⟨k1,k2,k3,k4,k5,k6⟩ hcl
 have h5:=zAM t n1 (by omega) hxl m4 m5 (by rw [hcells]; exact hcl)
 rw [hcells] at h5
 obtain ⟨cells,hce⟩ : ∃ cs,cs=zgw d:=⟨_,rfl⟩
 rw [←hce] at h4 h5 hcl hcl8
 have e6 : Ln.R sgq d.sg=zaf A (rowV sgq E):=by rw [e3]; rfl
 have f6 : Ln.R sgq t.sg=zaf A (rowV sgq E):=by rw [f3]; rfl
 have hFd : ∀ R∈d.F,R∈t.F'++(d.F'++[zaf A (rowV sgq E)]):=fun R hR=>by
  rcases Sl.F_F' hR with h | h
  ·exact List.mem_append_right _ (List.mem_append_left _ h)
  ·rw [h,e6]; exact List.mem_append_right _ (List.mem_append_right _ (List.mem_cons_self ..))
 have hFt : ∀ R∈t.F,R∈t.F'++(d.F'++[zaf A (rowV sgq E)]):=fun R hR=>by
  rcases Sl.F_F' hR with h | h
  ·exact List.mem_append_left _ h
  ·rw [h,f6]; exact List.mem_append_right _ (List.mem_append_right _ (List.mem_cons_self ..))
 have h6:=fun A1 c1 A2 c2=>zjE A1 A2 c1 c2 cells cells (by omega) (by omega)
 simp only [decide_true] at h6
 conv=>whnf
 refine zaj.quiet (by kernel_rfl) ?_
 conv=>whnf
 refine zad.v h3.enters (zaB.facts h3 rfl (fun R hR=>(List.mem_append.1 hR).elim (hFd R) (hFt R))) ?_
 conv=>whnf
 refine zad.o h4.enters (zaB.facts h4 rfl hFd) ?_
 conv=>whnf
 refine zad.o h5.enters (zaB.facts h5 rfl hFt) ?_
 conv=>whnf
 refine zad.v (h6 none 0 none 0).enters (zaB.sl2 (fun y z=>[y,z]) (RdA.own (k:=35) rfl) (RdA.own (k:=37) rfl) (List.mem_cons_self ..) (List.mem_cons_of_mem _ (List.mem_cons_self ..)) (fun _=>rfl) (fun A1 c1 A2 c2 _ _=>h6 A1 c1 A2 c2)) ?_
 conv=>whnf
 refine cd zog ?_
 conv=>whnf
 exact zaa rfl
end Go.Sx
end
