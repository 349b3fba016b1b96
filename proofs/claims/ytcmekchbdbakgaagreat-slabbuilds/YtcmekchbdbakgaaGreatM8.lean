/- A part of the proof of a law: the symbolic executor, contracts of functions of the program, plain laws. No conditions. -/
import Derived.Test.YtcmekchbdbakgaaGreatM7
import Derived.Test.YtcmekchbdbakgaaGreatM6
set_option linter.unusedVariables false
set_option linter.unusedSimpArgs false
set_option linter.unusedSectionVars false
section
set_option maxRecDepth 10000
set_option maxHeartbeats 2000000
namespace Go.Sx
open Go Go.Proofs
def clE (lo hi : V) (e : V×V) : V×V:=match zdb ⟨PQ lo,PQ hi⟩ e.1 e.2 with
 | none=>(V0,V0)
 | some (c,d)=>if c=d then (V0,V0) else ordV c d
theorem zyc : sgq (V0,V0)=(sgC (P0,P0)):=by
 show sgC (PQ V0,PQ V0)=_
 have : PQ V0=P0:=by rw [PQ,show V0.x=0 from rfl,show V0.y=0 from rfl,zhg]; rfl
 rw [this]
theorem zt7 {α β : Type} (f : α→β) (z : β) {l : List α} {i n : Nat} {e : α} (h : l[i]?=some e) (hn : i<n) :
  ((l.take i).map f++List.replicate (n-i) z).set i (f e)=(l.take (i+1)).map f++List.replicate (n-(i+1)) z:=by
 have hi:=(List.getElem?_eq_some_iff.1 h).1
 rw [show n-i=(n-(i+1))+1 by omega,List.replicate_succ,List.set_append_right _ _ (by simp [List.length_take]; omega),List.length_map,List.length_take,Nat.min_eq_left (by omega),Nat.sub_self,List.set_cons_zero,zaE h,List.map_append,List.append_assoc]
 rfl
theorem zx7 {α β : Type} (f : α→β) (z : β) {l : List α} {i n : Nat} {e : α} (h : l[i]?=some e) (hn : i<n) (hz : f e=z) :
  (l.take i).map f++List.replicate (n-i) z=(l.take (i+1)).map f++List.replicate (n-(i+1)) z:=by
 rw [←zt7 f z h hn,hz]
 have hi:=(List.getElem?_eq_some_iff.1 h).1
 rw [show n-i=(n-(i+1))+1 by omega,List.replicate_succ,List.set_append_right _ _ (by simp [List.length_take]; omega),List.length_map,List.length_take,Nat.min_eq_left (by omega),Nat.sub_self,List.set_cons_zero]
theorem zwE (lo hi : V) (A : Option Addr) (c : Nat) (E : List (V×V)) (hlo : SzV K0 lo) (hhi : SzV K0 hi) (hx : lo.x≤hi.x) (hy : lo.y≤hi.y) (hE : ∀ e∈E,(SzV K0 e.1∧SzV K0 e.2)∧e.1≠e.2) (hl : E.length≤400) :
  FnM PP zdi [bxV ⟨PQ lo,PQ hi⟩,.slice A E.length c] (facts [zaf A (rowV sgq E)]) (zdn zbe 12 E.length (rowV sgq (E.map (clE lo hi)))):=by
 refine FnO.of zab mixed zgI rfl rfl (Nat.le_of_ble_eq_true rfl) (by simp [zaf.ok]) ?_
 intro w hw
 obtain ⟨n,hn⟩ : ∃ n,n=E.length:=⟨_,rfl⟩
 have hA : 0<n→A.isSome=true:=fun h=>zap (zaK hw) (by rw [zag zaN]; omega)
 rw [←hn] at hl ⊢
 conv=>whnf
 refine ⟨by show 0≤(n : Int)∧(n : Int)≤(n : Int)∧((160 : Nat) : Int)*(n : Int)≤281474976710656∧(n : Int)≤9223372036854775807; omega,?_⟩
 conv=>whnf
 refine zak (ι:=Nat) (fun i=>⟨[(1,.o (.v (.slice A n c))),(2,.o (.p 2 0)),(5,.o (.w 12)),(6,.o (.v (.int .i64 i)))],[(2,.box ((boxC ⟨PQ lo,PQ hi⟩).map AV.v) zaG),(12,.own zbe 12 n (rowV sgq ((E.take i).map (clE lo hi)++List.replicate (n-i) (V0,V0))))],[zaf A (rowV sgq E)]⟩)
  (fun i=>i≤n) (fun i=>n-i) 0 (Nat.zero_le _)
  (SLe.id ⟨rfl,rfl,rfl,rfl,trivial⟩ ⟨⟨_,rfl,.refl _⟩,⟨_,rfl,?_⟩,trivial⟩ (fun R hR=>hR)) ?_
 ·show MEle (ME.own zbe 12 (n : Int).toNat (repl (n : Int).toNat (sgC (P0,P0)))) (ME.own zbe 12 n (rowV sgq (List.replicate (n-0) (V0,V0))))
  rw [Int.toNat_natCast,zb7,zyc,Nat.sub_zero]; exact .refl _
 intro i hi0
 conv=>whnf
 by_cases hin : i<n
 rotate_left
 ·refine zae (decide_eq_false (show ¬(i : Int)<(n : Int) by omega)) ?_
  have e0 : n-i=0:=by omega
  have e1 : E.take i=E:=List.take_of_length_le (by omega)
  rw [e0,e1,List.replicate_zero,List.append_nil]
  conv=>whnf
  exact ⟨12,rfl,rfl⟩
 refine zai (decide_eq_true (show (i : Int)<(n : Int) by omega)) ?_
 obtain ⟨e,he⟩ : ∃ e,E[i]?=some e:=⟨_,List.getElem?_eq_getElem (by omega)⟩
 have heo:=hE e (List.mem_of_getElem? he)
 conv=>whnf
 refine zaj.lateAt 14 [(11,7,[8,9])] (by kernel_rfl) ?_
 conv=>whnf
 refine ⟨⟨by omega,by omega,hA (by omega)⟩,?_⟩
 conv=>whnf
 refine zao.elem (A:=A) (xs:=E) (j:=(i : Int)) sgq zaN (List.mem_cons_self ..) rfl (by rw [Int.toNat_natCast]; omega) (by decide) (fun h=>by cases h) ?_
 intro e' he'
 obtain rfl : e'=e:=by rw [Int.toNat_natCast,he] at he'; exact (Option.some.inj he').symm
 conv=>whnf
 have hd : ¬zb5 ⟨PQ e'.1,PQ e'.2⟩:=fun h=>heo.2 (by have:=zca.1 h; simpa using this)
 have hcv : zr6 ⟨PQ e'.1,PQ e'.2⟩ ⟨PQ lo,PQ hi⟩=match zdb ⟨PQ lo,PQ hi⟩ e'.1 e'.2 with
   | none=>zxw 0
   | some (c,d)=>.tuple #[sV ⟨PQ c,PQ d⟩,.bool true,.int .i64 0]:=by
  rw [zr6,if_neg hd,if_neg (fun h=>h.elim (fun h=>absurd hx (Rat.not_le.2 (by rw [←Q_v lo.x,←Q_v hi.x]; exact h))) (fun h=>absurd hy (Rat.not_le.2 (by rw [←Q_v lo.y,←Q_v hi.y]; exact h)))),show (⟨PQ e'.1,PQ e'.2⟩ : Sg).A.v=e'.1 from PQ_v _,show (⟨PQ e'.1,PQ e'.2⟩ : Sg).B.v=e'.2 from PQ_v _]
  all_goals (cases zdb ⟨PQ lo,PQ hi⟩ e'.1 e'.2 <;> rfl)
 refine cd (zBZ ⟨PQ e'.1,PQ e'.2⟩ ⟨PQ lo,PQ hi⟩ ⟨heo.1.1.q,heo.1.2.q⟩ (Bx.szs hlo hhi)) ?_
 rw [hcv]
 have hst:=zt7 (clE lo hi) (V0,V0) he hin
 have hsm:=zx7 (clE lo hi) (V0,V0) he hin
 have hce : clE lo hi e'=match zdb ⟨PQ lo,PQ hi⟩ e'.1 e'.2 with
  | none=>(V0,V0)
  | some (c,d)=>if c=d then (V0,V0) else ordV c d:=rfl
 cases hcl : zdb ⟨PQ lo,PQ hi⟩ e'.1 e'.2 with
 | none =>
  rw [hcl] at hce
  conv=>whnf
  refine ⟨i+1,by omega,by show n-(i+1)<n-i; omega,SLe.id ⟨rfl,rfl,rfl,zan hin (by omega),trivial⟩ ⟨⟨_,rfl,.refl _⟩,⟨_,rfl,?_⟩,trivial⟩ (fun R hR=>hR)⟩
  rw [←hsm hce]; exact .refl _
 | some cd =>
  obtain ⟨c1,d1⟩:=cd
  rw [hcl] at hce
  conv=>whnf
  by_cases hcd : c1=d1
  ·refine zae (congrArg (!·) ((eqPV c1 d1).trans (decide_eq_true hcd))) ?_
   conv=>whnf
   refine ⟨i+1,by omega,by show n-(i+1)<n-i; omega,SLe.id ⟨rfl,rfl,rfl,zan hin (by omega),trivial⟩ ⟨⟨_,rfl,.refl _⟩,⟨_,rfl,?_⟩,trivial⟩ (fun R hR=>hR)⟩
   rw [←hsm (by rw [hce]; exact if_pos hcd)]; exact .refl _
  refine zai (congrArg (!·) ((eqPV c1 d1).trans (decide_eq_false hcd))) ?_
  obtain ⟨z1,z2⟩:=znA hlo hhi heo.1.1 heo.1.2 hcl
  have ho:=zqB ⟨PQ c1,PQ d1⟩ ⟨z1.q.le (by decide),z2.q.le (by decide)⟩
  rw [show (⟨PQ c1,PQ d1⟩ : Sg).A.v=c1 from PQ_v _,show (⟨PQ c1,PQ d1⟩ : Sg).B.v=d1 from PQ_v _] at ho
  conv=>whnf
  refine cf ho ?_
  conv=>whnf
  refine ⟨by show 0≤(i : Int)∧(i : Int)<(n : Int); omega,?_⟩
  have hlen : ((E.take i).map (clE lo hi)++List.replicate (n-i) (V0,V0)).length=n:=by
   rw [List.length_append,List.length_map,List.length_take,List.length_replicate]; omega
  conv=>whnf
  refine ⟨⟨by show (i : Int).toNat*12+12≤(rowV sgq ((E.take i).map (clE lo hi)++List.replicate (n-i) (V0,V0))).length; rw [zag zaN,hlen,Int.toNat_natCast]; omega,by decide⟩,?_⟩
  conv=>whnf
  refine ⟨i+1,by omega,by show n-(i+1)<n-i; omega,SLe.id ⟨rfl,rfl,rfl,zan hin (by omega),trivial⟩ ⟨⟨_,rfl,.refl _⟩,⟨_,rfl,?_⟩,trivial⟩ (fun R hR=>hR)⟩
  show MEle (ME.own zbe 12 n (putN ((i : Int).toNat*12) (sgq (ordV c1 d1)) (rowV sgq ((E.take i).map (clE lo hi)++List.replicate (n-i) (V0,V0))))) _
  rw [Int.toNat_natCast,zci zaN _ (by rw [hlen]; exact hin),show ordV c1 d1=clE lo hi e' by rw [hce]; exact (if_neg hcd).symm,hst]; exact .refl _
end Go.Sx
end
section
/- A symbolic executor over loaded Go code: a region whose order is drawn, with one call in it that is not quiet. -/
namespace Go.Sx
open Go Go.RowKit
section
variable {P : Program} {T : TT} {C : Cx} {ro : Option Nat} {n : Nat}
def zmx : List Nat→Array Bool→Array Bool
 | [],l=>l
 | k::r,l=>zmx r (l.setIfInBounds k true)
def zpZ (ops : Array Oper) (late : Late) (m : Nat) : List Nat→Array Bool→Bool
 | [],_=>true
 | k::r,listed=>isQ late m k&&((Region.ready .any ops listed).contains k&&Region.free .any ops listed k&&zvh ops late m k listed)&&zpZ ops late m r (listed.setIfInBounds k true)
theorem zhL {ops : Array Oper} {listed : Array Bool} {k : Nat} {o : Oper} (h0 : ops[k]?=some o) (hrd : k∈Region.ready .any ops listed) : ∀ e∈o.after,Region.binds .any e=true→listed[e.on]?=some true:=by
 obtain ⟨_,o',ho',hall⟩:=mem_ready.1 hrd
 rw [h0] at ho'; cases ho'
 intro e he hbe
 have:=hall e he hbe
 rcases Nat.lt_or_ge e.on listed.size with h' | h'
 ·simp [h'] at this ⊢; exact this
 ·simp [Array.getElem?_eq_none h'] at this
theorem zux {ops : Array Oper} {late : Late} {m : Nat} {K Kp : SS→Prop} {fuel : Nat} : ∀ (r : List (Nat×Oper)) (listed : Array Bool) (st : SS),(∀ p∈r,ops[p.1]?=some p.2)→zpZ ops late m (r.map (·.1)) listed=true→zgq ops listed →
  dops P T C ops.toList late m r st Kp→(∀ s,Kp s→zgq ops (zmx (r.map (·.1)) listed)→SAny P T C ops late m K fuel (zmx (r.map (·.1)) listed) s)→SAny P T C ops late m K (r.length+fuel) listed st
 | [],listed,st,_,_,hcl,hs,hK=>by rw [List.length_nil,Nat.zero_add]; exact hK st hs hcl
 | (k,o)::r,listed,st,hr,hb,hcl,hs,hK=>by
  have h0 : ops[k]?=some o:=hr (k,o) (List.mem_cons_self ..)
  have hr' : ∀ p∈r,ops[p.1]?=some p.2:=fun p hp=>hr p (List.mem_cons_of_mem _ hp)
  simp only [List.map_cons,zpZ,Bool.and_eq_true] at hb
  obtain ⟨⟨hkm,⟨hready,hfree⟩,hwait⟩,hb⟩:=hb
  simp only [dops] at hs
  rw [hkm] at hs
  simp only [cond_true] at hs
  cases hlo : zkE late k st o with
  | false=>rw [hlo] at hs; exact hs.elim
  | true =>
  rw [hlo] at hs
  simp only [cond_true] at hs
  obtain ⟨hd,x,q,st1,he,hg,hK'⟩:=zhb hs
  have hspec:=Region.free_spec h0 hfree
  have hrd : k∈Region.ready .any ops listed:=by simpa using hready
  rw [show ((k,o)::r).length+fuel=(r.length+fuel)+1 by simp; omega]
  refine SAny.first (q:=q) h0 hkm hd (r.length+fuel) listed st ?_ hcl hrd hg ?_
  ·intro j oj hoj hne hun hno
   refine ⟨hspec j oj hoj hne hun hno,?_⟩
   unfold zvh at hwait
   rw [List.all_eq_true] at hwait
   have hj:=hwait j (List.mem_range.2 (Array.getElem?_eq_some_iff.1 hoj).1)
   rw [hun] at hj
   simp only [Bool.or_eq_true,Bool.false_eq_true,false_or] at hj
   rcases hj with (hj | hj) | hj
   ·exact .inl hj
   ·exact .inr (.inl ⟨_,hj⟩)
   ·obtain ⟨κ,fr,hκ,hm,hfr⟩:=zeZ hj
    unfold zkE at hlo
    rw [List.all_eq_true] at hlo
    have:=hlo _ hm
    simp only [hfr,Bool.not_true,Bool.false_or] at this
    exact .inr (.inr ⟨κ,hκ,this⟩)
  ·have:=zux (K:=K) (Kp:=Kp) (fuel:=fuel) r (listed.setIfInBounds k true) _ hr' hb (hcl.set h0 (zhL h0 hrd)) hK' (fun s hs hc=>hK s hs hc)
   exact this.eqv (he.symm.upd o x q)
def pick (ops : List Oper) : List Nat→List (Nat×Oper)
 | []=>[]
 | i::r=>match nth i ops with
  | some o=>(i,o)::pick ops r
  | none=>pick ops r
theorem zhZ {ops : Array Oper} : ∀ {l : List Nat},∀ p∈pick ops.toList l,ops[p.1]?=some p.2
 | [],p,hp=>by cases hp
 | i::r,p,hp=>by
  unfold pick at hp
  split at hp
  ·rename_i o ho
   rcases List.mem_cons.1 hp with rfl | hp
   ·rw [zew,Array.getElem?_toList] at ho; exact ho
   ·exact zhZ p hp
  ·exact zhZ p hp
def zzk (ops : Array Oper) (late : Late) (m : Nat) (pre : List Nat) (p q : Nat) (r1 r2 : List Nat) : Bool :=
 let l0:=Array.replicate ops.size false
 let L:=zmx pre l0
 zpZ ops late m pre l0&&(((Region.ready .any ops L).contains p&&(Region.ready .any ops L).contains q)&&((Region.ready .any ops L).all (fun i=>Nat.beq i p||Nat.beq i q)))&&(!(isQ late m p)&&(isQ late m q&&(zfa late p).isNone))&&(ze4 ops late m r1 (L.setIfInBounds p true)&&ze4 ops late m (p::r2) (L.setIfInBounds q true))
 && (Nat.beq ((pick ops.toList pre).map (·.1)).length pre.length&&Nat.beq (pick ops.toList r1).length r1.length&&Nat.beq (pick ops.toList (p::r2)).length (r2.length+1)&&Nat.beq r1.length (r2.length+1)&&Nat.beq (pre.length+1+r1.length) ops.size)
def atOp (ops : List Oper) (i : Nat) (f : Oper→Prop) : Prop:=match nth i ops with
 | some o=>f o
 | none=>False
theorem zh7 {ops : List Oper} : ∀ {l : List Nat},(pick ops l).length=l.length→(pick ops l).map (·.1)=l
 | [],_=>rfl
 | i::r,h=>by
  have hle : ∀ l : List Nat,(pick ops l).length≤l.length:=fun l=>by
   induction l with
   | nil=>exact Nat.le_refl _
   | cons j t ih=>unfold pick; split <;> simp <;> omega
  unfold pick at h ⊢
  split
  ·rename_i o ho
   rw [ho] at h
   simp only [List.length_cons,Nat.add_right_cancel_iff] at h
   rw [List.map_cons,zh7 h]
  ·rename_i ho
   rw [ho] at h
   have:=hle r
   simp only [List.length_cons] at h
   omega
theorem WPS.drawS (hT : zaQ P T) (hmix : P.follows .mixedOrders=true) {id : Nat} {ops : Array Oper} {st : SS} {K : SS→Prop} {Q : Exit→SS→Prop} (late : Late) (m : Nat) (pre : List Nat) (p q : Nat) (r1 r2 : List Nat) (hb : zzk ops late m pre p q r1 r2=true)
  (hs : dops P T C ops.toList late m (pick ops.toList pre) st (fun s=>atOp ops.toList p (fun o=>sopG P T C ops.toList o s (fun s'=>dops P T C ops.toList late m (pick ops.toList r1) s' K)) ∧
   atOp ops.toList q (fun o=>zq6 P T C ops.toList o s (fun s'=>dops P T C ops.toList late m (pick ops.toList (p::r2)) s' K)))) (hQ : ∀ s,K s→Q .normal s) : WPS P C (.region id ops true) st Q:=⟨fun a w h=>by
 refine wpIn_region_any hmix ?_
 have h' : SR C st a { w with drawn:=w.drawn+1 }:=by
  obtain ⟨E,hE⟩:=h
  exact ⟨E,hE.world ⟨rfl,rfl,rfl,Nat.le_refl _,fun _ _=>rfl,Nat.le_succ _⟩⟩
 unfold zzk at hb
 simp only [Bool.and_eq_true] at hb
 obtain ⟨⟨⟨⟨hpre,⟨hcp,hcq⟩,hall⟩,hp,hq,hlp⟩,hb1,hb2⟩,⟨⟨⟨hn0,hn1⟩,hn2⟩,hn3⟩,hn4⟩:=hb
 have hn0:=Nat.eq_of_beq_eq_true hn0
 have hn1:=Nat.eq_of_beq_eq_true hn1
 have hn2:=Nat.eq_of_beq_eq_true hn2
 have hn3:=Nat.eq_of_beq_eq_true hn3
 have hn4:=Nat.eq_of_beq_eq_true hn4
 rw [List.length_map] at hn0
 have hp : isQ late m p=false:=by simpa using hp
 have hlp : zfa late p=none:=by simpa using hlp
 have hcl0 : zgq ops (Array.replicate ops.size false):=fun k ok hk=>by simp [Array.getElem?_replicate] at hk
 have key : SAny P T C ops late m K ((pick ops.toList pre).length+(r1.length+1)) (Array.replicate ops.size false) st:=by
  refine zux (pick ops.toList pre) _ st (fun x hx=>zhZ x hx) (by rw [zh7 hn0]; exact hpre) hcl0 hs ?_
  rintro s ⟨hA,hB⟩ hcl
  rw [zh7 hn0] at hcl ⊢
  have hpm : p∈Region.ready .any ops (zmx pre (Array.replicate ops.size false)):=by simpa using hcp
  have hqm : q∈Region.ready .any ops (zmx pre (Array.replicate ops.size false)):=by simpa using hcq
  unfold atOp at hA hB
  cases hop : nth p ops.toList with
  | none=>rw [hop] at hA; exact hA.elim
  | some op =>
  cases hoq : nth q ops.toList with
  | none=>rw [hoq] at hB; exact hB.elim
  | some oq =>
  rw [hop] at hA
  rw [hoq] at hB
  simp only at hA hB
  have hop' : ops[p]?=some op:=by rw [zew,Array.getElem?_toList] at hop; exact hop
  have hoq' : ops[q]?=some oq:=by rw [zew,Array.getElem?_toList] at hoq; exact hoq
  have next1 : ∀ s',dops P T C ops.toList late m (pick ops.toList r1) s' K→SAny P T C ops late m K r1.length ((zmx pre (Array.replicate ops.size false)).setIfInBounds p true) s':=fun s' hs'=>by
   have:=zh4 (P:=P) (T:=T) (C:=C) (K:=K) (late:=late) (m:=m) (pick ops.toList r1) _ s' (fun x hx=>zhZ x hx) (by rw [zh7 hn1]; exact hb1) (hcl.set hop' (zhL hop' hpm)) hs'
   rwa [hn1] at this
  have next2 : ∀ s',dops P T C ops.toList late m (pick ops.toList (p::r2)) s' K→SAny P T C ops late m K r1.length ((zmx pre (Array.replicate ops.size false)).setIfInBounds q true) s':=fun s' hs'=>by
   have:=zh4 (P:=P) (T:=T) (C:=C) (K:=K) (late:=late) (m:=m) (pick ops.toList (p::r2)) _ s' (fun x hx=>zhZ x hx) (by rw [zh7 (by rw [hn2]; rfl)]; exact hb2) (hcl.set hoq' (zhL hoq' hqm)) hs'
   rwa [hn2,←hn3] at this
  refine ⟨fun h=>(by rw [h] at hpm; cases hpm),fun i hi=>?_⟩
  have hi2 : i=p∨i=q:=by
   rw [List.all_eq_true] at hall
   have:=hall i hi
   simp only [Bool.or_eq_true] at this
   exact this.imp Nat.eq_of_beq_eq_true Nat.eq_of_beq_eq_true
  rcases hi2 with rfl | rfl
  ·unfold SOp
   simp only [hop']
   rw [if_neg (by rw [hp]; simp)]
   simp only [hlp]
   exact ⟨s,fun _ _ h=>h,zfy next1 hA⟩
  ·unfold SOp
   simp only [hoq']
   rw [if_pos hq]
   obtain ⟨hd,x,mq,st1,he,hg,hK⟩:=zhb hB
   exact ⟨hd,x,mq,hg,(next2 _ hK).eqv (he.symm.upd oq x mq)⟩
 have h2:=key.sound (ro:=none) (n:=0) hT (Q:=lift C Q) (fun st' a' w' hk hr=>⟨st',hr,hQ st' hk⟩) h'
 rw [show (pick ops.toList pre).length+(r1.length+1)=ops.size by omega] at h2
 simpa using h2⟩
theorem zac.fzB {st : SS} {g : FuncId} {args : List SV} {K : SV→SS→Prop} (k : Nat) {xs : List Value} (hx : boxV st k=some xs) (h : ∀ b,zac P C g (args.map (SV.mp (AV.fz k b))) (st.fz k (AV.fz k b) (zaf (some ⟨b,0,none⟩) xs)) K) : zac P C g args st K:=by
 refine ⟨(h 0).enters,fun E w hm=>?_⟩
 have hb : ∃ b t m0,lk k st.me=some m0∧E.β k=some b∧w.heap[b]?=some (.cells xs.toArray t (0,0)):=by
   unfold boxV at hx
   split at hx
   · rename_i cs ty hl
     obtain ⟨b,hb,hc⟩:=hm.ent _ _ hl
     rw [zba E hx] at hc
     exact ⟨b,ty,_,hl,hb,hc⟩
   · rename_i cs ty hl
     cases hx
     obtain ⟨b,hb,hc⟩:=hm.ent _ _ hl
     exact ⟨b,ty,_,hl,hb,hc⟩
   · cases hx
 obtain ⟨b,t,m0,hl,hb,hc⟩:=hb
 have hm2:=((zaT.act (st:=st) hm).fz hl (znS hb) (zaf.ok (some ⟨b,0,none⟩) xs) (.inr ⟨b,0,rfl,fun j v hj=>by rw [zbY hc,Nat.zero_add]; simpa using hj⟩) (fun b' hb'=>by
   obtain ⟨a',h1,h2⟩:=zmd hb'
   cases h1; rw [h2]; exact hb)).mem
 have hargs : args.map (SV.real E)=(args.map (SV.mp (AV.fz k b))).map (SV.real E):=by
   rw [List.map_map]; exact List.map_congr_left fun y _=>(SV.mp_real (znS hb) y).symm
 rw [hargs]
 refine ((h b).out E w hm2).mono ?_
 rintro e w' ⟨E',st',x,h1,h2,h3,h4,h5⟩
 refine ⟨E',st',x,h1,h2,h3,fun i sv hi=>?_,h5⟩
 obtain ⟨sv0,h6,h7⟩:=h4 i sv hi
 obtain ⟨y,h8,rfl⟩:=zwV h6
 exact ⟨y,h8,by rw [h7,SV.mp_real (znS hb)]⟩
end
end Go.Sx
end
section
/- A symbolic executor over loaded Go code: a region whose order is drawn, walked by a tree of the orders that matter. -/
namespace Go.Sx
open Go Go.RowKit
inductive OT
 | walk (r : List Nat)
 | q (k : Nat) (t : OT)
 | fork (u : OT)
 | alt (k : Nat) (t u : OT)
 | nil
section
variable {P : Program} {T : TT} {C : Cx}
def zx4 : OT→Bool
 | .alt _ _ _=>false
 | .nil=>false
 | _=>true
def zsk : OT→List Nat
 | .alt k _ u=>k::zsk u
 | _=>[]
def zkY : OT→Nat
 | .walk r=>r.length
 | .q _ t=>zkY t+1
 | .fork u=>zkY u
 | .alt _ t _=>zkY t+1
 | .nil=>0
def chkT (ops : Array Oper) (late : Late) (m : Nat) : OT→Array Bool→Bool
 | .walk r,L=>ze4 ops late m r L&&Nat.beq (pick ops.toList r).length r.length
 | .q k t,L=>(isQ late m k&&((Region.ready .any ops L).contains k&&Region.free .any ops L k&&zvh ops late m k L))&&(zx4 t&&chkT ops late m t (L.setIfInBounds k true))
 | .fork u,L=>(Region.ready .any ops L).all (fun i=>(zsk u).any (Nat.beq i))&&((zsk u).any (fun k=>(Region.ready .any ops L).contains k)&&chkT ops late m u L)
 | .alt k t u,L=>((Region.ready .any ops L).contains k&&(zx4 t&&chkT ops late m t (L.setIfInBounds k true)))&&((isQ late m k||(zfa late k).isNone)&&((zsk u).isEmpty||(Nat.beq (zkY u) (zkY t+1)&&chkT ops late m u L)))
 | .nil,_=>true
def runT (P : Program) (T : TT) (C : Cx) (ops : Array Oper) (late : Late) (m : Nat) (K : SS→Prop) : OT→SS→Prop
 | .walk r,st=>dops P T C ops.toList late m (pick ops.toList r) st K
 | .q k t,st=>atOp ops.toList k (fun o=>bif zkE late k st o then zq6 P T C ops.toList o st (fun s=>runT P T C ops late m K t s) else False)
 | .fork u,st=>runT P T C ops late m K u st
 | .alt k t u,st=>atOp ops.toList k (fun o=>bif isQ late m k then zq6 P T C ops.toList o st (fun s=>runT P T C ops late m K t s) else sopG P T C ops.toList o st (fun s=>runT P T C ops late m K t s))∧runT P T C ops late m K u st
 | .nil,_=>True
theorem zuQ {ops : Array Oper} {k : Nat} {f : Oper→Prop} (h : atOp ops.toList k f) : ∃ o,ops[k]?=some o∧f o:=by
 unfold atOp at h
 split at h
 ·rename_i o ho; exact ⟨o,by rw [zew,Array.getElem?_toList] at ho; exact ho,h⟩
 ·exact h.elim
theorem zwU : ∀ {u : OT} {i : Nat},i∈zsk u→∃ f,zkY u=f+1
 | .alt k t u,i,_=>⟨_,rfl⟩
 | .walk _,i,h=>by cases h
 | .q _ _,i,h=>by cases h
 | .fork _,i,h=>by cases h
 | .nil,i,h=>by cases h
theorem zkA {ops : Array Oper} {late : Late} {m : Nat} {K : SS→Prop} : ∀ (t : OT),
   (∀ L st,zx4 t=true→chkT ops late m t L=true→zgq ops L→runT P T C ops late m K t st→SAny P T C ops late m K (zkY t) L st) ∧
   (∀ L st i f,i∈zsk t→zkY t=f+1→chkT ops late m t L=true→zgq ops L→runT P T C ops late m K t st→SOp P T C ops late m i (SAny P T C ops late m K f (L.setIfInBounds i true)) st)
 | .walk r=>⟨fun L st _ hb hcl hs=>by
     simp only [chkT,Bool.and_eq_true] at hb
     have hn:=Nat.eq_of_beq_eq_true hb.2
     have:=zh4 (P:=P) (T:=T) (C:=C) (K:=K) (late:=late) (m:=m) (pick ops.toList r) L st (fun x hx=>zhZ x hx) (by rw [zh7 hn]; exact hb.1) hcl hs
     rwa [hn] at this,fun L st i f hi=>(by cases hi)⟩
 | .q k t=>⟨fun L st _ hb hcl hs=>by
     simp only [chkT,Bool.and_eq_true] at hb
     obtain ⟨⟨hkm,⟨hready,hfree⟩,hwait⟩,hhd,hb⟩:=hb
     obtain ⟨o,h0,hs⟩:=zuQ hs
     cases hlo : zkE late k st o with
     | false=>rw [hlo] at hs; exact hs.elim
     | true =>
     rw [hlo] at hs
     simp only [cond_true] at hs
     obtain ⟨hd,x,q,st1,he,hg,hK'⟩:=zhb hs
     have hspec:=Region.free_spec h0 hfree
     have hrd : k∈Region.ready .any ops L:=by simpa using hready
     refine SAny.first (q:=q) h0 hkm hd (zkY t) L st ?_ hcl hrd hg ?_
     · intro j oj hoj hne hun hno
       refine ⟨hspec j oj hoj hne hun hno,?_⟩
       unfold zvh at hwait
       rw [List.all_eq_true] at hwait
       have hj:=hwait j (List.mem_range.2 (Array.getElem?_eq_some_iff.1 hoj).1)
       rw [hun] at hj
       simp only [Bool.or_eq_true,Bool.false_eq_true,false_or] at hj
       rcases hj with (hj | hj) | hj
       · exact .inl hj
       · exact .inr (.inl ⟨_,hj⟩)
       · obtain ⟨κ,fr,hκ,hm,hfr⟩:=zeZ hj
         unfold zkE at hlo
         rw [List.all_eq_true] at hlo
         have:=hlo _ hm
         simp only [hfr,Bool.not_true,Bool.false_or] at this
         exact .inr (.inr ⟨κ,hκ,this⟩)
     · exact ((zkA t).1 _ _ hhd hb (hcl.set h0 (zhL h0 hrd)) hK').eqv (he.symm.upd o x q),fun L st i f hi=>(by cases hi)⟩
 | .fork u=>⟨fun L st _ hb hcl hs=>by
     simp only [chkT,Bool.and_eq_true] at hb
     obtain ⟨hall,hex,hb⟩:=hb
     obtain ⟨k,hk,hkr⟩:=List.any_eq_true.1 hex
     obtain ⟨f,hf⟩:=zwU hk
     have hkm : k∈Region.ready .any ops L:=by simpa using hkr
     show SAny P T C ops late m K (zkY u) L st
     rw [hf]
     refine ⟨fun h=>(by rw [h] at hkm; cases hkm),fun i hi=>?_⟩
     rw [List.all_eq_true] at hall
     obtain ⟨j,hj,hji⟩:=List.any_eq_true.1 (hall i hi)
     have hij:=Nat.eq_of_beq_eq_true hji
     subst hij
     exact (zkA u).2 L st i f hj hf hb hcl hs,fun L st i f hi=>(by cases hi)⟩
 | .alt k t u=>⟨fun L st h=>(by cases h),fun L st i f hi hf hb hcl hs=>by
     simp only [chkT,Bool.and_eq_true] at hb
     obtain ⟨⟨hready,hhd,hbt⟩,hq,hu⟩:=hb
     have hrd : k∈Region.ready .any ops L:=by simpa using hready
     obtain ⟨h1,h2⟩:=hs
     rcases List.mem_cons.1 hi with rfl | hi
     · obtain ⟨o,h0,h1⟩:=zuQ h1
       have hft : zkY t=f:=by
         have : zkY t+1=f+1:=hf
         omega
       have next : ∀ s,runT P T C ops late m K t s→SAny P T C ops late m K f (L.setIfInBounds i true) s:=fun s hs'=>by
         rw [←hft]; exact (zkA t).1 _ _ hhd hbt (hcl.set h0 (zhL h0 hrd)) hs'
       unfold SOp
       simp only [h0]
       cases hqi : isQ late m i with
       | true =>
         rw [if_pos rfl]
         rw [hqi] at h1
         obtain ⟨hd,x,q,st1,he,hg,hK'⟩:=zhb h1
         exact ⟨hd,x,q,hg,(next _ hK').eqv (he.symm.upd o x q)⟩
       | false =>
         rw [if_neg (by simp)]
         rw [hqi] at h1
         have hl : zfa late i=none:=by
           rw [hqi] at hq
           simpa using hq
         simp only [hl]
         exact ⟨st,fun _ _ h=>h,zfy next h1⟩
     · have hne : (zsk u).isEmpty=false:=by
         cases hk : zsk u with
         | nil=>rw [hk] at hi; cases hi
         | cons a b=>rfl
       rw [hne] at hu
       simp only [Bool.false_or,Bool.and_eq_true] at hu
       have hfu:=Nat.eq_of_beq_eq_true hu.1
       have hf' : zkY t+1=f+1:=hf
       exact (zkA u).2 L st i f hi (by omega) hu.2 hcl h2⟩
 | .nil=>⟨fun L st h=>(by cases h),fun L st i f hi=>(by cases hi)⟩
theorem WPS.drawT (hT : zaQ P T) (hmix : P.follows .mixedOrders=true) {id : Nat} {ops : Array Oper} {st : SS} {K : SS→Prop} {Q : Exit→SS→Prop} (late : Late) (m : Nat) (t : OT)
  (hb : (zx4 t&&(chkT ops late m t (Array.replicate ops.size false)&&Nat.beq (zkY t) ops.size))=true) (hs : runT P T C ops late m K t st) (hQ : ∀ s,K s→Q .normal s) : WPS P C (.region id ops true) st Q:=⟨fun a w h=>by
 refine wpIn_region_any hmix ?_
 have h' : SR C st a { w with drawn:=w.drawn+1 }:=by
  obtain ⟨E,hE⟩:=h
  exact ⟨E,hE.world ⟨rfl,rfl,rfl,Nat.le_refl _,fun _ _=>rfl,Nat.le_succ _⟩⟩
 simp only [Bool.and_eq_true] at hb
 obtain ⟨h1,h2,h3⟩:=hb
 have hcl0 : zgq ops (Array.replicate ops.size false):=fun k ok hk=>by simp [Array.getElem?_replicate] at hk
 have key:=(zkA (P:=P) (T:=T) (C:=C) (K:=K) t).1 _ st h1 h2 hcl0 hs
 rw [Nat.eq_of_beq_eq_true h3] at key
 have h4:=key.sound (ro:=none) (n:=0) hT (Q:=lift C Q) (fun st' a' w' hk hr=>⟨st',hr,hQ st' hk⟩) h'
 simpa using h4⟩
theorem WPS.cond {c : Operand} {x y : Code} {st : SS} {Q : Exit→SS→Prop} {b : Bool} (hb : ev st c=some (.o (.v (.bool b)))) (ht : b=true→WPS P C x st Q) (hf : b=false→WPS P C y st Q) : WPS P C (.cond c x y) st Q:=⟨fun a w h=>by
 obtain ⟨E,hE⟩:=h
 have hev : a.eval c=.bool b:=zaH hE hb
 exact wpIn_cond_split hev (fun hb=>(ht hb).wp a w ⟨E,hE⟩) (fun hb=>(hf hb).wp a w ⟨E,hE⟩)⟩
end
end Go.Sx
end
section
/- A symbolic executor over loaded Go code: literal slices that a call writes, or that are returned. -/
namespace Go.Sx
open Go Go.RowKit
section
variable {P : Program} {T : TT} {C : Cx} {E : Env} {st : SS}
end
end Go.Sx
end
section
/- A symbolic executor over loaded Go code: an empty literal slice aq a row of the call's own. -/
namespace Go.Sx
open Go Go.RowKit
section
variable {P : Program} {T : TT} {C : Cx} {E : Env} {st : SS}
theorem SLe.lit0 (i k z t es : Nat) (hi : lk i st.tm=some (.o (.s k 0 0 0))) (hk0 : lk k st.me=some (.box [] t)) (hz : st.has z=false) (hX : C.X=[]:=by rfl) :
  SLe C st ⟨(i,.o (.w z))::st.tm,(z,.own t es 0 [])::rmO (some k) st.me,st.re⟩:=by
 rintro a w ⟨E,h⟩
 have hbut:=Env.setO_but E z (E.β k) (0,0)
 obtain ⟨b0,hb0,hc0⟩:=h.mem.ent _ _ hk0
 have hkz : k≠z:=(SS.has_me hz hk0).1
 have hzβ : (E.setO z (E.β k) (0,0)).β z=E.β k:=by simp [Env.setO]
 refine ⟨E.setO z (E.β k) (0,0),h.size,h.defers,fun j sv hj=>?_,fun j m hj=>?_,fun j m b hj hb=>?_,fun j j' m m' b hj hj' hb hb'=>?_,fun R hR=>?_,h.mem.ext,fun j b m hXj hj=>by rw [hX] at hXj; simp at hXj⟩
 ·simp only [zax] at hj
  split at hj
  ·rename_i e; subst e; cases hj
   have:=h.tm _ _ hi
   rw [this]
   simp [SV.real,AV.real,Env.setO]
  ·rw [SV.real_but hbut (SS.has_tm hz hj)]; exact h.tm j sv hj
 ·simp only [zax] at hj
  split at hj
  ·rename_i e; subst e; cases hj
   show w.ownsRow 0 t es (.slice (((E.setO j (E.β k) (0,0)).β j).map fun b=>⟨b,0,none⟩) ((E.setO j (E.β k) (0,0)).ω j).1 ((E.setO j (E.β k) (0,0)).ω j).2) 0 []
   rw [hzβ,show (E.setO j (E.β k) (0,0)).ω j=(0,0) by simp [Env.setO],hb0]
   exact ⟨by simp,.inr ⟨b0,0,_,rfl,Nat.zero_le _,hc0,Nat.le_refl _,by unfold maxLen; omega,by simp,by simp⟩⟩
  ·rename_i e
   have hj:=(zdY hj).1
   exact (h.mem.ent j m hj).but hbut e (SS.has_me hz hj).2
 ·simp only [zax] at hj
  split at hj
  ·rename_i e; subst e
   rw [hzβ] at hb
   exact h.mem.ge _ _ _ hk0 hb
  ·rename_i e; rw [(hbut _ e).1] at hb; exact h.mem.ge _ _ _ (zdY hj).1 hb
 ·simp only [zax] at hj hj'
  split at hj
  ·rename_i e; subst e
   rw [hzβ] at hb
   split at hj'
   ·rename_i e'; exact e'.symm
   ·rename_i e'
    rw [(hbut _ e').1] at hb'
    exact absurd (congrArg some (h.mem.inj _ _ _ _ _ hk0 (zdY hj').1 hb hb')) (zdY hj').2
  ·rename_i e
   rw [(hbut _ e).1] at hb
   split at hj'
   ·rename_i e'; subst e'
    rw [hzβ] at hb'
    exact absurd (congrArg some (h.mem.inj _ _ _ _ _ hk0 (zdY hj).1 hb' hb)) (zdY hj).2
   ·rename_i e'
    rw [(hbut _ e').1] at hb'
    exact h.mem.inj _ _ _ _ _ (zdY hj).1 (zdY hj').1 hb hb'
 ·obtain ⟨r1,r2,r3⟩:=h.mem.res R hR
  refine ⟨r1,r2,fun b hb=>⟨(r3 b hb).1,fun j m hj=>?_⟩⟩
  simp only [zax] at hj
  split at hj
  ·rename_i e; subst e; rw [hzβ]; exact (r3 b hb).2 _ _ hk0
  ·rename_i e; rw [(hbut _ e).1]; exact (r3 b hb).2 _ _ (zdY hj).1
end
end Go.Sx
end
section
set_option maxRecDepth 10000
set_option maxHeartbeats 2000000
namespace Go.Sx
open Go Go.Proofs
theorem zgF.sub {α : Type} {st : SS} {A A' : Option Addr} {l : List α} {k m n : Nat} {K : List Value→Prop} (f : α→List Value) (hf : ∀ x,(f x).length=n) (hone : ∀ x,∀ v∈f x,v.oneCell'=true) (hR : zaf A (rowV f l)∈st.re)
  (hA : m=0∨A'=A.map (fun a=>a.add (k*n))) (hk : k+m≤l.length) (hn : 0<n) (hK : K (rowV f ((l.drop k).take m))) : zgF st A' (m*n) K:=by
 by_cases hm : m=0
 ·subst hm
  exact zgF.empty (Nat.zero_mul n) (by rw [List.take_zero] at hK; exact hK)
 have hA:=hA.resolve_left hm
 refine ⟨rowV f ((l.drop k).take m),by rw [zag hf,List.length_take,List.length_drop,Nat.min_eq_left (by omega)],ztB hone _,fun w hw=>?_,hK⟩
 have hl : (k+m)*n≤l.length*n:=Nat.mul_le_mul_right _ hk
 rcases hw _ hR with h | ⟨b,o,e,hc⟩
 ·have h3:=congrArg List.length h
  rw [zag hf,List.length_nil] at h3
  have h2 : 0<m*n:=Nat.mul_pos (by omega) hn
  rw [Nat.add_mul] at hl
  omega
 ·refine .inr ⟨⟨b,o+k*n,none⟩,by rw [hA,e,Option.map_some,Addr.add_lit],fun j v hj=>?_⟩
  rw [Addr.add_lit,Nat.add_assoc]
  refine hc _ _ ?_
  rw [←zbm hf,←zfR hf,List.getElem?_take] at hj
  split at hj
  ·rwa [List.getElem?_drop] at hj
  ·cases hj
theorem zny (x : Rat) : ∀ v∈ratQ x,v.oneCell'=true:=fun v hv=>by
 simp only [ratQ,ratC,List.mem_cons,List.not_mem_nil,or_false] at hv
 rcases hv with rfl | rfl | rfl <;> rfl
abbrev InsI (l : List Rat) (x : Rat):={o : Option {p : Option Addr×Nat // (insU x l).length≤p.2} // o=none→x∈l}
def zue (A : Option Addr) (c : Nat) (l : List Rat) (x : Rat) : InsI l x→Value
 | ⟨none,_⟩=>.slice A l.length c
 | ⟨some p,_⟩=>.slice p.1.1 (insU x l).length p.1.2
def zxP (l : List Rat) (x : Rat) : InsI l x→List Res
 | ⟨none,_⟩=>[]
 | ⟨some p,_⟩=>[zaf p.1.1 (rowV ratQ (insU x l))]
theorem zsW {x : Rat} : ∀ {l : List Rat},Asc l→x∈l→insU x l=l
 | y::l,h,hx=>by
  unfold insU
  have hy:=List.pairwise_cons.1 h
  rcases List.mem_cons.1 hx with rfl | hx
  ·rw [if_neg (by grind),if_pos rfl]
  ·have:=hy.1 _ hx
   rw [if_neg (by grind),if_neg (by grind),zsW hy.2 hx]
theorem ztc {x : Rat} : ∀ {l : List Rat} {i : Nat},(∀ j y,l[j]?=some y→j<i→y<x)→(∀ y,l[i]?=some y→x<y)→i≤l.length→insU x l=l.take i++x::l.drop i
 | [],i,_,_,hi=>by
  obtain rfl : i=0:=by simpa using hi
  rfl
 | y::l,0,_,h,_=>by
  have:=h y rfl
  unfold insU
  rw [if_pos this]; rfl
 | y::l,i+1,h1,h2,hi=>by
  have:=h1 0 y rfl (by omega)
  unfold insU
  rw [if_neg (by grind),if_neg (by grind),ztc (i:=i) (fun j z hj hl=>h1 (j+1) z hj (by omega)) (fun z hz=>h2 z hz) (by simpa using hi)]
  rfl
noncomputable def zxj : Code:=match zaU.body with
 | some (.seq _ (.seq _ (.seq _ c)))=>c
 | _=>.skip
noncomputable def zyV : Code:=match zxj with
 | .seq _ c=>c
 | _=>.skip
def zAU : OT:=.q 0 (.q 1 (.q 2 (.fork (.alt 3 (.walk [4,5,6,7,8])
 (.alt 4 (.fork (.alt 3 (.walk [5,6,7,8]) (.alt 5 (.fork (.alt 3 (.walk [6,7,8]) (.alt 6 (.walk [3,7,8]) .nil))) .nil)))
 (.alt 5 (.fork (.alt 3 (.walk [4,6,7,8]) (.alt 4 (.fork (.alt 3 (.walk [6,7,8]) (.alt 6 (.walk [3,7,8]) .nil))) .nil))) .nil))))))
theorem zrH (A : Option Addr) (c : Nat) (l : List Rat) (x : Rat) (hl : Asc l) (hx : Sz KV x) (hs : ∀ y∈l,Sz KV y) (n : Nat) (hn' : n=l.length) (hn : n≤1000000) (hc : n≤c) (w : World) (hA : 0<n→A.isSome=true)
   (i : Nat) (hi : i≤n) (hlt : ∀ j y,l[j]?=some y→j<i→y<x) (hge : ∀ z,l[i]?=some z→x<z) :
   WPS PP ⟨w,[],zaU.ntmps⟩ zyV ⟨[(0,.o (.v (.slice A n c))),(3,.o (.p 3 0)),(5,.o (.v (.int .i64 i)))],[(3,ratM (Q x))],[zaf A (rowV ratQ l)]⟩ (retQ TB zaU fun l_1 st=>zx5 (zue A c l x) (zxP l x) w l_1 st):=by
 refine WPS.peel zab mixed ?_
 conv=>whnf
 refine ⟨by omega,?_⟩
 conv=>whnf
 refine zmj.of (SLX.of (SLe.lit0 35 35 36 zaq 3 rfl rfl rfl) ?_)
 conv=>whnf
 refine zgF.sub (A:=A) (l:=l) (k:=0) (m:=i) (n:=3) ratQ zaP zny (List.mem_cons_self ..) ?_ (by omega) (by decide) ?_
 · by_cases hc0 : c=0
   · exact .inl (by omega)
   · exact .inr (if_neg hc0)
 rw [List.drop_zero]
 refine ⟨by show 0+i≤9223372036854775807∧(0+i)*40≤140737488355328; omega,?_⟩
 conv=>whnf
 refine WPS.le (st':=⟨[(0,.o (.v (.slice A n c))),(3,.o (.p 3 0)),(5,.o (.v (.int .i64 i))),(6,.o (.w 6))],[(3,ratM (Q x)),(6,.own zaq 3 i (rowV ratQ (l.take i)))],[zaf A (rowV ratQ l)]⟩) ?_ (SLe.mk (fun k=>bif Nat.beq k 6 then 39 else k) ⟨rfl,rfl,rfl,rfl,trivial⟩ ⟨⟨_,rfl,.refl _⟩,⟨_,rfl,?_⟩,trivial⟩ rfl (fun R hR=>hR))
 rotate_left
 · show MEle (ME.own zaq 3 (0+i) (app [] (rowV ratQ (l.take i)))) (ME.own zaq 3 i (rowV ratQ (l.take i)))
   rw [Nat.zero_add]; exact .refl _
 refine WPS.seq ?_
 refine WPS.drawT zab mixed [] (9+4294967296*(4+65536*8)) zAU (K:=fun st=>SLe ⟨w,[],zaU.ntmps⟩ st ⟨[(4,.o (.w 4))],[(4,.own zaq 3 (n+1) (rowV ratQ (insU x l)))],[]⟩) (by kernel_rfl) ?_ ?_
 · have hb1 : i+1≤9223372036854775807∧(i+1)*40≤140737488355328:=by omega
   have hb2 : 0≤(i : Int)∧(i : Int)≤(n : Int)∧(n : Int)≤(c : Int):=by omega
   have hb3 : (i+1)+(n-i)≤9223372036854775807∧((i+1)+(n-i))*40≤140737488355328:=by omega
   have hsub : n-i=0∨(if c=i then A else A.map (fun a=>a.add (i*3)))=A.map (fun a=>a.add (i*3)):=by
     by_cases hci : c=i
     · exact .inl (by omega)
     · exact .inr (if_neg hci)
   have hfin : app (app (rowV ratQ (l.take i)) (ratC (Q x))) (rowV ratQ ((l.drop i).take (n-i)))=rowV ratQ (insU x l):=by
     have e : (l.drop i).take (n-i)=l.drop i:=List.take_of_length_le (by rw [List.length_drop]; omega)
     rw [ztc hlt hge (by omega),za1,za1,e,zaC,List.append_assoc]
     rfl
   have hlen : (i+1)+(n-i)=n+1:=by omega
   conv=>whnf
   repeat' (first
     | exact True.intro
     | (refine And.intro ?_ ?_ <;> (conv=>whnf))
     | (refine zgF.sub (A:=A) (l:=l) (k:=i) (m:=n-i) (n:=3) ratQ zaP zny (List.mem_cons_self ..) hsub (by omega) (by decide) ?_; conv=>whnf)
     | (refine ⟨hb1,?_⟩; conv=>whnf)
     | (refine ⟨hb2,?_⟩; conv=>whnf)
     | (refine ⟨hb3,?_⟩; conv=>whnf)
     | (refine SLe.mk (fun k=>bif Nat.beq k 4 then 47 else k) ⟨rfl,trivial⟩ ⟨⟨_,rfl,?_⟩,trivial⟩ rfl (fun R hR=>by cases hR)
        show MEle (ME.own zaq 3 ((i+1)+(n-i)) (app (app (rowV ratQ (l.take i)) (ratC (Q x))) (rowV ratQ ((l.drop i).take (n-i))))) (ME.own zaq 3 (n+1) (rowV ratQ (insU x l)))
        rw [hfin,hlen]; exact .refl _))
 intro st hst
 refine WPS.le ?_ hst
 refine WPS.of zab mixed ?_
 conv=>whnf
 intro N E w' hm
 obtain ⟨A2,c2,h1,h2,h3,h4⟩:=hm.frz (k:=4) rfl
 have hil : (insU x l).length=n+1:=by
   rw [ztc hlt hge (by omega),List.length_append,List.length_cons,List.length_take,List.length_drop]; omega
 refine ⟨⟨some ⟨(A2,c2),by rw [hil]; exact h2⟩,fun h=>(by cases h)⟩,?_,fun R hR=>by rw [List.mem_singleton.1 hR]; exact h3,fun R hR=>by rw [List.mem_singleton.1 hR]; exact h4.bs⟩
 show (AV.w 4).real E=Value.slice A2 (insU x l).length c2
 rw [h1,hil]
theorem zsE (A : Option Addr) (c : Nat) (l : List Rat) (x : Rat) (hl : Asc l) (hx : Sz KV x) (hs : ∀ y∈l,Sz KV y) (n : Nat) (hn' : n=l.length) (hn : n≤1000000) (hc : n≤c) (w : World) (hA : 0<n→A.isSome=true)
  (i : Nat) (hi : i≤n) (hlt : ∀ j y,l[j]?=some y→j<i→y<x) (hge : ∀ z,l[i]?=some z→¬z<x) :
  WPS PP ⟨w,[],zaU.ntmps⟩ zxj ⟨[(0,.o (.v (.slice A n c))),(3,.o (.p 3 0)),(5,.o (.v (.int .i64 i)))],[(3,ratM (Q x))],[zaf A (rowV ratQ l)]⟩ (retQ TB zaU fun l_1 st=>zx5 (zue A c l x) (zxP l x) w l_1 st):=by
 have hel : ∀ {y},l[i]?=some y→Sz KV y:=fun h=>hs _ (List.mem_of_getElem? h)
 refine WPS.peel zab mixed ?_
 conv=>whnf
 refine zaj.quiet (by kernel_rfl) ?_
 conv=>whnf
 by_cases hin : i<n
 ·refine zai (decide_eq_true (show (i : Int)<(n : Int) by omega)) ?_
  obtain ⟨y,hy⟩ : ∃ y,l[i]?=some y:=⟨_,List.getElem?_eq_getElem (by omega)⟩
  conv=>whnf
  refine ⟨⟨by omega,by omega,hA (by omega)⟩,?_⟩
  conv=>whnf
  refine zao.elem (A:=A) (xs:=l) (j:=(i : Int)) ratQ zaP (List.mem_cons_self ..) rfl (by rw [Int.toNat_natCast]; omega) (by decide) (fun h=>by cases h) ?_
  intro y' hy'
  obtain rfl : y'=y:=by rw [Int.toNat_natCast,hy] at hy'; exact (Option.some.inj hy').symm
  conv=>whnf
  by_cases hyx : y'=x
  ·refine zai ((eqRV y' x).trans (decide_eq_true hyx)) ?_
   conv=>whnf
   intro N E w' hm
   exact ⟨⟨none,fun _=>hyx▸List.mem_of_getElem? hy⟩,by rw [hn']; rfl,fun R hR=>(by cases hR),fun R hR=>(by cases hR)⟩
  ·refine zae ((eqRV y' x).trans (decide_eq_false hyx)) ?_
   conv=>whnf
   refine WPS.le (st':=⟨[(0,.o (.v (.slice A n c))),(3,.o (.p 3 0)),(5,.o (.v (.int .i64 i)))],[(3,ratM (Q x))],[zaf A (rowV ratQ l)]⟩) ?_ (SLe.id ⟨rfl,rfl,rfl,trivial⟩ ⟨⟨_,rfl,.refl _⟩,trivial⟩ (fun R hR=>hR))
   exact zrH A c l x hl hx hs n hn' hn hc w hA i hi hlt (fun z hz=>by rw [hy] at hz; cases hz; have:=hge _ hy; grind)
 ·refine zae (decide_eq_false (show ¬(i : Int)<(n : Int) by omega)) ?_
  conv=>whnf
  refine WPS.le (st':=⟨[(0,.o (.v (.slice A n c))),(3,.o (.p 3 0)),(5,.o (.v (.int .i64 i)))],[(3,ratM (Q x))],[zaf A (rowV ratQ l)]⟩) ?_ (SLe.id ⟨rfl,rfl,rfl,trivial⟩ ⟨⟨_,rfl,.refl _⟩,trivial⟩ (fun R hR=>hR))
  exact zrH A c l x hl hx hs n hn' hn hc w hA i hi hlt (fun z hz=>by have:=(List.getElem?_eq_some_iff.1 hz).1; omega)
theorem zy0 (A : Option Addr) (c : Nat) (l : List Rat) (x : Rat) (hl : Asc l) (hx : Sz KV x) (hs : ∀ y∈l,Sz KV y) (hn : l.length≤1000000) (hc : l.length≤c) :
  FnM PP zbs [.slice A l.length c,qV x] (facts [zaf A (rowV ratQ l)]) (zhU (zue A c l x) (zxP l x)):=by
 refine FnE.ofS zab mixed zg2 rfl rfl (Nat.le_of_ble_eq_true rfl) (by simp [zaf.ok]) ?_
 intro w hw
 obtain ⟨n,hn'⟩ : ∃ n,n=l.length:=⟨_,rfl⟩
 have hA : 0<n→A.isSome=true:=fun h=>zap (zaK hw) (by rw [zag zaP]; omega)
 rw [←hn'] at hn hc ⊢
 refine WPS.peel zab mixed ?_
 conv=>whnf
 refine WPS.peel zab mixed ?_
 conv=>whnf
 refine WPS.peel zab mixed ?_
 conv=>whnf
 refine zak (ι:=Nat) (fun i=>⟨[(0,.o (.v (.slice A n c))),(3,.o (.p 3 0)),(5,.o (.v (.int .i64 i)))],[(3,ratM (Q x))],[zaf A (rowV ratQ l)]⟩)
  (fun i=>i≤n∧∀ j y,l[j]?=some y→j<i→y<x) (fun i=>n-i) 0 ⟨Nat.zero_le _,fun j y _ h=>by omega⟩
  (SLe.id ⟨rfl,rfl,rfl,trivial⟩ ⟨⟨_,rfl,.refl _⟩,trivial⟩ (fun R hR=>hR)) ?_
 intro i ⟨hi,hlt⟩
 have hel : ∀ {y},l[i]?=some y→Sz KV y:=fun h=>hs _ (List.mem_of_getElem? h)
 conv=>whnf
 refine zaj.quiet (by kernel_rfl) ?_
 conv=>whnf
 by_cases hin : i<n
 ·refine zai (decide_eq_true (show (i : Int)<(n : Int) by omega)) ?_
  obtain ⟨y,hy⟩ : ∃ y,l[i]?=some y:=⟨_,List.getElem?_eq_getElem (by omega)⟩
  conv=>whnf
  refine ⟨⟨by omega,by omega,hA (by omega)⟩,?_⟩
  conv=>whnf
  refine zao.elem (A:=A) (xs:=l) (j:=(i : Int)) ratQ zaP (List.mem_cons_self ..) rfl (by rw [Int.toNat_natCast]; omega) (by decide) (fun h=>by cases h) ?_
  intro y' hy'
  obtain rfl : y'=y:=by rw [Int.toNat_natCast,hy] at hy'; exact (Option.some.inj hy').symm
  conv=>whnf
  refine cd (zaX (Q y') (Q x) ((hel hy).q.le (by decide)) (hx.q.le (by decide))) ?_
  rw [Q_v,Q_v]
  conv=>whnf
  refine zah ?_ ?_ <;> intro h
  ·have hyx : y' < x:=zbg.1 (of_decide_eq_true h)
   conv=>whnf
   refine ⟨i+1,⟨by omega,fun j z hz hj=>?_⟩,by show n-(i+1)<n-i; omega,SLe.id ⟨rfl,rfl,zan hin (by omega),trivial⟩ ⟨⟨_,rfl,.refl _⟩,trivial⟩ (fun R hR=>hR)⟩
   by_cases hji : j=i
   ·subst hji; rw [hy] at hz; cases hz; exact hyx
   ·exact hlt j z hz (by omega)
  ·have hge : ∀ z,l[i]?=some z→¬z<x:=fun z hz hzx=>by
    rw [hy] at hz; cases hz
    exact of_decide_eq_false h (zbg.2 hzx)
   conv=>whnf
   refine WPS.le (st':=⟨[(0,.o (.v (.slice A n c))),(3,.o (.p 3 0)),(5,.o (.v (.int .i64 i)))],[(3,ratM (Q x))],[zaf A (rowV ratQ l)]⟩) ?_ (SLe.id ⟨rfl,rfl,rfl,trivial⟩ ⟨⟨_,rfl,.refl _⟩,trivial⟩ (fun R hR=>hR))
   exact zsE A c l x hl hx hs n hn' hn hc w hA i hi hlt hge
 ·refine zae (decide_eq_false (show ¬(i : Int)<(n : Int) by omega)) ?_
  have hge : ∀ z,l[i]?=some z→¬z<x:=fun z hz hzx=>by
   have:=(List.getElem?_eq_some_iff.1 hz).1
   omega
  conv=>whnf
  refine WPS.le (st':=⟨[(0,.o (.v (.slice A n c))),(3,.o (.p 3 0)),(5,.o (.v (.int .i64 i)))],[(3,ratM (Q x))],[zaf A (rowV ratQ l)]⟩) ?_ (SLe.id ⟨rfl,rfl,rfl,trivial⟩ ⟨⟨_,rfl,.refl _⟩,trivial⟩ (fun R hR=>hR))
  exact zsE A c l x hl hx hs n hn' hn hc w hA i hi hlt hge
theorem zAn {a : Addr} {xs : List Value} (h : xs≠[]) : a.block∈SlB (some a) xs:=by
 cases xs with
 | nil=>exact absurd rfl h
 | cons _ _=>exact List.mem_singleton.2 rfl
theorem zAe (x : Rat) (l : List Rat) : rowV ratQ (insU x l)≠[]:=fun h=>by
 have h1:=congrArg List.length h
 rw [zag zaP,List.length_nil] at h1
 have h2:=List.length_pos_of_mem (zcJ.2 (.inl rfl) : x∈insU x l)
 omega
theorem zac.ins {C : Cx} {st : SS} {A : Option Addr} {c : Nat} {l : List Rat} {x : Rat} {K : SV→SS→Prop} (hl : Asc l) (hx : Sz KV x) (hs : ∀ y∈l,Sz KV y) (hn : l.length≤1000000) (hc : l.length≤c) (hR : zaf A (rowV ratQ l)∈st.re) (hfr : Fr C.W0 A)
  (hk : ∀ A' c',(insU x l).length≤c'→Fr C.W0 A'→K (.o (.v (.slice A' (insU x l).length c'))) { st with re:=zaf A' (rowV ratQ (insU x l))::st.re }) {n : Nat} (hn' : n=l.length) {v : Value} (hv : v=qV x) : zac PP C zbs [.o (.v (.slice A n c)),.o (.v v)] st K:=by
 subst hn' hv
 have hf:=zy0 A c l x hl hx hs hn hc
 have h : zaB PP zbs [.o (.v (.slice A l.length c)),.o (.v (qV x))] st (zhU (zue A c l x) (zxP l x)):=zaB.facts hf rfl (fun R h=>by rw [List.mem_singleton.1 h]; exact hR)
 refine ⟨hf.enters,fun E w hm=>(h E w (fun k mm _ hk=>hm.ent k mm hk) (fun R hR=>(hm.res R hR).2.1)).mono ?_⟩
 rintro e w' ⟨⟨i,hi⟩,rfl,hf',hge,hb⟩
 have hm':=hm.world (st:=st) hb
 cases i with
 | none =>
  have hsame:=zsW hl (hi rfl)
  obtain ⟨k1,k2,k3⟩:=hm'.res _ hR
  refine ⟨E,{ st with re:=zaf A (rowV ratQ (insU x l))::st.re },.o (.v (.slice A (insU x l).length c)),?_,?_,KD.below hb,fun i sv h=>⟨sv,h,rfl⟩,hk A c (by rw [hsame]; exact hc) hfr⟩
  ·show Ending.returned (Value.slice A l.length c)=Ending.returned (Value.slice A (insU x l).length c)
   rw [hsame]
  ·rw [hsame]
   exact hm'.more (zaf.ok _ _) k2 (fun b hb' k m hkk hβ=>(k3 b hb').2 k m hkk hβ)
 | some p =>
  have hR':=List.mem_singleton.2 (rfl : zaf p.1.1 (rowV ratQ (insU x l))=zaf p.1.1 (rowV ratQ (insU x l)))
  refine ⟨E,{ st with re:=zaf p.1.1 (rowV ratQ (insU x l))::st.re },.o (.v (.slice p.1.1 (insU x l).length p.1.2)),rfl,?_,KD.below hb,fun i sv h=>⟨sv,h,rfl⟩,hk _ _ p.2 (fun a ha=>Nat.le_trans hm.ext.size (hge _ hR' a.block (by show a.block∈SlB p.1.1 (rowV ratQ (insU x l)); rw [ha]; exact zAn (zAe x l))))⟩
  refine hm'.more (zaf.ok _ _) (hf' _ hR') (fun b hb' k m hkk hβ=>?_)
  have h3:=hge _ hR' b hb'
  have h4:=(hm.ge k m b hkk hβ).2
  omega
end Go.Sx
end
section
set_option maxRecDepth 10000
set_option maxHeartbeats 2000000
namespace Go.Sx
open Go Go.Proofs
theorem zk4 {α : Type} {l m : List α} {i : Nat} {x y : α} (h : l.take i=m.take i) (hx : l[i]?=some x) (hy : m[i]?=some y) (e : x=y) : l.take (i+1)=m.take (i+1):=by
 rw [zaE hx,zaE hy,h,e]
theorem znF {α : Type} {l m : List α} {i : Nat} {x y : α} (hx : l[i]?=some x) (hy : m[i]?=some y) (e : x≠y) : l≠m:=fun h=>e (by rw [h,hy] at hx; cases hx; rfl)
theorem zni {α : Type} {l m : List α} {i : Nat} (h : l.take i=m.take i) (hl : l.length≤i) (hm : m.length≤i) : l=m:=by
 rwa [List.take_of_length_le hl,List.take_of_length_le hm] at h
theorem zpT (A B : Option Addr) (c d : Nat) (l m : List Rat) (hl : l.length≤100000000) (hm : m.length≤100000000) :
  FnM PP zc6 [.slice A l.length c,.slice B m.length d] (facts [zaf A (rowV ratQ l),zaf B (rowV ratQ m)]) (zbu (.bool (decide (l=m)))):=by
 refine FnS.of zab mixed zf6 rfl rfl (Nat.le_of_ble_eq_true rfl) (by simp [zaf.ok]) ?_
 intro w hw
 obtain ⟨n,hn⟩ : ∃ n,n=l.length:=⟨_,rfl⟩
 obtain ⟨k,hk⟩ : ∃ k,k=m.length:=⟨_,rfl⟩
 have hA : 0<n→A.isSome=true:=fun h=>zap (hw _ (List.mem_cons_self ..)) (by rw [zag zaP]; omega)
 have hB : 0<k→B.isSome=true:=fun h=>zap (hw _ (List.mem_cons_of_mem _ (List.mem_cons_self ..))) (by rw [zag zaP]; omega)
 rw [←hn] at hl ⊢
 rw [←hk] at hm ⊢
 conv=>whnf
 by_cases hnk : n=k
 rotate_left
 ·refine zai (by show (!((n : Int)==(k : Int)))=true; simp; omega) ?_
  conv=>whnf
  refine zaa ?_
  rw [decide_eq_false (fun h=>hnk (by rw [hn,hk,h]))]
 refine zae (by show (!((n : Int)==(k : Int)))=false; simp; omega) ?_
 conv=>whnf
 refine zak (ι:=Nat) (fun i=>⟨[(0,.o (.v (.slice A n c))),(1,.o (.v (.slice B k d))),(5,.o (.v (.int .i64 i)))],[],[zaf A (rowV ratQ l),zaf B (rowV ratQ m)]⟩)
  (fun i=>i≤n∧l.take i=m.take i) (fun i=>n-i) 0 ⟨Nat.zero_le _,rfl⟩ (SLe.id ⟨rfl,rfl,rfl,trivial⟩ trivial (fun R hR=>hR)) ?_
 intro i ⟨hi,ht⟩
 conv=>whnf
 by_cases hin : i<n
 rotate_left
 ·refine zae (decide_eq_false (show ¬(i : Int)<(n : Int) by omega)) ?_
  conv=>whnf
  refine zaa ?_
  rw [decide_eq_true (zni ht (by omega) (by omega))]
 refine zai (decide_eq_true (show (i : Int)<(n : Int) by omega)) ?_
 obtain ⟨x,hx⟩ : ∃ x,l[i]?=some x:=⟨_,List.getElem?_eq_getElem (by omega)⟩
 obtain ⟨y,hy⟩ : ∃ y,m[i]?=some y:=⟨_,List.getElem?_eq_getElem (by omega)⟩
 conv=>whnf
 refine zaj.quiet (by kernel_rfl) ?_
 conv=>whnf
 refine ⟨⟨by omega,by omega,hA (by omega)⟩,?_⟩
 conv=>whnf
 refine zao.elem (A:=A) (xs:=l) (j:=(i : Int)) ratQ zaP (List.mem_cons_self ..) rfl (by rw [Int.toNat_natCast]; omega) (by decide) (fun h=>by cases h) ?_
 intro x' hx'
 obtain rfl:=zbV hx' hx
 conv=>whnf
 refine ⟨⟨by omega,by omega,hB (by omega)⟩,?_⟩
 conv=>whnf
 refine zao.elem (A:=B) (xs:=m) (j:=(i : Int)) ratQ zaP (List.mem_cons_of_mem _ (List.mem_cons_self ..)) rfl (by rw [Int.toNat_natCast]; omega) (by decide) (fun h=>by cases h) ?_
 intro y' hy'
 obtain rfl:=zbV hy' hy
 conv=>whnf
 by_cases hxy : x'=y'
 ·refine zae (congrArg (!·) ((eqRV x' y').trans (decide_eq_true hxy))) ?_
  conv=>whnf
  exact ⟨i+1,⟨by omega,zk4 ht hx hy hxy⟩,by show n-(i+1)<n-i; omega,SLe.id ⟨rfl,rfl,zan hin (by omega),trivial⟩ trivial (fun R hR=>hR)⟩
 ·refine zai (congrArg (!·) ((eqRV x' y').trans (decide_eq_false hxy))) ?_
  conv=>whnf
  refine zaa ?_
  rw [decide_eq_false (znF hx hy hxy)]
theorem zkw (x : Nat) : (intC x).length=1:=rfl
theorem zvz (A B : Option Addr) (c d : Nat) (l m : List Nat) (hl : l.length≤100000000) (hm : m.length≤100000000) :
  FnM PP zc1 [.slice A l.length c,.slice B m.length d] (facts [zaf A (rowV intC l),zaf B (rowV intC m)]) (zbu (.bool (decide (l=m)))):=by
 refine FnS.of zab mixed zgi rfl rfl (Nat.le_of_ble_eq_true rfl) (by simp [zaf.ok]) ?_
 intro w hw
 obtain ⟨n,hn⟩ : ∃ n,n=l.length:=⟨_,rfl⟩
 obtain ⟨k,hk⟩ : ∃ k,k=m.length:=⟨_,rfl⟩
 have hA : 0<n→A.isSome=true:=fun h=>zap (hw _ (List.mem_cons_self ..)) (by rw [zag zkw]; omega)
 have hB : 0<k→B.isSome=true:=fun h=>zap (hw _ (List.mem_cons_of_mem _ (List.mem_cons_self ..))) (by rw [zag zkw]; omega)
 rw [←hn] at hl ⊢
 rw [←hk] at hm ⊢
 conv=>whnf
 by_cases hnk : n=k
 rotate_left
 ·refine zai (by show (!((n : Int)==(k : Int)))=true; simp; omega) ?_
  conv=>whnf
  refine zaa ?_
  rw [decide_eq_false (fun h=>hnk (by rw [hn,hk,h]))]
 refine zae (by show (!((n : Int)==(k : Int)))=false; simp; omega) ?_
 conv=>whnf
 refine zak (ι:=Nat) (fun i=>⟨[(0,.o (.v (.slice A n c))),(1,.o (.v (.slice B k d))),(5,.o (.v (.int .i64 i)))],[],[zaf A (rowV intC l),zaf B (rowV intC m)]⟩)
  (fun i=>i≤n∧l.take i=m.take i) (fun i=>n-i) 0 ⟨Nat.zero_le _,rfl⟩ (SLe.id ⟨rfl,rfl,rfl,trivial⟩ trivial (fun R hR=>hR)) ?_
 intro i ⟨hi,ht⟩
 conv=>whnf
 by_cases hin : i<n
 rotate_left
 ·refine zae (decide_eq_false (show ¬(i : Int)<(n : Int) by omega)) ?_
  conv=>whnf
  refine zaa ?_
  rw [decide_eq_true (zni ht (by omega) (by omega))]
 refine zai (decide_eq_true (show (i : Int)<(n : Int) by omega)) ?_
 obtain ⟨x,hx⟩ : ∃ x,l[i]?=some x:=⟨_,List.getElem?_eq_getElem (by omega)⟩
 obtain ⟨y,hy⟩ : ∃ y,m[i]?=some y:=⟨_,List.getElem?_eq_getElem (by omega)⟩
 conv=>whnf
 refine zaj.quiet (by kernel_rfl) ?_
 conv=>whnf
 refine ⟨⟨by omega,by omega,hA (by omega)⟩,?_⟩
 conv=>whnf
 refine zao.elem (A:=A) (xs:=l) (j:=(i : Int)) intC (fun _=>rfl) (List.mem_cons_self ..) rfl (by rw [Int.toNat_natCast]; omega) (by decide) (fun _=>rfl) ?_
 intro x' hx'
 obtain rfl:=zbV hx' hx
 conv=>whnf
 refine ⟨⟨by omega,by omega,hB (by omega)⟩,?_⟩
 conv=>whnf
 refine zao.elem (A:=B) (xs:=m) (j:=(i : Int)) intC (fun _=>rfl) (List.mem_cons_of_mem _ (List.mem_cons_self ..)) rfl (by rw [Int.toNat_natCast]; omega) (by decide) (fun _=>rfl) ?_
 intro y' hy'
 obtain rfl:=zbV hy' hy
 conv=>whnf
 by_cases hxy : x'=y'
 ·refine zae (by show (!((x' : Int)==(y' : Int)))=false; simp [hxy]) ?_
  conv=>whnf
  exact ⟨i+1,⟨by omega,zk4 ht hx hy hxy⟩,by show n-(i+1)<n-i; omega,SLe.id ⟨rfl,rfl,zan hin (by omega),trivial⟩ trivial (fun R hR=>hR)⟩
 ·refine zai (by show (!((x' : Int)==(y' : Int)))=true; simp; omega) ?_
  conv=>whnf
  refine zaa ?_
  rw [decide_eq_false (znF hx hy hxy)]
theorem zBu (x y : Cel) : ((x.k : Int)==(y.k : Int)&&((x.c : Int)==(y.c : Int)&&((x.r : Int)==(y.r : Int)&&true)))=decide (x=y):=by
 refine Bool.eq_iff_iff.2 ?_
 simp only [Bool.and_true,Bool.and_eq_true,beq_iff_eq,decide_eq_true_eq]
 constructor
 ·rintro ⟨h1,h2,h3⟩
  cases x; cases y
  simp only [Cel.mk.injEq]; simp only at h1 h2 h3
  omega
 ·rintro rfl; exact ⟨rfl,rfl,rfl⟩
theorem zjE (A B : Option Addr) (c d : Nat) (l m : List Cel) (hl : l.length≤100000000) (hm : m.length≤100000000) :
  FnM PP zcT [.slice A l.length c,.slice B m.length d] (facts [zaf A (rowV Cel.C l),zaf B (rowV Cel.C m)]) (zbu (.bool (decide (l=m)))):=by
 refine FnS.of zab mixed zfS rfl rfl (Nat.le_of_ble_eq_true rfl) (by simp [zaf.ok]) ?_
 intro w hw
 obtain ⟨n,hn⟩ : ∃ n,n=l.length:=⟨_,rfl⟩
 obtain ⟨k,hk⟩ : ∃ k,k=m.length:=⟨_,rfl⟩
 have hA : 0<n→A.isSome=true:=fun h=>zap (hw _ (List.mem_cons_self ..)) (by rw [zag Cel.C_len]; omega)
 have hB : 0<k→B.isSome=true:=fun h=>zap (hw _ (List.mem_cons_of_mem _ (List.mem_cons_self ..))) (by rw [zag Cel.C_len]; omega)
 rw [←hn] at hl ⊢
 rw [←hk] at hm ⊢
 conv=>whnf
 by_cases hnk : n=k
 rotate_left
 ·refine zai (by show (!((n : Int)==(k : Int)))=true; simp; omega) ?_
  conv=>whnf
  refine zaa ?_
  rw [decide_eq_false (fun h=>hnk (by rw [hn,hk,h]))]
 refine zae (by show (!((n : Int)==(k : Int)))=false; simp; omega) ?_
 conv=>whnf
 refine zak (ι:=Nat) (fun i=>⟨[(0,.o (.v (.slice A n c))),(1,.o (.v (.slice B k d))),(5,.o (.v (.int .i64 i)))],[],[zaf A (rowV Cel.C l),zaf B (rowV Cel.C m)]⟩)
  (fun i=>i≤n∧l.take i=m.take i) (fun i=>n-i) 0 ⟨Nat.zero_le _,rfl⟩ (SLe.id ⟨rfl,rfl,rfl,trivial⟩ trivial (fun R hR=>hR)) ?_
 intro i ⟨hi,ht⟩
 conv=>whnf
 by_cases hin : i<n
 rotate_left
 ·refine zae (decide_eq_false (show ¬(i : Int)<(n : Int) by omega)) ?_
  conv=>whnf
  refine zaa ?_
  rw [decide_eq_true (zni ht (by omega) (by omega))]
 refine zai (decide_eq_true (show (i : Int)<(n : Int) by omega)) ?_
 obtain ⟨x,hx⟩ : ∃ x,l[i]?=some x:=⟨_,List.getElem?_eq_getElem (by omega)⟩
 obtain ⟨y,hy⟩ : ∃ y,m[i]?=some y:=⟨_,List.getElem?_eq_getElem (by omega)⟩
 conv=>whnf
 refine zaj.quiet (by kernel_rfl) ?_
 conv=>whnf
 refine ⟨⟨by omega,by omega,hA (by omega)⟩,?_⟩
 conv=>whnf
 refine zao.elem (A:=A) (xs:=l) (j:=(i : Int)) Cel.C Cel.C_len (List.mem_cons_self ..) rfl (by rw [Int.toNat_natCast]; omega) (by decide) (fun h=>by cases h) ?_
 intro x' hx'
 obtain rfl:=zbV hx' hx
 conv=>whnf
 refine ⟨⟨by omega,by omega,hB (by omega)⟩,?_⟩
 conv=>whnf
 refine zao.elem (A:=B) (xs:=m) (j:=(i : Int)) Cel.C Cel.C_len (List.mem_cons_of_mem _ (List.mem_cons_self ..)) rfl (by rw [Int.toNat_natCast]; omega) (by decide) (fun h=>by cases h) ?_
 intro y' hy'
 obtain rfl:=zbV hy' hy
 conv=>whnf
 by_cases hxy : x'=y'
 ·refine zae (congrArg (!·) ((zBu x' y').trans (decide_eq_true hxy))) ?_
  conv=>whnf
  exact ⟨i+1,⟨by omega,zk4 ht hx hy hxy⟩,by show n-(i+1)<n-i; omega,SLe.id ⟨rfl,rfl,zan hin (by omega),trivial⟩ trivial (fun R hR=>hR)⟩
 ·refine zai (congrArg (!·) ((zBu x' y').trans (decide_eq_false hxy))) ?_
  conv=>whnf
  refine zaa ?_
  rw [decide_eq_false (znF hx hy hxy)]
theorem eqSG (e g : V×V) : ((PQ e.1).x.neg==(PQ g.1).x.neg&&((bs (PQ e.1).x.num).toList==(bs (PQ g.1).x.num).toList&&((bs (PQ e.1).x.den).toList==(bs (PQ g.1).x.den).toList&&((PQ e.1).y.neg==(PQ g.1).y.neg&&((bs (PQ e.1).y.num).toList==(bs (PQ g.1).y.num).toList&&((bs (PQ e.1).y.den).toList==(bs (PQ g.1).y.den).toList&&((PQ e.2).x.neg==(PQ g.2).x.neg&&((bs (PQ e.2).x.num).toList==(bs (PQ g.2).x.num).toList&&((bs (PQ e.2).x.den).toList==(bs (PQ g.2).x.den).toList&&((PQ e.2).y.neg==(PQ g.2).y.neg&&((bs (PQ e.2).y.num).toList==(bs (PQ g.2).y.num).toList&&((bs (PQ e.2).y.den).toList==(bs (PQ g.2).y.den).toList&&true))))))))))))=decide (e=g):=by
 have h1:=eqPV e.1 g.1
 have h2:=eqPV e.2 g.2
 simp only [Bool.and_true] at h1 h2
 rw [show ((PQ e.1).x.neg==(PQ g.1).x.neg&&((bs (PQ e.1).x.num).toList==(bs (PQ g.1).x.num).toList&&((bs (PQ e.1).x.den).toList==(bs (PQ g.1).x.den).toList&&((PQ e.1).y.neg==(PQ g.1).y.neg&&((bs (PQ e.1).y.num).toList==(bs (PQ g.1).y.num).toList&&((bs (PQ e.1).y.den).toList==(bs (PQ g.1).y.den).toList&&((PQ e.2).x.neg==(PQ g.2).x.neg&&((bs (PQ e.2).x.num).toList==(bs (PQ g.2).x.num).toList&&((bs (PQ e.2).x.den).toList==(bs (PQ g.2).x.den).toList&&((PQ e.2).y.neg==(PQ g.2).y.neg&&((bs (PQ e.2).y.num).toList==(bs (PQ g.2).y.num).toList&&((bs (PQ e.2).y.den).toList==(bs (PQ g.2).y.den).toList&&true))))))))))))=(((PQ e.1).x.neg==(PQ g.1).x.neg&&((bs (PQ e.1).x.num).toList==(bs (PQ g.1).x.num).toList&&((bs (PQ e.1).x.den).toList==(bs (PQ g.1).x.den).toList&&((PQ e.1).y.neg==(PQ g.1).y.neg&&((bs (PQ e.1).y.num).toList==(bs (PQ g.1).y.num).toList&&((bs (PQ e.1).y.den).toList==(bs (PQ g.1).y.den).toList))))))&&((PQ e.2).x.neg==(PQ g.2).x.neg&&((bs (PQ e.2).x.num).toList==(bs (PQ g.2).x.num).toList&&((bs (PQ e.2).x.den).toList==(bs (PQ g.2).x.den).toList&&((PQ e.2).y.neg==(PQ g.2).y.neg&&((bs (PQ e.2).y.num).toList==(bs (PQ g.2).y.num).toList&&((bs (PQ e.2).y.den).toList==(bs (PQ g.2).y.den).toList))))))) from by simp only [Bool.and_true,Bool.and_assoc],h1,h2,←Bool.decide_and]
 exact decide_eq_decide.2 ⟨fun h=>Prod.ext h.1 h.2,fun h=>by rw [h]; exact ⟨rfl,rfl⟩⟩
theorem zzN (A B : Option Addr) (c d : Nat) (l m : List (V×V)) (hl : l.length≤100000000) (hm : m.length≤100000000) :
  FnM PP zex [.slice A l.length c,.slice B m.length d] (facts [zaf A (rowV sgq l),zaf B (rowV sgq m)]) (zbu (.bool (decide (l=m)))):=by
 refine FnS.of zab mixed zjr rfl rfl (Nat.le_of_ble_eq_true rfl) (by simp [zaf.ok]) ?_
 intro w hw
 obtain ⟨n,hn⟩ : ∃ n,n=l.length:=⟨_,rfl⟩
 obtain ⟨k,hk⟩ : ∃ k,k=m.length:=⟨_,rfl⟩
 have hA : 0<n→A.isSome=true:=fun h=>zap (hw _ (List.mem_cons_self ..)) (by rw [zag zaN]; omega)
 have hB : 0<k→B.isSome=true:=fun h=>zap (hw _ (List.mem_cons_of_mem _ (List.mem_cons_self ..))) (by rw [zag zaN]; omega)
 rw [←hn] at hl ⊢
 rw [←hk] at hm ⊢
 conv=>whnf
 by_cases hnk : n=k
 rotate_left
 ·refine zai (by show (!((n : Int)==(k : Int)))=true; simp; omega) ?_
  conv=>whnf
  refine zaa ?_
  rw [decide_eq_false (fun h=>hnk (by rw [hn,hk,h]))]
 refine zae (by show (!((n : Int)==(k : Int)))=false; simp; omega) ?_
 conv=>whnf
 refine zak (ι:=Nat) (fun i=>⟨[(0,.o (.v (.slice A n c))),(1,.o (.v (.slice B k d))),(5,.o (.v (.int .i64 i)))],[],[zaf A (rowV sgq l),zaf B (rowV sgq m)]⟩)
  (fun i=>i≤n∧l.take i=m.take i) (fun i=>n-i) 0 ⟨Nat.zero_le _,rfl⟩ (SLe.id ⟨rfl,rfl,rfl,trivial⟩ trivial (fun R hR=>hR)) ?_
 intro i ⟨hi,ht⟩
 conv=>whnf
 by_cases hin : i<n
 rotate_left
 ·refine zae (decide_eq_false (show ¬(i : Int)<(n : Int) by omega)) ?_
  conv=>whnf
  refine zaa ?_
  rw [decide_eq_true (zni ht (by omega) (by omega))]
 refine zai (decide_eq_true (show (i : Int)<(n : Int) by omega)) ?_
 obtain ⟨x,hx⟩ : ∃ x,l[i]?=some x:=⟨_,List.getElem?_eq_getElem (by omega)⟩
 obtain ⟨y,hy⟩ : ∃ y,m[i]?=some y:=⟨_,List.getElem?_eq_getElem (by omega)⟩
 conv=>whnf
 refine zaj.quiet (by kernel_rfl) ?_
 conv=>whnf
 refine ⟨⟨by omega,by omega,hA (by omega)⟩,?_⟩
 conv=>whnf
 refine zao.elem (A:=A) (xs:=l) (j:=(i : Int)) sgq zaN (List.mem_cons_self ..) rfl (by rw [Int.toNat_natCast]; omega) (by decide) (fun h=>by cases h) ?_
 intro x' hx'
 obtain rfl:=zbV hx' hx
 conv=>whnf
 refine ⟨⟨by omega,by omega,hB (by omega)⟩,?_⟩
 conv=>whnf
 refine zao.elem (A:=B) (xs:=m) (j:=(i : Int)) sgq zaN (List.mem_cons_of_mem _ (List.mem_cons_self ..)) rfl (by rw [Int.toNat_natCast]; omega) (by decide) (fun h=>by cases h) ?_
 intro y' hy'
 obtain rfl:=zbV hy' hy
 conv=>whnf
 by_cases hxy : x'=y'
 ·refine zae (congrArg (!·) ((eqSG x' y').trans (decide_eq_true hxy))) ?_
  conv=>whnf
  exact ⟨i+1,⟨by omega,zk4 ht hx hy hxy⟩,by show n-(i+1)<n-i; omega,SLe.id ⟨rfl,rfl,zan hin (by omega),trivial⟩ trivial (fun R hR=>hR)⟩
 ·refine zai (congrArg (!·) ((eqSG x' y').trans (decide_eq_false hxy))) ?_
  conv=>whnf
  refine zaa ?_
  rw [decide_eq_false (znF hx hy hxy)]
end Go.Sx
end
section
set_option maxRecDepth 10000
set_option maxHeartbeats 2000000
namespace Go.Sx
open Go Go.Proofs
theorem zBO (s : Sl) (k col : Nat) (hk : k<4) (hc : col<s.X.xs.length) (hL : s.L.xs.length=s.X.xs.length) (hS : s.S.xs.length+1=s.X.xs.length) (hn : s.X.xs.length≤1000000) (hl1 : ∀ l∈s.L.xs,l.xs.length≤1000000) (hs1 : ∀ l∈s.S.xs,l.xs.length≤1000000) :
  FnM PP zeD [s.V,.int .i64 k,.int .i64 col] (facts s.F) (zbu (.int .i64 (cntK s k col))):=by
 refine FnS.of zab mixed zjX rfl rfl (Nat.le_of_ble_eq_true rfl) s.F_ok ?_
 intro w hw
 have hAL : s.L.A.isSome=true:=zap (hw _ Sl.F_L) (by rw [zag Ln.C_len]; omega)
 obtain ⟨l,hl⟩ : ∃ l,s.L.xs[col]?=some l:=⟨_,List.getElem?_eq_getElem (by omega)⟩
 have hll:=hl1 l (List.mem_of_getElem? hl)
 have hw1 : IntKind.i64.wrap ((col : Int)+1)=((col+1 : Nat) : Int):=zkv hc (by omega)
 conv=>whnf
 refine zaj.quiet (by kernel_rfl) ?_
 conv=>whnf
 refine zai (decide_eq_true (by omega)) ?_
 conv=>whnf
 have hk' : k=0∨k=1∨k=2∨k=3:=by omega
 have hdL : decide ((col : Int)<(s.L.xs.length : Int))=true:=decide_eq_true (by omega)
 have vL : ∀ d : Nat,zdC s d col=(l.xs.length : Int)-d:=fun d=>by
  rw [zdC,if_pos ⟨by omega,hc⟩,List.getD_eq_getElem?_getD,List.getElem?_map,hl]; rfl
 by_cases hla : col+1<s.X.xs.length
 ·refine zai (decide_eq_true (by rw [hw1]; omega)) ?_
  conv=>whnf
  refine zai (decide_eq_true (by omega)) ?_
  have hAS : s.S.A.isSome=true:=zap (hw _ Sl.F_S) (by rw [zag Ln.C_len]; omega)
  obtain ⟨t,ht⟩ : ∃ t,s.S.xs[col]?=some t:=⟨_,List.getElem?_eq_getElem (by omega)⟩
  have htl:=hs1 t (List.mem_of_getElem? ht)
  have hdS : decide (IntKind.i64.wrap ((col : Int)+1)<(s.L.xs.length : Int))=true:=decide_eq_true (by rw [hw1]; omega)
  have vS : ∀ d : Nat,zbv s d col=(t.xs.length : Int)+d:=fun d=>by
   rw [zbv,if_pos ⟨by omega,hla,by omega⟩,List.getD_eq_getElem?_getD,List.getElem?_map,ht]; rfl
  rcases hk' with rfl | rfl | rfl | rfl
  ·conv=>whnf
   refine zai hdL ?_
   conv=>whnf
   refine ⟨⟨by omega,by omega,hAL⟩,?_⟩
   conv=>whnf
   refine zao.elem (A:=s.L.A) (xs:=s.L.xs) (j:=(col : Int)) Ln.C Ln.C_len Sl.F_L rfl (by rw [Int.toNat_natCast]; omega) (by decide) (fun _=>rfl) ?_
   intro l' hl'
   obtain rfl:=zbV hl' hl
   conv=>whnf
   refine zaa (congrArg (Value.int .i64) ?_)
   show (l'.xs.length : Int)=zdC s 0 col
   rw [vL]; omega
  ·conv=>whnf
   refine zai hdL ?_
   conv=>whnf
   refine ⟨⟨by omega,by omega,hAL⟩,?_⟩
   conv=>whnf
   refine zao.elem (A:=s.L.A) (xs:=s.L.xs) (j:=(col : Int)) Ln.C Ln.C_len Sl.F_L rfl (by rw [Int.toNat_natCast]; omega) (by decide) (fun _=>rfl) ?_
   intro l' hl'
   obtain rfl:=zbV hl' hl
   conv=>whnf
   refine zaa (congrArg (Value.int .i64) ?_)
   show IntKind.i64.wrap ((l'.xs.length : Int)-1)=zdC s 1 col
   rw [vL,wrap_i64 (by omega) (by omega)]; omega
  ·conv=>whnf
   refine zai hdS ?_
   conv=>whnf
   refine ⟨⟨by omega,by omega,hAS⟩,?_⟩
   conv=>whnf
   refine zao.elem (A:=s.S.A) (xs:=s.S.xs) (j:=(col : Int)) Ln.C Ln.C_len Sl.F_S rfl (by rw [Int.toNat_natCast]; omega) (by decide) (fun _=>rfl) ?_
   intro l' hl'
   obtain rfl:=zbV hl' ht
   conv=>whnf
   refine zaa (congrArg (Value.int .i64) ?_)
   show IntKind.i64.wrap ((l'.xs.length : Int)+2)=zbv s 2 col
   rw [vS,wrap_i64 (by omega) (by omega)]; omega
  ·conv=>whnf
   refine zai hdS ?_
   conv=>whnf
   refine ⟨⟨by omega,by omega,hAS⟩,?_⟩
   conv=>whnf
   refine zao.elem (A:=s.S.A) (xs:=s.S.xs) (j:=(col : Int)) Ln.C Ln.C_len Sl.F_S rfl (by rw [Int.toNat_natCast]; omega) (by decide) (fun _=>rfl) ?_
   intro l' hl'
   obtain rfl:=zbV hl' ht
   conv=>whnf
   refine zaa (congrArg (Value.int .i64) ?_)
   show IntKind.i64.wrap ((l'.xs.length : Int)+1)=zbv s 1 col
   rw [vS,wrap_i64 (by omega) (by omega)]; omega
 ·refine zae (decide_eq_false (by rw [hw1]; omega)) ?_
  have vS : ∀ d : Nat,zbv s d col=0:=fun d=>by rw [zbv,if_neg (fun h=>hla h.2.1)]
  rcases hk' with rfl | rfl | rfl | rfl
  ·conv=>whnf
   refine zai hdL ?_
   conv=>whnf
   refine ⟨⟨by omega,by omega,hAL⟩,?_⟩
   conv=>whnf
   refine zao.elem (A:=s.L.A) (xs:=s.L.xs) (j:=(col : Int)) Ln.C Ln.C_len Sl.F_L rfl (by rw [Int.toNat_natCast]; omega) (by decide) (fun _=>rfl) ?_
   intro l' hl'
   obtain rfl:=zbV hl' hl
   conv=>whnf
   refine zaa (congrArg (Value.int .i64) ?_)
   show (l'.xs.length : Int)=zdC s 0 col
   rw [vL]; omega
  ·conv=>whnf
   refine zai hdL ?_
   conv=>whnf
   refine ⟨⟨by omega,by omega,hAL⟩,?_⟩
   conv=>whnf
   refine zao.elem (A:=s.L.A) (xs:=s.L.xs) (j:=(col : Int)) Ln.C Ln.C_len Sl.F_L rfl (by rw [Int.toNat_natCast]; omega) (by decide) (fun _=>rfl) ?_
   intro l' hl'
   obtain rfl:=zbV hl' hl
   conv=>whnf
   refine zaa (congrArg (Value.int .i64) ?_)
   show IntKind.i64.wrap ((l'.xs.length : Int)-1)=zdC s 1 col
   rw [vL,wrap_i64 (by omega) (by omega)]; omega
  ·conv=>whnf
   refine zaa (congrArg (Value.int .i64) ?_)
   show (0 : Int)=zbv s 2 col
   rw [vS]
  ·conv=>whnf
   refine zaa (congrArg (Value.int .i64) ?_)
   show (0 : Int)=zbv s 1 col
   rw [vS]
end Go.Sx
end
section
set_option maxRecDepth 10000
set_option maxHeartbeats 2000000
namespace Go.Sx
open Go Go.Proofs
theorem zAM (s : Sl) (hL : s.L.xs.length=s.X.xs.length) (hS : s.S.xs.length+1=s.X.xs.length) (hn : s.X.xs.length≤100000) (hl1 : ∀ l∈s.L.xs,l.xs.length≤1000000) (hs1 : ∀ l∈s.S.xs,l.xs.length≤1000000) (hlen : (zdA s 0 s.X.xs.length).length≤1000000000) :
  FnM PP zcr [s.V] (facts s.F) (zdn zaZ 3 (zdA s 0 s.X.xs.length).length (rowV Cel.C (zdA s 0 s.X.xs.length))):=by
 refine FnO.of zab mixed zeh rfl rfl (Nat.le_of_ble_eq_true rfl) s.F_ok ?_
 intro w hw
 obtain ⟨n,hn'⟩ : ∃ n,n=s.X.xs.length:=⟨_,rfl⟩
 rw [←hn'] at hn hlen ⊢
 conv=>whnf
 refine zak (ι:=Nat×List Cel) (fun ⟨i,L⟩=>⟨[(1,.o (.p 1 0)),(3,.o (.w 7)),(4,.o (.v (.int .i64 i)))],[(1,.box (s.C.map AV.v) zaD),(7,.own zaZ 3 L.length (rowV Cel.C L))],s.F⟩)
  (fun ⟨i,L⟩=>i≤n∧L++zdA s i (n-i)=zdA s 0 n) (fun ⟨i,L⟩=>n-i) (0,[]) ⟨Nat.zero_le _,rfl⟩
  ((SLe.lit0 3 7 8 zaZ 3 rfl rfl rfl).trans (SLe.mk (fun k=>bif Nat.beq k 7 then 8 else k) ⟨rfl,rfl,rfl,trivial⟩ ⟨⟨_,rfl,.refl _⟩,⟨_,rfl,.refl _⟩,trivial⟩ rfl (fun R hR=>hR))) ?_
 rintro ⟨i,L⟩ ⟨hi,hL'⟩
 conv=>whnf
 by_cases hin : i<n
 rotate_left
 ·refine zae (decide_eq_false (show ¬(i : Int)<(s.X.xs.length : Int) by omega)) ?_
  rw [show n-i=0 by omega,zdA,List.append_nil] at hL'
  conv=>whnf
  rw [←hL']
  exact ⟨7,rfl,rfl⟩
 refine zai (decide_eq_true (show (i : Int)<(s.X.xs.length : Int) by omega)) ?_
 rw [show n-i=(n-(i+1))+1 by omega,zdA] at hL'
 conv=>whnf
 refine zak (ι:=Nat×List Cel) (fun ⟨j,M⟩=>⟨[(1,.o (.p 1 0)),(3,.o (.w 7)),(4,.o (.v (.int .i64 i))),(5,.o (.v (.int .i64 j)))],[(1,.box (s.C.map AV.v) zaD),(7,.own zaZ 3 M.length (rowV Cel.C M))],s.F⟩)
  (fun ⟨j,M⟩=>j≤4∧M++(colF s i (4-j)++zdA s (i+1) (n-(i+1)))=zdA s 0 n) (fun ⟨j,M⟩=>4-j) (0,L) ⟨Nat.zero_le _,hL'⟩
  (SLe.id ⟨rfl,rfl,rfl,rfl,trivial⟩ ⟨⟨_,rfl,.refl _⟩,⟨_,rfl,.refl _⟩,trivial⟩ (fun R hR=>hR)) ?_
 rintro ⟨j,M⟩ ⟨hj,hM⟩
 conv=>whnf
 by_cases hj4 : j=4
 ·subst hj4
  rw [show 4-4=0 from rfl,colF,List.nil_append] at hM
  conv=>whnf
  exact ⟨(i+1,M),⟨by omega,hM⟩,by show n-(i+1)<n-i; omega,SLe.id ⟨rfl,rfl,zan hin (by omega),trivial⟩ ⟨⟨_,rfl,.refl _⟩,⟨_,rfl,.refl _⟩,trivial⟩ (fun R hR=>hR)⟩
 refine zai (decide_eq_true (show (j : Int)≤3 by omega)) ?_
 rw [show 4-j=(3-j)+1 by omega,colF,show 3-(3-j)=j by omega] at hM
 have hrow:=zBO s j i (by omega) (by omega) hL hS (by omega) hl1 hs1
 conv=>whnf
 refine zak (ι:=Nat×List Cel) (fun ⟨r,N⟩=>⟨[(1,.o (.p 1 0)),(3,.o (.w 7)),(4,.o (.v (.int .i64 i))),(5,.o (.v (.int .i64 j))),(6,.o (.v (.int .i64 r)))],[(1,.box (s.C.map AV.v) zaD),(7,.own zaZ 3 N.length (rowV Cel.C N))],s.F⟩)
  (fun ⟨r,N⟩=>r≤N.length∧N++((zeU s j i).drop r++(colF s i (3-j)++zdA s (i+1) (n-(i+1))))=zdA s 0 n) (fun ⟨r,N⟩=>(cntK s j i).toNat-r) (0,M) ⟨Nat.zero_le _,by rw [List.drop_zero,←hM,List.append_assoc]⟩
  (SLe.id ⟨rfl,rfl,rfl,rfl,rfl,trivial⟩ ⟨⟨_,rfl,.refl _⟩,⟨_,rfl,.refl _⟩,trivial⟩ (fun R hR=>hR)) ?_
 rintro ⟨r,N⟩ ⟨hrN,hN⟩
 conv=>whnf
 refine cfs hrow ?_
 conv=>whnf
 by_cases hr : (r : Int)<cntK s j i
 rotate_left
 ·refine zae (decide_eq_false hr) ?_
  rw [zhn hr,List.nil_append] at hN
  conv=>whnf
  exact ⟨(j+1,N),⟨by omega,by rw [show 4-(j+1)=3-j by omega]; exact hN⟩,by show 4-(j+1)<4-j; omega,SLe.id ⟨rfl,rfl,rfl,zan (show j<4 by omega) (by omega),trivial⟩ ⟨⟨_,rfl,.refl _⟩,⟨_,rfl,.refl _⟩,trivial⟩ (fun R hR=>hR)⟩
 refine zai (decide_eq_true hr) ?_
 rw [zfC hr] at hN
 have hNl : N.length+1≤1000000000:=by
  have:=congrArg List.length hN
  simp only [List.length_append,List.length_cons] at this
  omega
 conv=>whnf
 refine ⟨by show N.length+1≤9223372036854775807∧(N.length+1)*24≤140737488355328; omega,?_⟩
 conv=>whnf
 refine ⟨(r+1,N++[Cel.mk j i r]),⟨by rw [List.length_append]; show r+1≤N.length+1; omega,by rw [List.append_assoc]; exact hN⟩,by show (cntK s j i).toNat-(r+1)<(cntK s j i).toNat-r; omega,SLe.mk (fun k=>bif Nat.beq k 7 then 33 else k) ⟨rfl,rfl,rfl,rfl,zan (show r<N.length+1 by omega) (by omega),trivial⟩ ⟨⟨_,rfl,.refl _⟩,⟨_,rfl,?_⟩,trivial⟩ rfl (fun R hR=>hR)⟩
 show MEle (ME.own zaZ 3 (N.length+1) (app (rowV Cel.C N) (Cel.C (Cel.mk j i r)))) (ME.own zaZ 3 (N++[Cel.mk j i r]).length (rowV Cel.C (N++[Cel.mk j i r])))
 rw [za1,zaC,List.length_append,show rowV Cel.C [Cel.mk j i r]=Cel.C (Cel.mk j i r) from by simp [rowV]]; exact .refl _
end Go.Sx
end
section
namespace Go.Sx
def zy3 : OT:=.q 0 (.q 1 (.q 2 (.q 3 (.q 4 (.q 5 (.q 6 (.fork (.alt 7 (.walk [8,9,10,11,12,13,14,15]) (.alt 8 (.fork (.alt 7 (.walk [9,10,11,12,13,14,15]) (.alt 9 (.fork (.alt 7 (.walk [10,11,12,13,14,15]) (.alt 10 (.fork (.alt 7 (.walk [11,12,13,14,15]) (.alt 11 (.fork (.alt 7 (.walk [12,13,14,15]) (.alt 12 (.fork (.alt 7 (.walk [13,14,15]) (.alt 13 (.walk [7,14,15]) .nil))) .nil))) .nil))) .nil))) .nil))) (.alt 9 (.fork (.alt 7 (.walk [8,10,11,12,13,14,15]) (.alt 8 (.fork (.alt 7 (.walk [10,11,12,13,14,15]) (.alt 10 (.fork (.alt 7 (.walk [11,12,13,14,15]) (.alt 11 (.fork (.alt 7 (.walk [12,13,14,15]) (.alt 12 (.fork (.alt 7 (.walk [13,14,15]) (.alt 13 (.walk [7,14,15]) .nil))) .nil))) .nil))) .nil))) .nil))) .nil))))))))))
def zy5 : OT:=.q 0 (.q 1 (.q 2 (.q 3 (.fork (.alt 4 (.walk [5,6,7,8,9]) (.alt 5 (.fork (.alt 4 (.walk [6,7,8,9]) (.alt 6 (.fork (.alt 4 (.walk [7,8,9]) (.alt 7 (.walk [4,8,9]) .nil))) .nil))) .nil))))))
def zzF : OT:=.q 0 (.q 1 (.q 2 (.q 3 (.q 4 (.q 5 (.q 6 (.fork (.alt 7 (.walk [8,9,10,11,12,13,14,15]) (.alt 8 (.fork (.alt 7 (.walk [9,10,11,12,13,14,15]) (.alt 9 (.fork (.alt 7 (.walk [10,11,12,13,14,15]) (.alt 10 (.fork (.alt 7 (.walk [11,12,13,14,15]) (.alt 11 (.fork (.alt 7 (.walk [12,13,14,15]) (.alt 12 (.fork (.alt 7 (.walk [13,14,15]) (.alt 13 (.walk [7,14,15]) .nil))) .nil))) .nil))) .nil))) .nil))) (.alt 9 (.fork (.alt 7 (.walk [8,10,11,12,13,14,15]) (.alt 8 (.fork (.alt 7 (.walk [10,11,12,13,14,15]) (.alt 10 (.fork (.alt 7 (.walk [11,12,13,14,15]) (.alt 11 (.fork (.alt 7 (.walk [12,13,14,15]) (.alt 12 (.fork (.alt 7 (.walk [13,14,15]) (.alt 13 (.walk [7,14,15]) .nil))) .nil))) .nil))) .nil))) .nil))) .nil))))))))))
def zu9 : OT:=.q 0 (.q 1 (.q 2 (.q 3 (.fork (.alt 4 (.q 5 (.q 6 (.fork (.alt 7 (.walk [8,9,10,11,12]) (.alt 8 (.fork (.alt 7 (.walk [9,10,11,12]) (.alt 9 (.fork (.alt 7 (.walk [10,11,12]) (.alt 10 (.walk [7,11,12]) .nil))) .nil))) (.alt 9 (.fork (.alt 7 (.walk [8,10,11,12]) (.alt 8 (.fork (.alt 7 (.walk [10,11,12]) (.alt 10 (.walk [7,11,12]) .nil))) .nil))) .nil)))))) (.alt 5 (.fork (.alt 4 (.q 6 (.fork (.alt 7 (.walk [8,9,10,11,12]) (.alt 8 (.fork (.alt 7 (.walk [9,10,11,12]) (.alt 9 (.fork (.alt 7 (.walk [10,11,12]) (.alt 10 (.walk [7,11,12]) .nil))) .nil))) (.alt 9 (.fork (.alt 7 (.walk [8,10,11,12]) (.alt 8 (.fork (.alt 7 (.walk [10,11,12]) (.alt 10 (.walk [7,11,12]) .nil))) .nil))) .nil))))) (.alt 6 (.fork (.alt 4 (.fork (.alt 7 (.walk [8,9,10,11,12]) (.alt 8 (.fork (.alt 7 (.walk [9,10,11,12]) (.alt 9 (.fork (.alt 7 (.walk [10,11,12]) (.alt 10 (.walk [7,11,12]) .nil))) .nil))) (.alt 9 (.fork (.alt 7 (.walk [8,10,11,12]) (.alt 8 (.fork (.alt 7 (.walk [10,11,12]) (.alt 10 (.walk [7,11,12]) .nil))) .nil))) .nil)))) (.alt 8 (.fork (.alt 4 (.fork (.alt 7 (.walk [9,10,11,12]) (.alt 9 (.fork (.alt 7 (.walk [10,11,12]) (.alt 10 (.walk [7,11,12]) .nil))) .nil))) (.alt 9 (.fork (.alt 4 (.fork (.alt 7 (.walk [10,11,12]) (.alt 10 (.walk [7,11,12]) .nil))) (.alt 10 (.walk [4,7,11,12]) .nil))) .nil))) (.alt 9 (.fork (.alt 4 (.fork (.alt 7 (.walk [8,10,11,12]) (.alt 8 (.fork (.alt 7 (.walk [10,11,12]) (.alt 10 (.walk [7,11,12]) .nil))) .nil))) (.alt 8 (.fork (.alt 4 (.fork (.alt 7 (.walk [10,11,12]) (.alt 10 (.walk [7,11,12]) .nil))) (.alt 10 (.walk [4,7,11,12]) .nil))) .nil))) .nil)))) (.alt 8 (.fork (.alt 4 (.q 6 (.fork (.alt 7 (.walk [9,10,11,12]) (.alt 9 (.fork (.alt 7 (.walk [10,11,12]) (.alt 10 (.walk [7,11,12]) .nil))) .nil)))) (.alt 6 (.fork (.alt 4 (.fork (.alt 7 (.walk [9,10,11,12]) (.alt 9 (.fork (.alt 7 (.walk [10,11,12]) (.alt 10 (.walk [7,11,12]) .nil))) .nil))) (.alt 9 (.fork (.alt 4 (.fork (.alt 7 (.walk [10,11,12]) (.alt 10 (.walk [7,11,12]) .nil))) (.alt 10 (.walk [4,7,11,12]) .nil))) .nil))) (.alt 9 (.fork (.alt 4 (.q 6 (.fork (.alt 7 (.walk [10,11,12]) (.alt 10 (.walk [7,11,12]) .nil)))) (.alt 6 (.fork (.alt 4 (.fork (.alt 7 (.walk [10,11,12]) (.alt 10 (.walk [7,11,12]) .nil))) (.alt 10 (.walk [4,7,11,12]) .nil))) (.alt 10 (.fork (.alt 4 (.walk [6,7,11,12]) (.alt 6 (.walk [4,7,11,12]) .nil))) .nil)))) .nil)))) (.alt 9 (.fork (.alt 4 (.q 6 (.fork (.alt 7 (.walk [8,10,11,12]) (.alt 8 (.fork (.alt 7 (.walk [10,11,12]) (.alt 10 (.walk [7,11,12]) .nil))) .nil)))) (.alt 6 (.fork (.alt 4 (.fork (.alt 7 (.walk [8,10,11,12]) (.alt 8 (.fork (.alt 7 (.walk [10,11,12]) (.alt 10 (.walk [7,11,12]) .nil))) .nil))) (.alt 8 (.fork (.alt 4 (.fork (.alt 7 (.walk [10,11,12]) (.alt 10 (.walk [7,11,12]) .nil))) (.alt 10 (.walk [4,7,11,12]) .nil))) .nil))) (.alt 8 (.fork (.alt 4 (.q 6 (.fork (.alt 7 (.walk [10,11,12]) (.alt 10 (.walk [7,11,12]) .nil)))) (.alt 6 (.fork (.alt 4 (.fork (.alt 7 (.walk [10,11,12]) (.alt 10 (.walk [7,11,12]) .nil))) (.alt 10 (.walk [4,7,11,12]) .nil))) (.alt 10 (.fork (.alt 4 (.walk [6,7,11,12]) (.alt 6 (.walk [4,7,11,12]) .nil))) .nil)))) .nil)))) .nil))))) (.alt 8 (.fork (.alt 4 (.q 5 (.q 6 (.fork (.alt 7 (.walk [9,10,11,12]) (.alt 9 (.fork (.alt 7 (.walk [10,11,12]) (.alt 10 (.walk [7,11,12]) .nil))) .nil))))) (.alt 5 (.fork (.alt 4 (.q 6 (.fork (.alt 7 (.walk [9,10,11,12]) (.alt 9 (.fork (.alt 7 (.walk [10,11,12]) (.alt 10 (.walk [7,11,12]) .nil))) .nil)))) (.alt 6 (.fork (.alt 4 (.fork (.alt 7 (.walk [9,10,11,12]) (.alt 9 (.fork (.alt 7 (.walk [10,11,12]) (.alt 10 (.walk [7,11,12]) .nil))) .nil))) (.alt 9 (.fork (.alt 4 (.fork (.alt 7 (.walk [10,11,12]) (.alt 10 (.walk [7,11,12]) .nil))) (.alt 10 (.walk [4,7,11,12]) .nil))) .nil))) (.alt 9 (.fork (.alt 4 (.q 6 (.fork (.alt 7 (.walk [10,11,12]) (.alt 10 (.walk [7,11,12]) .nil)))) (.alt 6 (.fork (.alt 4 (.fork (.alt 7 (.walk [10,11,12]) (.alt 10 (.walk [7,11,12]) .nil))) (.alt 10 (.walk [4,7,11,12]) .nil))) (.alt 10 (.fork (.alt 4 (.walk [6,7,11,12]) (.alt 6 (.walk [4,7,11,12]) .nil))) .nil)))) .nil)))) (.alt 9 (.fork (.alt 4 (.q 5 (.q 6 (.fork (.alt 7 (.walk [10,11,12]) (.alt 10 (.walk [7,11,12]) .nil))))) (.alt 5 (.fork (.alt 4 (.q 6 (.fork (.alt 7 (.walk [10,11,12]) (.alt 10 (.walk [7,11,12]) .nil)))) (.alt 6 (.fork (.alt 4 (.fork (.alt 7 (.walk [10,11,12]) (.alt 10 (.walk [7,11,12]) .nil))) (.alt 10 (.walk [4,7,11,12]) .nil))) (.alt 10 (.fork (.alt 4 (.walk [6,7,11,12]) (.alt 6 (.walk [4,7,11,12]) .nil))) .nil)))) (.alt 10 (.fork (.alt 4 (.walk [5,6,7,11,12]) (.alt 5 (.fork (.alt 4 (.walk [6,7,11,12]) (.alt 6 (.walk [4,7,11,12]) .nil))) .nil))) .nil)))) .nil)))) (.alt 9 (.fork (.alt 4 (.q 5 (.q 6 (.fork (.alt 7 (.walk [8,10,11,12]) (.alt 8 (.fork (.alt 7 (.walk [10,11,12]) (.alt 10 (.walk [7,11,12]) .nil))) .nil))))) (.alt 5 (.fork (.alt 4 (.q 6 (.fork (.alt 7 (.walk [8,10,11,12]) (.alt 8 (.fork (.alt 7 (.walk [10,11,12]) (.alt 10 (.walk [7,11,12]) .nil))) .nil)))) (.alt 6 (.fork (.alt 4 (.fork (.alt 7 (.walk [8,10,11,12]) (.alt 8 (.fork (.alt 7 (.walk [10,11,12]) (.alt 10 (.walk [7,11,12]) .nil))) .nil))) (.alt 8 (.fork (.alt 4 (.fork (.alt 7 (.walk [10,11,12]) (.alt 10 (.walk [7,11,12]) .nil))) (.alt 10 (.walk [4,7,11,12]) .nil))) .nil))) (.alt 8 (.fork (.alt 4 (.q 6 (.fork (.alt 7 (.walk [10,11,12]) (.alt 10 (.walk [7,11,12]) .nil)))) (.alt 6 (.fork (.alt 4 (.fork (.alt 7 (.walk [10,11,12]) (.alt 10 (.walk [7,11,12]) .nil))) (.alt 10 (.walk [4,7,11,12]) .nil))) (.alt 10 (.fork (.alt 4 (.walk [6,7,11,12]) (.alt 6 (.walk [4,7,11,12]) .nil))) .nil)))) .nil)))) (.alt 8 (.fork (.alt 4 (.q 5 (.q 6 (.fork (.alt 7 (.walk [10,11,12]) (.alt 10 (.walk [7,11,12]) .nil))))) (.alt 5 (.fork (.alt 4 (.q 6 (.fork (.alt 7 (.walk [10,11,12]) (.alt 10 (.walk [7,11,12]) .nil)))) (.alt 6 (.fork (.alt 4 (.fork (.alt 7 (.walk [10,11,12]) (.alt 10 (.walk [7,11,12]) .nil))) (.alt 10 (.walk [4,7,11,12]) .nil))) (.alt 10 (.fork (.alt 4 (.walk [6,7,11,12]) (.alt 6 (.walk [4,7,11,12]) .nil))) .nil)))) (.alt 10 (.fork (.alt 4 (.walk [5,6,7,11,12]) (.alt 5 (.fork (.alt 4 (.walk [6,7,11,12]) (.alt 6 (.walk [4,7,11,12]) .nil))) .nil))) .nil)))) .nil)))) .nil))))))))
def zvo : OT:=.q 0 (.q 1 (.q 2 (.q 3 (.fork (.alt 4 (.q 5 (.q 6 (.fork (.alt 7 (.walk [8,9,10,11,12]) (.alt 8 (.fork (.alt 7 (.walk [9,10,11,12]) (.alt 9 (.fork (.alt 7 (.walk [10,11,12]) (.alt 10 (.walk [7,11,12]) .nil))) .nil))) (.alt 9 (.fork (.alt 7 (.walk [8,10,11,12]) (.alt 8 (.fork (.alt 7 (.walk [10,11,12]) (.alt 10 (.walk [7,11,12]) .nil))) .nil))) .nil)))))) (.alt 5 (.fork (.alt 4 (.q 6 (.fork (.alt 7 (.walk [8,9,10,11,12]) (.alt 8 (.fork (.alt 7 (.walk [9,10,11,12]) (.alt 9 (.fork (.alt 7 (.walk [10,11,12]) (.alt 10 (.walk [7,11,12]) .nil))) .nil))) (.alt 9 (.fork (.alt 7 (.walk [8,10,11,12]) (.alt 8 (.fork (.alt 7 (.walk [10,11,12]) (.alt 10 (.walk [7,11,12]) .nil))) .nil))) .nil))))) (.alt 6 (.fork (.alt 4 (.fork (.alt 7 (.walk [8,9,10,11,12]) (.alt 8 (.fork (.alt 7 (.walk [9,10,11,12]) (.alt 9 (.fork (.alt 7 (.walk [10,11,12]) (.alt 10 (.walk [7,11,12]) .nil))) .nil))) (.alt 9 (.fork (.alt 7 (.walk [8,10,11,12]) (.alt 8 (.fork (.alt 7 (.walk [10,11,12]) (.alt 10 (.walk [7,11,12]) .nil))) .nil))) .nil)))) (.alt 8 (.fork (.alt 4 (.fork (.alt 7 (.walk [9,10,11,12]) (.alt 9 (.fork (.alt 7 (.walk [10,11,12]) (.alt 10 (.walk [7,11,12]) .nil))) .nil))) (.alt 9 (.fork (.alt 4 (.fork (.alt 7 (.walk [10,11,12]) (.alt 10 (.walk [7,11,12]) .nil))) (.alt 10 (.walk [4,7,11,12]) .nil))) .nil))) (.alt 9 (.fork (.alt 4 (.fork (.alt 7 (.walk [8,10,11,12]) (.alt 8 (.fork (.alt 7 (.walk [10,11,12]) (.alt 10 (.walk [7,11,12]) .nil))) .nil))) (.alt 8 (.fork (.alt 4 (.fork (.alt 7 (.walk [10,11,12]) (.alt 10 (.walk [7,11,12]) .nil))) (.alt 10 (.walk [4,7,11,12]) .nil))) .nil))) .nil)))) (.alt 8 (.fork (.alt 4 (.q 6 (.fork (.alt 7 (.walk [9,10,11,12]) (.alt 9 (.fork (.alt 7 (.walk [10,11,12]) (.alt 10 (.walk [7,11,12]) .nil))) .nil)))) (.alt 6 (.fork (.alt 4 (.fork (.alt 7 (.walk [9,10,11,12]) (.alt 9 (.fork (.alt 7 (.walk [10,11,12]) (.alt 10 (.walk [7,11,12]) .nil))) .nil))) (.alt 9 (.fork (.alt 4 (.fork (.alt 7 (.walk [10,11,12]) (.alt 10 (.walk [7,11,12]) .nil))) (.alt 10 (.walk [4,7,11,12]) .nil))) .nil))) (.alt 9 (.fork (.alt 4 (.q 6 (.fork (.alt 7 (.walk [10,11,12]) (.alt 10 (.walk [7,11,12]) .nil)))) (.alt 6 (.fork (.alt 4 (.fork (.alt 7 (.walk [10,11,12]) (.alt 10 (.walk [7,11,12]) .nil))) (.alt 10 (.walk [4,7,11,12]) .nil))) (.alt 10 (.fork (.alt 4 (.walk [6,7,11,12]) (.alt 6 (.walk [4,7,11,12]) .nil))) .nil)))) .nil)))) (.alt 9 (.fork (.alt 4 (.q 6 (.fork (.alt 7 (.walk [8,10,11,12]) (.alt 8 (.fork (.alt 7 (.walk [10,11,12]) (.alt 10 (.walk [7,11,12]) .nil))) .nil)))) (.alt 6 (.fork (.alt 4 (.fork (.alt 7 (.walk [8,10,11,12]) (.alt 8 (.fork (.alt 7 (.walk [10,11,12]) (.alt 10 (.walk [7,11,12]) .nil))) .nil))) (.alt 8 (.fork (.alt 4 (.fork (.alt 7 (.walk [10,11,12]) (.alt 10 (.walk [7,11,12]) .nil))) (.alt 10 (.walk [4,7,11,12]) .nil))) .nil))) (.alt 8 (.fork (.alt 4 (.q 6 (.fork (.alt 7 (.walk [10,11,12]) (.alt 10 (.walk [7,11,12]) .nil)))) (.alt 6 (.fork (.alt 4 (.fork (.alt 7 (.walk [10,11,12]) (.alt 10 (.walk [7,11,12]) .nil))) (.alt 10 (.walk [4,7,11,12]) .nil))) (.alt 10 (.fork (.alt 4 (.walk [6,7,11,12]) (.alt 6 (.walk [4,7,11,12]) .nil))) .nil)))) .nil)))) .nil))))) (.alt 8 (.fork (.alt 4 (.q 5 (.q 6 (.fork (.alt 7 (.walk [9,10,11,12]) (.alt 9 (.fork (.alt 7 (.walk [10,11,12]) (.alt 10 (.walk [7,11,12]) .nil))) .nil))))) (.alt 5 (.fork (.alt 4 (.q 6 (.fork (.alt 7 (.walk [9,10,11,12]) (.alt 9 (.fork (.alt 7 (.walk [10,11,12]) (.alt 10 (.walk [7,11,12]) .nil))) .nil)))) (.alt 6 (.fork (.alt 4 (.fork (.alt 7 (.walk [9,10,11,12]) (.alt 9 (.fork (.alt 7 (.walk [10,11,12]) (.alt 10 (.walk [7,11,12]) .nil))) .nil))) (.alt 9 (.fork (.alt 4 (.fork (.alt 7 (.walk [10,11,12]) (.alt 10 (.walk [7,11,12]) .nil))) (.alt 10 (.walk [4,7,11,12]) .nil))) .nil))) (.alt 9 (.fork (.alt 4 (.q 6 (.fork (.alt 7 (.walk [10,11,12]) (.alt 10 (.walk [7,11,12]) .nil)))) (.alt 6 (.fork (.alt 4 (.fork (.alt 7 (.walk [10,11,12]) (.alt 10 (.walk [7,11,12]) .nil))) (.alt 10 (.walk [4,7,11,12]) .nil))) (.alt 10 (.fork (.alt 4 (.walk [6,7,11,12]) (.alt 6 (.walk [4,7,11,12]) .nil))) .nil)))) .nil)))) (.alt 9 (.fork (.alt 4 (.q 5 (.q 6 (.fork (.alt 7 (.walk [10,11,12]) (.alt 10 (.walk [7,11,12]) .nil))))) (.alt 5 (.fork (.alt 4 (.q 6 (.fork (.alt 7 (.walk [10,11,12]) (.alt 10 (.walk [7,11,12]) .nil)))) (.alt 6 (.fork (.alt 4 (.fork (.alt 7 (.walk [10,11,12]) (.alt 10 (.walk [7,11,12]) .nil))) (.alt 10 (.walk [4,7,11,12]) .nil))) (.alt 10 (.fork (.alt 4 (.walk [6,7,11,12]) (.alt 6 (.walk [4,7,11,12]) .nil))) .nil)))) (.alt 10 (.fork (.alt 4 (.walk [5,6,7,11,12]) (.alt 5 (.fork (.alt 4 (.walk [6,7,11,12]) (.alt 6 (.walk [4,7,11,12]) .nil))) .nil))) .nil)))) .nil)))) (.alt 9 (.fork (.alt 4 (.q 5 (.q 6 (.fork (.alt 7 (.walk [8,10,11,12]) (.alt 8 (.fork (.alt 7 (.walk [10,11,12]) (.alt 10 (.walk [7,11,12]) .nil))) .nil))))) (.alt 5 (.fork (.alt 4 (.q 6 (.fork (.alt 7 (.walk [8,10,11,12]) (.alt 8 (.fork (.alt 7 (.walk [10,11,12]) (.alt 10 (.walk [7,11,12]) .nil))) .nil)))) (.alt 6 (.fork (.alt 4 (.fork (.alt 7 (.walk [8,10,11,12]) (.alt 8 (.fork (.alt 7 (.walk [10,11,12]) (.alt 10 (.walk [7,11,12]) .nil))) .nil))) (.alt 8 (.fork (.alt 4 (.fork (.alt 7 (.walk [10,11,12]) (.alt 10 (.walk [7,11,12]) .nil))) (.alt 10 (.walk [4,7,11,12]) .nil))) .nil))) (.alt 8 (.fork (.alt 4 (.q 6 (.fork (.alt 7 (.walk [10,11,12]) (.alt 10 (.walk [7,11,12]) .nil)))) (.alt 6 (.fork (.alt 4 (.fork (.alt 7 (.walk [10,11,12]) (.alt 10 (.walk [7,11,12]) .nil))) (.alt 10 (.walk [4,7,11,12]) .nil))) (.alt 10 (.fork (.alt 4 (.walk [6,7,11,12]) (.alt 6 (.walk [4,7,11,12]) .nil))) .nil)))) .nil)))) (.alt 8 (.fork (.alt 4 (.q 5 (.q 6 (.fork (.alt 7 (.walk [10,11,12]) (.alt 10 (.walk [7,11,12]) .nil))))) (.alt 5 (.fork (.alt 4 (.q 6 (.fork (.alt 7 (.walk [10,11,12]) (.alt 10 (.walk [7,11,12]) .nil)))) (.alt 6 (.fork (.alt 4 (.fork (.alt 7 (.walk [10,11,12]) (.alt 10 (.walk [7,11,12]) .nil))) (.alt 10 (.walk [4,7,11,12]) .nil))) (.alt 10 (.fork (.alt 4 (.walk [6,7,11,12]) (.alt 6 (.walk [4,7,11,12]) .nil))) .nil)))) (.alt 10 (.fork (.alt 4 (.walk [5,6,7,11,12]) (.alt 5 (.fork (.alt 4 (.walk [6,7,11,12]) (.alt 6 (.walk [4,7,11,12]) .nil))) .nil))) .nil)))) .nil)))) .nil))))))))
end Go.Sx
end
section
set_option maxRecDepth 10000
set_option maxHeartbeats 2000000
namespace Go.Sx
open Go Go.Proofs
theorem zAH (A B : Option Addr) (c d : Nat) (xs ys : List Nat) (hx : xs.length≤1000000) :
  FnM PP zcH [.slice A xs.length c,.slice B ys.length d] (facts [zaf A (rowV intC xs),zaf B (rowV intC ys)]) (zbu (.bool (decide (xs=ys)))):=by
 refine FnS.of zab mixed zft rfl rfl (Nat.le_of_ble_eq_true rfl) (fun R hR=>by simp only [List.mem_cons,List.not_mem_nil,or_false] at hR; rcases hR with rfl | rfl <;> exact zaf.ok _ _) ?_
 intro w hw
 have hA : 0<xs.length→A.isSome=true:=fun h=>zap (zbN hw).1 (by rw [zag zib]; omega)
 have hB : 0<ys.length→B.isSome=true:=fun h=>zap (zbN hw).2 (by rw [zag zib]; omega)
 conv=>whnf
 by_cases hl : xs.length=ys.length
 rotate_left
 ·refine zai (show (!((xs.length : Int)==(ys.length : Int)))=true by rw [Bool.not_eq_true',beq_eq_false_iff_ne]; omega) ?_
  conv=>whnf
  refine zaa (congrArg Value.bool ?_)
  rw [decide_eq_false (fun h=>hl (by rw [h]))]
 refine zae (show (!((xs.length : Int)==(ys.length : Int)))=false by rw [Bool.not_eq_false',beq_iff_eq]; omega) ?_
 conv=>whnf
 refine zak (ι:=Nat) (fun i=>⟨[(0,.o (.v (.slice A xs.length c))),(1,.o (.v (.slice B ys.length d))),(12,.o (.v (.int .i64 xs.length))),(13,.o (.v (.int .i64 i)))],[],[zaf A (rowV intC xs),zaf B (rowV intC ys)]⟩)
  (fun i=>i≤xs.length∧xs.take i=ys.take i) (fun i=>xs.length-i) 0 ⟨Nat.zero_le _,rfl⟩
  (SLe.id ⟨rfl,rfl,rfl,rfl,trivial⟩ trivial (fun R hR=>hR)) ?_
 rintro i ⟨hi0,hi1⟩
 conv=>whnf
 by_cases hi : i<xs.length
 rotate_left
 ·refine zae (decide_eq_false (show ¬(i : Int)<(xs.length : Int) by omega)) ?_
  rw [List.take_of_length_le (by omega),List.take_of_length_le (by omega)] at hi1
  conv=>whnf
  exact zaa (congrArg Value.bool (decide_eq_true hi1).symm)
 refine zai (decide_eq_true (show (i : Int)<(xs.length : Int) by omega)) ?_
 obtain ⟨x,hx1⟩ : ∃ x,xs[i]?=some x:=⟨_,List.getElem?_eq_getElem hi⟩
 obtain ⟨y,hy1⟩ : ∃ y,ys[i]?=some y:=⟨_,List.getElem?_eq_getElem (by omega)⟩
 conv=>whnf
 refine zaj.quiet (by kernel_rfl) ?_
 conv=>whnf
 refine ⟨⟨by omega,by omega,hA (by omega)⟩,?_⟩
 conv=>whnf
 refine zao.elem (A:=A) (xs:=xs) (j:=(i : Int)) intC zib (List.mem_cons_self ..) rfl (by rw [Int.toNat_natCast]; omega) (by decide) (fun _=>rfl) ?_
 intro x' hx'
 obtain rfl : x'=x:=by rw [Int.toNat_natCast,hx1] at hx'; exact (Option.some.inj hx').symm
 conv=>whnf
 refine ⟨⟨by omega,by omega,hB (by omega)⟩,?_⟩
 conv=>whnf
 refine zao.elem (A:=B) (xs:=ys) (j:=(i : Int)) intC zib (List.mem_cons_of_mem _ (List.mem_cons_self ..)) rfl (by rw [Int.toNat_natCast]; omega) (by decide) (fun _=>rfl) ?_
 intro y' hy'
 obtain rfl : y'=y:=by rw [Int.toNat_natCast,hy1] at hy'; exact (Option.some.inj hy').symm
 conv=>whnf
 by_cases hxy : x'=y'
 rotate_left
 ·refine zai (show (!((x' : Int)==(y' : Int)))=true by rw [Bool.not_eq_true',beq_eq_false_iff_ne]; omega) ?_
  conv=>whnf
  refine zaa (congrArg Value.bool (decide_eq_false (fun h=>hxy ?_)).symm)
  rw [h] at hx1; rw [hx1] at hy1; exact Option.some.inj hy1
 refine zae (show (!((x' : Int)==(y' : Int)))=false by rw [Bool.not_eq_false',beq_iff_eq]; omega) ?_
 conv=>whnf
 exact ⟨i+1,⟨by omega,by rw [zaE hx1,zaE hy1,hi1,hxy]⟩,by show xs.length-(i+1)<xs.length-i; omega,SLe.id ⟨rfl,rfl,rfl,zan hi (by omega),trivial⟩ trivial (fun S hS=>hS)⟩
deriving instance DecidableEq for Pc
abbrev awE : List (V×V):=[(⟨1,1⟩,⟨3,3⟩)]
abbrev awP : List Pc:=[⟨⟨1,1⟩,⟨3,3⟩,0⟩]
theorem zAC : pcsL ⟨0,0⟩ ⟨4,4⟩ awE=awP:=by decide +kernel
theorem awX : xsL ⟨0,0⟩ ⟨4,4⟩ awP=[0,1,3,4]:=by decide +kernel
theorem awL : ([0,1,3,4] : List Rat).map (ysL ⟨0,0⟩ ⟨4,4⟩ awP)=[[0,4],[0,1,4],[0,3,4],[0,4]]:=by decide +kernel
theorem awS : zbI (zkL ⟨0,0⟩ ⟨4,4⟩ awP) [0,1,3,4]=[[],[0],[]]:=by decide +kernel
structure AwS (s : Sl) : Prop where
 lo : s.lo=⟨0,0⟩
 hi : s.hi=⟨4,4⟩
 sg : s.sg.xs=awE
 is : s.is
theorem AwS.xs {s : Sl} (h : AwS s) : s.X.xs=[0,1,3,4]∧s.L.xs.map (·.xs)=[[0,4],[0,1,4],[0,3,4],[0,4]]∧s.S.xs.map (·.xs)=[[],[0],[]]:=by
 obtain ⟨h1,h2,h3,h4,h5,h6⟩:=h
 rw [h1,h2,h3,zAC,awX] at h4
 rw [h1,h2,h3,zAC,h4,awL] at h5
 rw [h1,h2,h3,zAC,h4,awS] at h6
 exact ⟨h4,h5,h6⟩
theorem AwS.cnt {s : Sl} (h : AwS s) (k c : Nat) : cntK s k c=(match k with | 0=>[2,3,3,2].getD c 0 | 1=>[1,2,2,1].getD c 0 | 2=>[2,3,2].getD c 0 | _=>[1,2,1].getD c 0):=by
 obtain ⟨hX,hL,hS⟩:=h.xs
 have lX : s.X.xs.length=4:=by rw [hX]; rfl
 have lL : s.L.xs.length=4:=by have:=congrArg List.length hL; simpa using this
 have lS : s.S.xs.length=3:=by have:=congrArg List.length hS; simpa using this
 have mL : s.L.xs.map (fun x=>(x.xs.length : Int))=[2,3,3,2]:=by rw [show s.L.xs.map (fun x=>(x.xs.length : Int))=(s.L.xs.map (·.xs)).map (fun l=>(l.length : Int)) by rw [List.map_map]; rfl,hL]; rfl
 have mS : s.S.xs.map (fun x=>(x.xs.length : Int))=[0,1,0]:=by rw [show s.S.xs.map (fun x=>(x.xs.length : Int))=(s.S.xs.map (·.xs)).map (fun l=>(l.length : Int)) by rw [List.map_map]; rfl,hS]; rfl
 have line : ∀ d,zdC s d c=if c<4 then ([2,3,3,2] : List Int).getD c 0-d else 0:=fun d=>by
  unfold zdC; rw [lX,lL,mL]
  by_cases hc : c<4
  ·rw [if_pos ⟨hc,hc⟩,if_pos hc]
  ·rw [if_neg (fun h=>hc h.1),if_neg hc]
 have strip : ∀ d,zbv s d c=if c<3 then ([0,1,0] : List Int).getD c 0+d else 0:=fun d=>by
  unfold zbv; rw [lX,lL,lS,mS]
  by_cases hc : c<3
  ·rw [if_pos ⟨hc,by omega,by omega⟩,if_pos hc]
  ·rw [if_neg (fun h=>hc h.1),if_neg hc]
 have big : ∀ {l : List Int},l.length≤c→l.getD c 0=0:=fun h=>by rw [List.getD_eq_getElem?_getD,List.getElem?_eq_none h]; rfl
 match k with
 | 0=>show zdC s 0 c=_; rw [line]; match c with | 0=>rfl | 1=>rfl | 2=>rfl | 3=>rfl | c+4=>rw [if_neg (by omega)]; rfl
 | 1=>show zdC s 1 c=_; rw [line]; match c with | 0=>rfl | 1=>rfl | 2=>rfl | 3=>rfl | c+4=>rw [if_neg (by omega)]; rfl
 | 2=>show zbv s 2 c=_; rw [strip]; match c with | 0=>rfl | 1=>rfl | 2=>rfl | c+3=>rw [if_neg (by omega)]; rfl
 | k+3=>show zbv s 1 c=_; rw [strip]; match c with | 0=>rfl | 1=>rfl | 2=>rfl | c+3=>rw [if_neg (by omega)]; rfl
theorem AwS.small {s : Sl} (h : AwS s) : s.small:=by
 obtain ⟨hX,hL,hS⟩:=h.xs
 have lX : s.X.xs.length=4:=by rw [hX]; rfl
 have lL : s.L.xs.length=4:=by have:=congrArg List.length hL; simpa using this
 have lS : s.S.xs.length=3:=by have:=congrArg List.length hS; simpa using this
 refine ⟨by omega,by omega,by omega,fun l hl=>?_,fun l hl=>?_,by rw [h.sg]; decide⟩
 ·have : l.xs∈s.L.xs.map (·.xs):=List.mem_map.2 ⟨l,hl,rfl⟩
  rw [hL] at this
  revert this; generalize l.xs=t; intro this
  simp only [List.mem_cons,List.not_mem_nil,or_false] at this
  rcases this with rfl | rfl | rfl | rfl <;> decide
 ·have : l.xs∈s.S.xs.map (·.xs):=List.mem_map.2 ⟨l,hl,rfl⟩
  rw [hS] at this
  revert this; generalize l.xs=t; intro this
  simp only [List.mem_cons,List.not_mem_nil,or_false] at this
  rcases this with rfl | rfl | rfl <;> decide
theorem AwS.sz {s : Sl} (h : AwS s) : s.sz:=by
 refine ⟨fun e he=>?_,?_,?_⟩
 ·rw [h.sg,List.mem_singleton] at he
  subst he
  exact ⟨⟨⟨⟨by decide,by decide⟩,⟨by decide,by decide⟩⟩,⟨⟨by decide,by decide⟩,⟨by decide,by decide⟩⟩⟩,by decide⟩
 ·rw [h.lo]; exact ⟨⟨by decide,by decide⟩,⟨by decide,by decide⟩⟩
 ·rw [h.hi]; exact ⟨⟨by decide,by decide⟩,⟨by decide,by decide⟩⟩
def zjL : List Cel:=[⟨0,0,0⟩,⟨0,0,1⟩,⟨1,0,0⟩,⟨2,0,0⟩,⟨2,0,1⟩,⟨3,0,0⟩,⟨0,1,0⟩,⟨0,1,1⟩,⟨0,1,2⟩,⟨1,1,0⟩,⟨1,1,1⟩,⟨2,1,0⟩,⟨2,1,1⟩,⟨2,1,2⟩,⟨3,1,0⟩,⟨3,1,1⟩,
 ⟨0,2,0⟩,⟨0,2,1⟩,⟨0,2,2⟩,⟨1,2,0⟩,⟨1,2,1⟩,⟨2,2,0⟩,⟨2,2,1⟩,⟨3,2,0⟩,⟨0,3,0⟩,⟨0,3,1⟩,⟨1,3,0⟩]
theorem AwS.cells {s : Sl} (h : AwS s) : zgw s=zjL:=by
 have hk : ∀ k c,zeU s k c=(List.range (match k with | 0=>[2,3,3,2].getD c 0 | 1=>[1,2,2,1].getD c 0 | 2=>[2,3,2].getD c 0 | _=>([1,2,1].getD c 0 : Int)).toNat).map fun r=>⟨k,c,r⟩:=fun k c=>by rw [zeU,h.cnt]
 have hX : s.X.xs.length=4:=by rw [h.xs.1]; rfl
 rw [zgw,hX]
 simp only [zdA,colF,hk]
 decide +kernel
theorem AwS.cen {s : Sl} (h : AwS s) : cenP s ⟨3,1,1⟩=⟨2,3⟩:=by
 obtain ⟨hX,hL,hS⟩:=h.xs
 have lS : s.S.xs.length=3:=by have:=congrArg List.length hS; simpa using this
 obtain ⟨t,ht⟩ : ∃ t,s.S.xs[1]?=some t:=⟨_,List.getElem?_eq_getElem (by omega)⟩
 have htx : t.xs=[0]:=by
  have:=congrArg (fun l : List (List Nat)=>l[1]?) hS
  simp only [List.getElem?_map,ht,Option.map_some] at this
  exact Option.some.inj this
 have hon : ∀ r x,onP s t r x=⟨x,([0,(hgtE ⟨1,1⟩ ⟨3,3⟩ x).1,4] : List Rat).getD r 0⟩:=fun r x=>by
  rw [onP,zjx,htx,h.lo,h.hi]
  show (⟨x,([0,hgtS s x 0,4] : List Rat).getD r 0⟩ : V)=_
  rw [hgtS,h.sg]; rfl
 simp only [cenP]
 rw [hX,zb3 ht,hon,hon]
 decide +kernel

end Go.Sx
end
section
set_option maxRecDepth 10000
set_option maxHeartbeats 2000000
namespace Go.Sx
open Go Go.Proofs
theorem Sl.F_F' {s : Sl} {R : Res} (h : R∈s.F) : R∈s.F'∨R=s.sg.R sgq:=by
 rcases List.mem_append.1 h with h | h
 ·exact .inl (List.mem_append_left _ h)
 ·simp only [List.mem_cons,List.not_mem_nil,or_false] at h
  rcases h with rfl | rfl | rfl | rfl
  ·exact .inl (List.mem_append_right _ (by simp))
  ·exact .inl (List.mem_append_right _ (by simp))
  ·exact .inl (List.mem_append_right _ (by simp))
  ·exact .inr rfl
theorem zya {lo hi : V} {E : List (V×V)} {A : Option Addr} {c : Nat} (s : zqg lo hi E A c) : ∀ R∈s.1.F',R.ok:=fun R hR=>by
 rcases List.mem_append.1 hR with hR | hR
 ·rcases List.mem_append.1 hR with hR | hR
  ·obtain ⟨l,_,rfl⟩:=List.mem_map.1 hR; exact zaf.ok _ _
  ·obtain ⟨l,_,rfl⟩:=List.mem_map.1 hR; exact zaf.ok _ _
 ·simp only [List.mem_cons,List.not_mem_nil,or_false] at hR
  rcases hR with rfl | rfl | rfl <;> exact zaf.ok _ _
theorem pt_V {a b : Int} {x y : Rat} (hx : (a : Rat)=x) (hy : (b : Rat)=y) : pV (pt a b)=pV (PQ ⟨x,y⟩):=by rw [←hx,←hy]
abbrev zP : List Value:=[.bool false,.string ⟨#[]⟩,.string ⟨#[]⟩,.bool false,.string ⟨#[]⟩,.string ⟨#[]⟩]
theorem zAt : bxV ⟨PQ ⟨0,0⟩,PQ ⟨4,4⟩⟩=.agg ⟨zP++ptC (PQ ⟨4,4⟩)⟩:=by
 rw [show PQ (⟨0,0⟩ : V)=⟨Q 0,Q 0⟩ from rfl,zhg]; rfl
def cn (i k : Nat) : Nat:=(zjL.take i).countP (fun x=>x.k==k)
theorem zcu {i : Nat} {x : Cel} (h : zjL[i]?=some x) (k : Nat) : cn (i+1) k=cn i k+(if x.k=k then 1 else 0):=by
 rw [cn,zaE h,List.countP_append,cn]
 congr 1
 by_cases hk : x.k=k <;> simp [hk]
theorem zxY (i k : Nat) : cn i k≤27:=by
 refine Nat.le_trans (List.countP_le_length) ?_
 rw [List.length_take]; exact Nat.min_le_right _ _
theorem awK : ∀ x∈zjL,x.k<4:=by decide
theorem zog : Fn PP zei [] (.bool true):=by
 have h44:=c_pt 4 4 (by decide) (by decide)
 have h11:=c_pt 1 1 (by decide) (by decide)
 have h33:=c_pt 3 3 (by decide) (by decide)
 have h23:=c_pt 2 3 (by decide) (by decide)
 rw [pt_V (x:=4) (y:=4) (by decide) (by decide)] at h44
 rw [pt_V (x:=1) (y:=1) (by decide) (by decide)] at h11
 rw [pt_V (x:=3) (y:=3) (by decide) (by decide)] at h33
 rw [pt_V (x:=2) (y:=3) (by decide) (by decide)] at h23
 have h:=FnM.ofS (re:=[]) (R:=zbu (.bool true)) (post:=zwi (.bool true)) zab mixed ziB rfl rfl (Nat.le_of_ble_eq_true rfl) (by simp) (fun w l st E w' hp hm=>zh0 hp hm) (vs:=[]) ?_
 · exact ⟨h.enters,fun w _=>h.calls w (by simp [facts])⟩
 intro w _
 refine WPS.peel zab mixed ?_
 conv=>whnf
 refine WPS.peel zab mixed ?_
 conv=>whnf
 refine cf h44 ?_
 conv=>whnf
 refine WPS.seq ?_
 have hbuild : ∀ b : Nat,FnM PP ze7 [.agg ⟨zP++ptC (PQ ⟨4,4⟩)⟩,.slice (some ⟨b,0,none⟩) 1 1] (facts [zaf (some ⟨b,0,none⟩) (rowV sgq awE)]) (zhU (ι:=zqg ⟨0,0⟩ ⟨4,4⟩ awE (some ⟨b,0,none⟩) 1) (fun s=>.tuple #[s.1.V,.int .i64 0]) (fun s=>s.1.F')):=fun b=>by
   rw [←zAt]
   exact zsv ⟨0,0⟩ ⟨4,4⟩ (some ⟨b,0,none⟩) 1 awE ⟨⟨by decide,by decide⟩,⟨by decide,by decide⟩⟩ ⟨⟨by decide,by decide⟩,⟨by decide,by decide⟩⟩ (by decide) (by decide) (fun e he=>by
     rw [List.mem_singleton] at he
     subst he
     exact ⟨⟨⟨⟨by decide,by decide⟩,⟨by decide,by decide⟩⟩,⟨⟨by decide,by decide⟩,⟨by decide,by decide⟩⟩⟩,by decide⟩) (by decide)
 refine WPS.drawS zab mixed [(10,2,[8])] (10+4294967296*6) [0,1,2,3,4] 5 9 [6,7,8,9,10,11] [6,7,8,10,11] (K:=fun s=>∃ d : Sl,AwS d∧SLe ⟨w,[],zeg.ntmps⟩ s ⟨[(0,.o (.v (.bool false))),(2,.o (.p 2 0)),(3,.o (.v (.int .i64 0)))],[(2,slM d)],d.F⟩) (by kernel_rfl) ?_ ?_
 · conv=>whnf
   refine cd h11 ?_
   conv=>whnf
   refine cd h33 ?_
   conv=>whnf
   constructor
   · conv=>whnf
     refine zac.fzB 16 rfl (fun b=>?_)
     have hb:=hbuild b
     refine zac.e hb.enters (zaB.facts hb rfl (fun R hR=>by rw [List.mem_singleton.1 hR]; exact List.mem_cons_self ..)) (fun i=>zya i) (fun d _=>?_)
     obtain ⟨d,e1,e2,e3,e4,e5⟩:=d
     have e6 : Ln.R sgq d.sg=zaf (some ⟨b,0,none⟩) (rowV sgq awE):=by rw [e3]; rfl
     conv=>whnf
     refine ⟨d,⟨e1,e2,by rw [e3],e4⟩,SLe.id ⟨rfl,rfl,rfl,trivial⟩ ⟨⟨_,rfl,.refl _⟩,trivial⟩ (fun R hR=>?_)⟩
     rcases Sl.F_F' hR with h | h
     · exact List.mem_append_left _ h
     · rw [h,e6]; exact List.mem_append_right _ (List.mem_cons_self ..)
   · conv=>whnf
     refine zac.fzB 16 rfl (fun b=>?_)
     have hb:=hbuild b
     refine zac.e hb.enters (zaB.facts hb rfl (fun R hR=>by rw [List.mem_singleton.1 hR]; exact List.mem_cons_self ..)) (fun i=>zya i) (fun d _=>?_)
     obtain ⟨d,e1,e2,e3,e4,e5⟩:=d
     have e6 : Ln.R sgq d.sg=zaf (some ⟨b,0,none⟩) (rowV sgq awE):=by rw [e3]; rfl
     conv=>whnf
     refine ⟨d,⟨e1,e2,by rw [e3],e4⟩,SLe.id ⟨rfl,rfl,rfl,trivial⟩ ⟨⟨_,rfl,.refl _⟩,trivial⟩ (fun R hR=>?_)⟩
     rcases Sl.F_F' hR with h | h
     · exact List.mem_append_left _ h
     · rw [h,e6]; exact List.mem_append_right _ (List.mem_cons_self ..)
 rintro s1 ⟨d,hd,hle⟩
 refine WPS.le ?_ hle
 obtain ⟨hX,hL,hS⟩:=hd.xs
 have lX : d.X.xs.length=4:=by rw [hX]; rfl
 have lL : d.L.xs.length=4:=by have:=congrArg List.length hL; simpa using this
 have lS : d.S.xs.length=3:=by have:=congrArg List.length hS; simpa using this
 obtain ⟨t,ht⟩ : ∃ t,d.S.xs[1]?=some t:=⟨_,List.getElem?_eq_getElem (by omega)⟩
 have htx : t.xs=[0]:=by
   have:=congrArg (fun l : List (List Nat)=>l[1]?) hS
   simp only [List.getElem?_map,ht,Option.map_some] at this
   exact Option.some.inj this
 refine WPS.pure (p:=d.S.A.isSome=true) (fun w' hR=>zap (hR _ Sl.F_S) (by rw [zag Ln.C_len]; omega)) (fun hAS=>?_)
 refine WPS.peel zab mixed ?_
 conv=>whnf
 refine zae (show ((d.X.xs.length : Int) != 4)=false by rw [lX]; rfl) ?_
 conv=>whnf
 refine zae (show ((d.L.xs.length : Int) != 4)=false by rw [lL]; rfl) ?_
 conv=>whnf
 refine zae (show ((d.S.xs.length : Int) != 3)=false by rw [lS]; rfl) ?_
 conv=>whnf
 refine ⟨⟨by omega,by rw [lS]; decide,hAS⟩,?_⟩
 conv=>whnf
 refine zao.elem (A:=d.S.A) (xs:=d.S.xs) (j:=1) Ln.C Ln.C_len Sl.F_S rfl (by rw [lS]; decide) (by decide) (fun _=>rfl) ?_
 intro t' ht'
 obtain rfl : t'=t:=by rw [show (1 : Int).toNat=1 from rfl,ht] at ht'; exact (Option.some.inj ht').symm
 conv=>whnf
 refine zac.fzB 45 rfl (fun b=>?_)
 have he:=zAH t'.A (some ⟨b,0,none⟩) t'.c 1 t'.xs [0] (by rw [htx]; decide)
 rw [decide_eq_true htx] at he
 refine cfs he ?_ rfl (fun R hR=>?_)
 rotate_left
 · simp only [List.mem_cons,List.not_mem_nil,or_false] at hR
   rcases hR with rfl | rfl
   · exact List.mem_cons_of_mem _ (Sl.F_s (List.mem_of_getElem? ht))
   · exact List.mem_cons_self ..
 conv=>whnf
 refine WPS.peel zab mixed ?_
 conv=>whnf
 have hc:=zoK d hd.small (by rw [hd.cells]; decide)
 rw [hd.cells] at hc
 refine WPS.of zab mixed ?_
 conv=>whnf
 refine zac.o 51 hc.enters (zaB.facts hc rfl (fun R hR=>List.mem_cons_of_mem _ hR)) rfl rfl ?_
 conv=>whnf
 refine zak (ι:=Nat) (fun i=>⟨[(2,.o (.p 2 0)),(4,.o (.p 4 0)),(51,.o (.w 51)),(52,.o (.v (.int .i64 27))),(53,.o (.v (.int .i64 i)))],
     [(2,slM d),(4,.box [.v (.int .i64 (cn i 0)),.v (.int .i64 (cn i 1)),.v (.int .i64 (cn i 2)),.v (.int .i64 (cn i 3))] zwq),(51,.own zaZ 3 27 (rowV Cel.C zjL))],d.F⟩)
   (fun i=>i≤27) (fun i=>27-i) 0 (Nat.zero_le _) (SLe.id ⟨rfl,rfl,rfl,rfl,rfl,trivial⟩ ⟨⟨_,rfl,.refl _⟩,⟨_,rfl,.refl _⟩,⟨_,rfl,.refl _⟩,trivial⟩ (fun R hR=>List.mem_cons_of_mem _ hR)) ?_
 intro i hi0
 conv=>whnf
 by_cases hi : i<27
 · refine zai (decide_eq_true (show (i : Int)<27 by omega)) ?_
   obtain ⟨x,hx⟩ : ∃ x,zjL[i]?=some x:=⟨_,List.getElem?_eq_getElem (show i<zjL.length from hi)⟩
   conv=>whnf
   refine ⟨by show (0 : Int)≤(i : Int)∧(i : Int)<27; omega,?_⟩
   conv=>whnf
   refine zbU.elem Cel.C Cel.C_len (k:=i) (by show (i : Int).toNat*3=i*3; rw [Int.toNat_natCast]) hi (by decide) (fun h=>by cases h) ?_
   intro x' hx'
   obtain rfl : x'=x:=by rw [hx] at hx'; exact (Option.some.inj hx').symm
   have hk:=awK x' (List.mem_of_getElem? hx)
   obtain ⟨k,c,r⟩:=x'
   have l0:=zxY i 0
   have l1:=zxY i 1
   have l2:=zxY i 2
   have l3:=zxY i 3
   have hk' : k=0∨k=1∨k=2∨k=3:=by simp only at hk; omega
   rcases hk' with rfl | rfl | rfl | rfl
   · have hwk : IntKind.i64.wrap ((cn i 0 : Int)+1)=((cn i 0+1 : Nat) : Int):=by rw [wrap_i64 (by omega) (by omega)]; rfl
     have c0 : cn (i+1) 0=cn i 0+1:=zcu hx 0
     have c1 : cn (i+1) 1=cn i 1:=zcu hx 1
     have c2 : cn (i+1) 2=cn i 2:=zcu hx 2
     have c3 : cn (i+1) 3=cn i 3:=zcu hx 3
     conv=>whnf
     refine ⟨⟨show (0 : Int)≤(0 : Int) by decide,show (0 : Int)<4 by decide⟩,?_⟩
     conv=>whnf
     refine ⟨⟨show (0 : Int)≤(0 : Int) by decide,show (0 : Int)<4 by decide⟩,?_⟩
     conv=>whnf
     refine ⟨i+1,by show i+1≤27; omega,by show 27-(i+1)<27-i; omega,SLe.id ⟨rfl,rfl,rfl,rfl,zan hi (by omega),trivial⟩ ⟨⟨_,rfl,.refl _⟩,⟨_,rfl,?_⟩,⟨_,rfl,.refl _⟩,trivial⟩ (fun R hR=>hR)⟩
     rw [c0,c1,c2,c3,←hwk]; exact .refl _
   · have hwk : IntKind.i64.wrap ((cn i 1 : Int)+1)=((cn i 1+1 : Nat) : Int):=by rw [wrap_i64 (by omega) (by omega)]; rfl
     have c0 : cn (i+1) 0=cn i 0:=zcu hx 0
     have c1 : cn (i+1) 1=cn i 1+1:=zcu hx 1
     have c2 : cn (i+1) 2=cn i 2:=zcu hx 2
     have c3 : cn (i+1) 3=cn i 3:=zcu hx 3
     conv=>whnf
     refine ⟨⟨show (0 : Int)≤(1 : Int) by decide,show (1 : Int)<4 by decide⟩,?_⟩
     conv=>whnf
     refine ⟨⟨show (0 : Int)≤(1 : Int) by decide,show (1 : Int)<4 by decide⟩,?_⟩
     conv=>whnf
     refine ⟨i+1,by show i+1≤27; omega,by show 27-(i+1)<27-i; omega,SLe.id ⟨rfl,rfl,rfl,rfl,zan hi (by omega),trivial⟩ ⟨⟨_,rfl,.refl _⟩,⟨_,rfl,?_⟩,⟨_,rfl,.refl _⟩,trivial⟩ (fun R hR=>hR)⟩
     rw [c0,c1,c2,c3,←hwk]; exact .refl _
   · have hwk : IntKind.i64.wrap ((cn i 2 : Int)+1)=((cn i 2+1 : Nat) : Int):=by rw [wrap_i64 (by omega) (by omega)]; rfl
     have c0 : cn (i+1) 0=cn i 0:=zcu hx 0
     have c1 : cn (i+1) 1=cn i 1:=zcu hx 1
     have c2 : cn (i+1) 2=cn i 2+1:=zcu hx 2
     have c3 : cn (i+1) 3=cn i 3:=zcu hx 3
     conv=>whnf
     refine ⟨⟨show (0 : Int)≤(2 : Int) by decide,show (2 : Int)<4 by decide⟩,?_⟩
     conv=>whnf
     refine ⟨⟨show (0 : Int)≤(2 : Int) by decide,show (2 : Int)<4 by decide⟩,?_⟩
     conv=>whnf
     refine ⟨i+1,by show i+1≤27; omega,by show 27-(i+1)<27-i; omega,SLe.id ⟨rfl,rfl,rfl,rfl,zan hi (by omega),trivial⟩ ⟨⟨_,rfl,.refl _⟩,⟨_,rfl,?_⟩,⟨_,rfl,.refl _⟩,trivial⟩ (fun R hR=>hR)⟩
     rw [c0,c1,c2,c3,←hwk]; exact .refl _
   · have hwk : IntKind.i64.wrap ((cn i 3 : Int)+1)=((cn i 3+1 : Nat) : Int):=by rw [wrap_i64 (by omega) (by omega)]; rfl
     have c0 : cn (i+1) 0=cn i 0:=zcu hx 0
     have c1 : cn (i+1) 1=cn i 1:=zcu hx 1
     have c2 : cn (i+1) 2=cn i 2:=zcu hx 2
     have c3 : cn (i+1) 3=cn i 3+1:=zcu hx 3
     conv=>whnf
     refine ⟨⟨show (0 : Int)≤(3 : Int) by decide,show (3 : Int)<4 by decide⟩,?_⟩
     conv=>whnf
     refine ⟨⟨show (0 : Int)≤(3 : Int) by decide,show (3 : Int)<4 by decide⟩,?_⟩
     conv=>whnf
     refine ⟨i+1,by show i+1≤27; omega,by show 27-(i+1)<27-i; omega,SLe.id ⟨rfl,rfl,rfl,rfl,zan hi (by omega),trivial⟩ ⟨⟨_,rfl,.refl _⟩,⟨_,rfl,?_⟩,⟨_,rfl,.refl _⟩,trivial⟩ (fun R hR=>hR)⟩
     rw [c0,c1,c2,c3,←hwk]; exact .refl _
 refine zae (decide_eq_false (show ¬(i : Int)<27 by omega)) ?_
 obtain rfl : i=27:=by have : i≤27:=hi0; omega
 have hcen:=zvl d ⟨3,1,1⟩ hd.small hd.sz (Sl.is_szX hd.is hd.sz) (by decide) (by rw [hd.cnt]; decide)
 rw [hd.cen] at hcen
 conv=>whnf
 refine cfs hcen ?_
 conv=>whnf
 have v0 : cn 27 0=10:=by decide
 have v1 : cn 27 1=6:=by decide
 have v2 : cn 27 2=7:=by decide
 have v3 : cn 27 3=4:=by decide
 refine zaj.quiet (by kernel_rfl) ?_
 conv=>whnf
 refine cd h23 ?_
 conv=>whnf
 exact zaa (congrArg Value.bool ((eqPV ⟨2,3⟩ ⟨2,3⟩).trans (decide_eq_true rfl)))
end Go.Sx
end
section
set_option maxRecDepth 10000
set_option maxHeartbeats 2000000
namespace Go.Sx
open Go Go.Proofs
theorem zqY (p : Pt) : Fn PP zej [pV p] (.bool (bigP 10 p)):=by
 refine Fn.of zab mixed ziW rfl rfl (Nat.le_of_ble_eq_true rfl) ?_
 intro w
 unfold bigP
 conv=>whnf
 by_cases h1 : 10<p.x.num.length
 ·refine zai (decide_eq_true (show ((p.x.num.length : Nat) : Int)>10 by omega)) ?_
  rw [decide_eq_true h1]
  conv=>whnf
  exact zaa rfl
 refine zae (decide_eq_false (show ¬((p.x.num.length : Nat) : Int)>10 by omega)) ?_
 rw [decide_eq_false h1]
 conv=>whnf
 by_cases h2 : 10<p.x.den.length
 ·refine zai (decide_eq_true (show ((p.x.den.length : Nat) : Int)>10 by omega)) ?_
  rw [decide_eq_true h2]
  conv=>whnf
  exact zaa rfl
 refine zae (decide_eq_false (show ¬((p.x.den.length : Nat) : Int)>10 by omega)) ?_
 rw [decide_eq_false h2]
 conv=>whnf
 by_cases h3 : 10<p.y.num.length
 ·refine zai (decide_eq_true (show ((p.y.num.length : Nat) : Int)>10 by omega)) ?_
  rw [decide_eq_true h3]
  conv=>whnf
  exact zaa rfl
 refine zae (decide_eq_false (show ¬((p.y.num.length : Nat) : Int)>10 by omega)) ?_
 rw [decide_eq_false h3]
 conv=>whnf
 refine zaa (congrArg Value.bool ?_)
 show decide (((p.y.den.length : Nat) : Int)>10)=(false||(false||(false||decide (10<p.y.den.length))))
 rw [Bool.false_or,Bool.false_or,Bool.false_or]
 exact decide_eq_decide.2 (by omega)
def bigE (e : Pt×Pt) : Bool:=bigP 10 e.1||bigP 10 e.2
def zhT (b : Bx) (l : List (Pt×Pt)) : Bool:=(decide (8<l.length)&&decide (l.length≤400))||(decide (405<l.length)||(bigP 10 b.lo||(bigP 10 b.hi||l.any bigE)))
theorem zwP {b o X j z : Nat} (h : X=j*12) : (some ⟨b,o+X+z,none⟩ : Option Addr)=(some (⟨b,o,none⟩ : Addr)).map (fun a=>a.add (j*12+z)):=by
 subst h; rw [Option.map_some,Addr.add_lit,Nat.add_assoc]
theorem zxu {b o X j : Nat} (h : X=j*12) : (some ⟨b,o+X,none⟩ : Option Addr)=(some (⟨b,o,none⟩ : Addr)).map (fun a=>a.add (j*12+0)):=zwP (z:=0) h
theorem zwh (b : Bx) (A : Option Addr) (c : Nat) (l : List (Pt×Pt)) : FnM PP zec [bxV b,.slice A l.length c] (facts [zaf A (rowV sgC l)]) (zbu (.bool (zhT b l))):=by
 refine FnM.ofS zab mixed ziK rfl rfl (Nat.le_of_ble_eq_true rfl) (by simp [zaf.ok]) (fun w l st E w' hp hm=>zh0 hp hm) ?_
 intro w hw
 have hA : 0<l.length→∃ b o,A=some ⟨b,o,none⟩:=fun h=>by
  have h1:=zap (zaK hw) (by rw [zag zdW]; omega)
  obtain ⟨a,rfl⟩:=Option.isSome_iff_exists.1 h1
  obtain ⟨b,o,rfl⟩:=zck (zaK hw) (by intro h2; have:=congrArg List.length h2; rw [zag zdW] at this; simp at this; omega)
  exact ⟨b,o,rfl⟩
 obtain ⟨n,hn⟩ : ∃ n,n=l.length:=⟨_,rfl⟩
 have hg : zhT b l=((decide (8<n)&&decide (n≤400))||(decide (405<n)||(bigP 10 b.lo||(bigP 10 b.hi||l.any bigE)))):=by rw [hn]; rfl
 rw [←hn] at hA ⊢
 have lo:=zqY b.lo
 have hi:=zqY b.hi
 obtain ⟨x,hx⟩ : ∃ x,x=bigP 10 b.lo:=⟨_,rfl⟩
 obtain ⟨y,hy⟩ : ∃ y,y=bigP 10 b.hi:=⟨_,rfl⟩
 rw [←hx] at lo hg
 rw [←hy] at hi hg
 refine WPS.peel zab mixed ?_
 conv=>whnf
 refine WPS.cut zab mixed (ι:=Unit) (fun _=>⟨[(1,.o (.v (.slice A n c)))],[],[zaf A (rowV sgC l)]⟩) (fun _=>n≤405∧zhT b l=l.any bigE) ?_ ?_
 ·have two : ∀ n8 : Prop,(n8→True)→True:=fun _ _=>trivial
  conv=>whnf
  by_cases h8 : 8<n
  ·refine zai (decide_eq_true (show (n : Int)>8 by omega)) ?_
   conv=>whnf
   by_cases h400 : n≤400
   ·refine zai (decide_eq_true (show (n : Int)≤400 by omega)) ?_
    have hgt : zhT b l=true:=by rw [hg,decide_eq_true h8,decide_eq_true h400]; rfl
    conv=>whnf
    rw [hgt]
    exact zaa rfl
   refine zae (decide_eq_false (show ¬(n : Int)≤400 by omega)) ?_
   conv=>whnf
   by_cases h405 : 405<n
   ·refine zai (decide_eq_true (show (n : Int)>405 by omega)) ?_
    have hgt : zhT b l=true:=by rw [hg,decide_eq_true h405]; simp
    conv=>whnf
    rw [hgt]
    exact zaa rfl
   refine zae (decide_eq_false (show ¬(n : Int)>405 by omega)) ?_
   conv=>whnf
   refine cf lo ?_
   cases x with
   | true =>
    have hgt : zhT b l=true:=by rw [hg]; simp
    conv=>whnf
    rw [hgt]
    exact zaa rfl
   | false =>
    conv=>whnf
    refine cf hi ?_
    cases y with
    | true =>
     have hgt : zhT b l=true:=by rw [hg]; simp
     conv=>whnf
     rw [hgt]
     exact zaa rfl
    | false =>
     conv=>whnf
     refine ⟨(),⟨by omega,?_⟩,SLe.id ⟨rfl,trivial⟩ trivial (fun R hR=>hR)⟩
     rw [hg,decide_eq_false h405,←Bool.decide_and,decide_eq_false (show ¬(8<n∧n≤400) by omega)]; simp
  refine zae (decide_eq_false (show ¬(n : Int)>8 by omega)) ?_
  conv=>whnf
  by_cases h405 : 405<n
  ·refine zai (decide_eq_true (show (n : Int)>405 by omega)) ?_
   have hgt : zhT b l=true:=by rw [hg,decide_eq_true h405]; simp
   conv=>whnf
   rw [hgt]
   exact zaa rfl
  refine zae (decide_eq_false (show ¬(n : Int)>405 by omega)) ?_
  conv=>whnf
  refine cf lo ?_
  cases x with
  | true =>
   have hgt : zhT b l=true:=by rw [hg]; simp
   conv=>whnf
   rw [hgt]
   exact zaa rfl
  | false =>
   conv=>whnf
   refine cf hi ?_
   cases y with
   | true =>
    have hgt : zhT b l=true:=by rw [hg]; simp
    conv=>whnf
    rw [hgt]
    exact zaa rfl
   | false =>
    conv=>whnf
    refine ⟨(),⟨by omega,?_⟩,SLe.id ⟨rfl,trivial⟩ trivial (fun R hR=>hR)⟩
    rw [hg,decide_eq_false h405,←Bool.decide_and,decide_eq_false (show ¬(8<n∧n≤400) by omega)]; simp
 rintro _ ⟨h405,hgl⟩
 rw [hgl]
 refine WPS.of zab mixed ?_
 conv=>whnf
 refine zak (ι:=Nat) (fun i=>⟨[(1,.o (.v (.slice A n c))),(5,.o (.v (.int .i64 i)))],[],[zaf A (rowV sgC l)]⟩)
  (fun i=>i≤n∧(l.take i).any bigE=false) (fun i=>n-i) 0 ⟨Nat.zero_le _,rfl⟩ (SLe.id ⟨rfl,rfl,trivial⟩ trivial (fun R hR=>hR)) ?_
 rintro i ⟨hi0,hi1⟩
 conv=>whnf
 by_cases hin : i<n
 rotate_left
 ·refine zae (decide_eq_false (show ¬(i : Int)<(n : Int) by omega)) ?_
  rw [List.take_of_length_le (by omega)] at hi1
  conv=>whnf
  exact zaa (congrArg Value.bool hi1.symm)
 refine zai (decide_eq_true (show (i : Int)<(n : Int) by omega)) ?_
 obtain ⟨e,he⟩ : ∃ e,l[i]?=some e:=⟨_,List.getElem?_eq_getElem (by omega)⟩
 obtain ⟨ba,oa,rfl⟩:=hA (by omega)
 have hT : ∀ t,bigE e=t→(l.take (i+1)).any bigE=t:=fun t ht=>by rw [zaE he,List.any_append,hi1]; simpa using ht
 have hany : bigE e=true→l.any bigE=true:=fun h=>List.any_eq_true.2 ⟨e,List.mem_of_getElem? he,h⟩
 have h1:=zqY e.1
 have h2:=zqY e.2
 conv=>whnf
 refine ⟨⟨by omega,by omega,rfl⟩,?_⟩
 rw [Option.map_some,Addr.add_lit]
 conv=>whnf
 refine zao.fld (o:=0) sgC zdW (List.mem_singleton.2 rfl) he (by first | exact zwP rfl | exact zxu rfl) (by decide) (by decide) (fun h=>by cases h) ?_
 conv=>whnf
 refine cf h1 ?_
 cases hb1 : bigP 10 e.1 with
 | true =>
  have:=hany (by rw [bigE,hb1]; rfl)
  conv=>whnf
  exact zaa (congrArg Value.bool this.symm)
 | false =>
  conv=>whnf
  refine ⟨⟨by omega,by omega,rfl⟩,?_⟩
  rw [Option.map_some,Addr.add_lit]
  conv=>whnf
  refine zao.fld (o:=6) sgC zdW (List.mem_singleton.2 rfl) he (by first | exact zwP rfl | exact zxu rfl) (by decide) (by decide) (fun h=>by cases h) ?_
  conv=>whnf
  refine cf h2 ?_
  cases hb2 : bigP 10 e.2 with
  | true =>
   have:=hany (by rw [bigE,hb1,hb2]; rfl)
   conv=>whnf
   exact zaa (congrArg Value.bool this.symm)
  | false =>
   conv=>whnf
   exact ⟨i+1,⟨by omega,hT false (by rw [bigE,hb1,hb2]; rfl)⟩,by show n-(i+1)<n-i; omega,SLe.id ⟨rfl,zan hin (by omega),trivial⟩ trivial (fun R hR=>hR)⟩
theorem zzi {b : Bx} {l : List (Pt×Pt)} (h : zhT b l=false) : b.sm K0∧(∀ e∈l,e.1.sm K0∧e.2.sm K0)∧(l.length≤8∨400<l.length)∧l.length≤405:=by
 unfold zhT at h
 simp only [Bool.or_eq_false_iff,Bool.and_eq_false_iff,decide_eq_false_iff_not] at h
 obtain ⟨h1,h2,h3,h4,h5⟩:=h
 refine ⟨⟨(zqP h3).le (by decide),(zqP h4).le (by decide)⟩,fun e he=>?_,by omega,by omega⟩
 have:=(List.any_eq_false.1 h5) e he
 have h6 : bigE e=false:=by simpa using this
 unfold bigE at h6
 rw [Bool.or_eq_false_iff] at h6
 exact ⟨(zqP h6.1).le (by decide),(zqP h6.2).le (by decide)⟩
end Go.Sx
end
section
set_option maxRecDepth 10000
set_option maxHeartbeats 2000000
namespace Go.Sx
open Go Go.Proofs
end Go.Sx
end
section
set_option maxRecDepth 10000
set_option maxHeartbeats 1000000
namespace Go.Sx
theorem zl0 {l : List Rat} (h : Asc l) {i j : Nat} {x y : Rat} (hi : l[i]?=some x) (hj : l[j]?=some y) (hij : i<j) : x<y:=by
 obtain ⟨h1,rfl⟩:=List.getElem?_eq_some_iff.1 hi
 obtain ⟨h2,rfl⟩:=List.getElem?_eq_some_iff.1 hj
 exact (List.pairwise_iff_getElem.1 h) i j h1 h2 hij
theorem Sl.is_asc {s : Sl} (h : s.is) : Asc s.X.xs:=by rw [h.1]; exact zj3 _
def Good (s : Sl) (q : Rat) : Prop:=∃ u v g,Sz KX u∧Sz KX v∧Sz 400000 g∧q=(s.hi.y-s.lo.y)*(u-s.lo.x)+(g-s.lo.y)*(v-u)
theorem Good.sz {s : Sl} {q : Rat} (hz : s.sz) (h : Good s q) : Sz 1000000 q:=by
 obtain ⟨u,v,g,hu,hv,hg,rfl⟩:=h
 exact (((hz.hi.2.sub hz.lo.2).mul (hu.sub hz.lo.1)).add ((hg.sub hz.lo.2).mul (hv.sub hu))).le (by decide)
end Go.Sx
end
section
set_option maxRecDepth 10000
set_option maxHeartbeats 1000000
namespace Go.Sx
def pcB (lo hi : V) (e : V×V) : Option (V×V):=match zdb ⟨PQ lo,PQ hi⟩ e.1 e.2 with
 | none=>none
 | some (c,d)=>if c=d then none else some (ordV c d)
theorem zBW (lo hi : V) (e : V×V) (i : Nat) : (pcsO lo hi e i).map (fun p=>(p.a,p.b))=pcB lo hi e:=by
 unfold pcsO pcB
 cases zdb ⟨PQ lo,PQ hi⟩ e.1 e.2 with
 | none=>rfl
 | some p =>
  obtain ⟨c,d⟩:=p
  simp only
  by_cases h : c=d
  ·rw [if_pos h,if_pos h]; rfl
  ·rw [if_neg h,if_neg h]; rfl
theorem zCt (lo hi : V) (E : List (V×V)) : (pcsL lo hi E).map (fun p=>(p.a,p.b))=E.filterMap (pcB lo hi):=by
 have : ∀ (l : List (V×V)) (i : Nat),(pcsF lo hi i l).map (fun p=>(p.a,p.b))=l.filterMap (pcB lo hi):=fun l=>by
  induction l with
  | nil=>intro i; rfl
  | cons e r ih =>
   intro i
   have h:=zBW lo hi e i
   rw [pcsF,List.map_append,ih,List.filterMap_cons,←h]
   cases pcsO lo hi e i <;> rfl
 exact this E 0
def Sim (E F : List (V×V)) : Prop:=(E.map fun e=>ordV e.1 e.2).Perm (F.map fun e=>ordV e.1 e.2)
theorem zr0 {a b c d : V} (hab : a≠b) (hcd : c≠d) : zbX c d a b=zbX a b c d:=by
 obtain ⟨s1,n1⟩:=zkS hab hcd
 obtain ⟨s2,n2⟩:=zkS hcd hab
 cases h1 : zbX a b c d with
 | none =>
  cases h2 : zbX c d a b with
  | none=>rfl
  | some y=>obtain ⟨k1,k2,_⟩:=s2 y h2; exact (n1 h1 y.1 k2 k1).elim
 | some x =>
  obtain ⟨x1,x2,x3,x4,x5,x6⟩:=s1 x h1
  cases h2 : zbX c d a b with
  | none=>exact (n2 h2 x.1 x2 x1).elim
  | some y =>
   obtain ⟨y1,y2,y3,y4,y5,y6⟩:=s2 y h2
   have a1:=(x6 y.1 y2 y1).1
   have a2:=(y6 x.1 x2 x1).1
   have b1:=(x6 y.2 y4 y3).2
   have b2:=(y6 x.2 x4 x3).2
   rw [show y=x from Prod.ext (zfF a2 a1) (zfF b1 b2)]
theorem zrF {a b : V} (hab : a≠b) (h : leP2 a b) : zbX a b a b=some (a,b):=by
 obtain ⟨s1,n1⟩:=zkS hab hab
 cases h1 : zbX a b a b with
 | none=>exact (n1 h1 a (znt a b) (znt a b)).elim
 | some x =>
  obtain ⟨x1,x2,x3,x4,x5,x6⟩:=s1 x h1
  have a1:=(x6 a (znt a b) (znt a b)).1
  have b1:=(x6 b (zrf a b) (zrf a b)).2
  have a2:=(zuf h x1).1
  have b2:=(zuf h x3).2
  rw [show x=(a,b) from Prod.ext (zfF a1 a2) (zfF b2 b1)]
theorem zAs (a b : V) : leP2 (ordV a b).1 (ordV a b).2:=by
 unfold ordV
 split
 ·rename_i h; show leP2 b a; exact zdV.1 (by rw [zyX a b]; omega)
 ·rename_i h; show leP2 a b; exact zdV.1 (by omega)
theorem zvN {lo hi : V} {E : List (V×V)} {p : Pc} (hp : p∈pcsL lo hi E) : leP2 p.a p.b:=by
 have h1 : (p.a,p.b)∈(pcsL lo hi E).map fun p=>(p.a,p.b):=List.mem_map.2 ⟨p,hp,rfl⟩
 rw [zCt] at h1
 obtain ⟨e,_,he⟩:=List.mem_filterMap.1 h1
 unfold pcB at he
 split at he
 ·cases he
 ·rename_i c d _
  split at he
  ·cases he
  ·have:=zAs c d
   rw [Option.some.inj he] at this; exact this
theorem zxg {lo hi : V} {E : List (V×V)} {x : Rat} : x∈xsL lo hi (pcsL lo hi E)↔x=lo.x∨x=hi.x∨(∃ p∈pcsL lo hi E,x=p.a.x∨x=p.b.x)∨∃ p∈pcsL lo hi E,∃ q∈pcsL lo hi E,x∈zcF p q:=by
 obtain ⟨ps,hps⟩ : ∃ ps,ps=pcsL lo hi E:=⟨_,rfl⟩
 have hne : ∀ p∈ps,p.a≠p.b:=fun p hp=>by rw [hps] at hp; obtain ⟨e,h⟩:=zw8 hp; exact h.ne
 have hle : ∀ p∈ps,leP2 p.a p.b:=fun p hp=>by rw [hps] at hp; exact zvN hp
 rw [←hps,xsL,zgm,List.mem_cons,List.mem_cons]
 have key : ∀ i,x∈absG ps i↔∃ j p,j<i∧ps[j]?=some p∧x∈absP ps j p:=fun i=>by
  induction i with
  | zero=>exact ⟨fun h=>(by cases h),fun ⟨j,_,h,_⟩=>absurd h (Nat.not_lt_zero j)⟩
  | succ i ih =>
   rw [absG,List.mem_append,ih]
   constructor
   ·rintro (⟨j,p,h1,h2,h3⟩ | h)
    ·exact ⟨j,p,by omega,h2,h3⟩
    ·split at h
     ·rename_i p hp; exact ⟨i,p,by omega,hp,h⟩
     ·cases h
   ·rintro ⟨j,p,h1,h2,h3⟩
    by_cases hji : j=i
    ·right; subst hji; rw [h2]; exact h3
    ·left; exact ⟨j,p,by omega,h2,h3⟩
 rw [key]
 constructor
 ·rintro (h | h | ⟨j,p,h1,h2,h3⟩)
  ·exact .inl h
  ·exact .inr (.inl h)
  ·have hp:=List.mem_of_getElem? h2
   rcases List.mem_cons.1 h3 with h | h
   ·exact .inr (.inr (.inl ⟨p,hp,.inl h⟩))
   rcases List.mem_cons.1 h with h | h
   ·exact .inr (.inr (.inl ⟨p,hp,.inr h⟩))
   obtain ⟨q,hq,h⟩:=List.mem_flatMap.1 h
   exact .inr (.inr (.inr ⟨p,hp,q,List.mem_of_mem_take hq,h⟩))
 ·have own : ∀ p∈ps,(x=p.a.x∨x=p.b.x)→∃ j p,j<ps.length∧ps[j]?=some p∧x∈absP ps j p:=fun p hp h=>by
   obtain ⟨j,hj⟩:=List.getElem?_of_mem hp
   refine ⟨j,p,(List.getElem?_eq_some_iff.1 hj).1,hj,?_⟩
   rcases h with h | h
   ·rw [h]; exact List.mem_cons_self ..
   ·rw [h]; exact List.mem_cons_of_mem _ (List.mem_cons_self ..)
  have less : ∀ (i j : Nat) (p q : Pc),ps[i]?=some p→ps[j]?=some q→j<i→x∈zcF p q→∃ j p,j<ps.length∧ps[j]?=some p∧x∈absP ps j p:=fun i j p q hi hj hji h=>by
   refine ⟨i,p,(List.getElem?_eq_some_iff.1 hi).1,hi,List.mem_cons_of_mem _ (List.mem_cons_of_mem _ (List.mem_flatMap.2 ⟨q,?_,h⟩))⟩
   exact List.mem_of_getElem? (i:=j) (by rw [List.getElem?_take,if_pos hji]; exact hj)
  rintro (h | h | ⟨p,hp,h⟩ | ⟨p,hp,q,hq,h⟩)
  ·exact .inl h
  ·exact .inr (.inl h)
  ·exact .inr (.inr (own p hp h))
  ·right; right
   obtain ⟨i,hi⟩:=List.getElem?_of_mem hp
   obtain ⟨j,hj⟩:=List.getElem?_of_mem hq
   rcases Nat.lt_trichotomy i j with hij | hij | hij
   ·refine less j i q p hj hi hij ?_
    unfold zcF at h ⊢
    rw [zr0 (hne p hp) (hne q hq)]; exact h
   ·subst hij
    rw [hi] at hj; cases hj
    unfold zcF at h
    rw [zrF (hne p hp) (hle p hp)] at h
    simp only [List.mem_cons,List.not_mem_nil,or_false] at h
    exact own p hp h
   ·exact less i j p q hi hj hij h
theorem Sim.refl (E : List (V×V)) : Sim E E:=List.Perm.refl _
theorem Sim.swap {E M : List (V×V)} {j k : Nat} {a b : V×V} (h : Sim E M) (hj : M[j]?=some a) (hk : M[k]?=some b) : Sim E ((M.set j b).set k a):=by
 obtain ⟨h1,rfl⟩:=List.getElem?_eq_some_iff.1 hj
 obtain ⟨h2,rfl⟩:=List.getElem?_eq_some_iff.1 hk
 exact h.trans ((List.set_set_perm h1 h2).map _).symm
end Go.Sx
end
section
set_option maxRecDepth 10000
set_option maxHeartbeats 1000000
namespace Go.Sx
structure Nx (s : Sl) (c : Nat) (X Y : Rat) : Prop where
 x : s.X.xs[c]?=some X
 y : s.X.xs[c+1]?=some Y
theorem Nx.lt {s : Sl} {c : Nat} {X Y : Rat} (h : Nx s c X Y) (hs : s.is) : X<Y:=zl0 (Sl.is_asc hs) h.x h.y (by omega)
theorem Nx.none {s : Sl} {c : Nat} {X Y : Rat} (h : Nx s c X Y) (hs : s.is) {x : Rat} (hx : x∈s.X.xs) : ¬(X<x∧x<Y):=fun ⟨h1,h2⟩=>by
 obtain ⟨j,hj⟩:=List.getElem?_of_mem hx
 have ha:=Sl.is_asc hs
 rcases Nat.lt_trichotomy j c with hjc | hjc | hjc
 ·have:=zl0 ha hj h.x hjc; grind
 ·subst hjc; rw [h.x] at hj; cases hj; grind
 ·by_cases h3 : j=c+1
  ·subst h3; rw [h.y] at hj; cases hj; grind
  ·have:=zl0 ha h.y hj (by omega); grind
end Go.Sx
end
section
set_option maxRecDepth 10000
set_option maxHeartbeats 1000000
namespace Go.Sx
open Go Go.Proofs
theorem zz8 {lo hi : V} {E : List (V×V)} {p : Pc} : p∈pcsL lo hi E↔∃ i e,E[i]?=some e∧pcsO lo hi e i=some p:=by
 have key : ∀ (l : List (V×V)) (i : Nat),p∈pcsF lo hi i l↔∃ j e,l[j]?=some e∧pcsO lo hi e (i+j)=some p:=fun l=>by
  induction l with
  | nil=>intro i; exact ⟨fun h=>(by cases h),fun ⟨j,e,h,_⟩=>by simp at h⟩
  | cons e r ih =>
   intro i
   rw [pcsF,List.mem_append,ih (i+1)]
   constructor
   ·rintro (h | ⟨j,e',h1,h2⟩)
    ·refine ⟨0,e,rfl,?_⟩
     cases ho : pcsO lo hi e i with
     | none=>rw [ho] at h; cases h
     | some q=>rw [ho] at h; rw [List.mem_singleton.1 h]
    ·exact ⟨j+1,e',by rw [List.getElem?_cons_succ]; exact h1,by rw [show i+(j+1)=i+1+j by omega]; exact h2⟩
   ·rintro ⟨j,e',h1,h2⟩
    cases j with
    | zero=>left; cases h1; rw [Nat.add_zero] at h2; rw [h2]; exact List.mem_singleton.2 rfl
    | succ j=>right; exact ⟨j,e',by rw [List.getElem?_cons_succ] at h1; exact h1,by rw [show i+1+j=i+(j+1) by omega]; exact h2⟩
 rw [pcsL,key E 0]
 simp only [Nat.zero_add]
theorem zxp {lo hi : V} {e s : V×V} {i : Nat} : (clE lo hi e=s∧s.1≠s.2)↔pcsO lo hi e i=some ⟨s.1,s.2,i⟩:=by
 unfold clE pcsO
 cases zdb ⟨PQ lo,PQ hi⟩ e.1 e.2 with
 | none=>exact ⟨fun ⟨h1,h2⟩=>by rw [←h1] at h2; exact absurd rfl h2,fun h=>by cases h⟩
 | some cd =>
  obtain ⟨c,d⟩:=cd
  show ((if c=d then (V0,V0) else ordV c d)=s∧s.1≠s.2)↔(if c=d then none else some (⟨(ordV c d).1,(ordV c d).2,i⟩ : Pc))=some ⟨s.1,s.2,i⟩
  by_cases hcd : c=d
  ·rw [if_pos hcd,if_pos hcd]
   exact ⟨fun ⟨h1,h2⟩=>by rw [←h1] at h2; exact absurd rfl h2,fun h=>by cases h⟩
  ·rw [if_neg hcd,if_neg hcd]
   constructor
   ·rintro ⟨h1,_⟩; rw [h1]
   ·intro h
    have h:=Option.some.inj h
    have h1:=congrArg Pc.a h
    have h2:=congrArg Pc.b h
    have h1 : (ordV c d).1=s.1:=h1
    have h2 : (ordV c d).2=s.2:=h2
    exact ⟨Prod.ext h1 h2,by rw [←h1,←h2]; exact zw0 hcd⟩
theorem zA4 {lo hi : V} {e : V×V} {i : Nat} {p : Pc} (h : pcsO lo hi e i=some p) : p.i=i:=by
 unfold pcsO at h
 split at h
 ·cases h
 ·split at h
  ·cases h
  ·cases h; rfl
abbrev parL (lo hi : V) (E : List (V×V)) : List (V×V):=E.map (clE lo hi)
theorem zoG {lo hi : V} {E : List (V×V)} {i : Nat} {s : V×V} : ((parL lo hi E)[i]?=some s∧s.1≠s.2)↔(⟨s.1,s.2,i⟩ : Pc)∈pcsL lo hi E:=by
 rw [zz8,List.getElem?_map]
 constructor
 ·rintro ⟨h1,h2⟩
  cases he : E[i]? with
  | none=>rw [he] at h1; cases h1
  | some e =>
   rw [he] at h1
   exact ⟨i,e,he,zxp.1 ⟨Option.some.inj h1,h2⟩⟩
 ·rintro ⟨j,e,h1,h2⟩
  obtain rfl : i=j:=zA4 h2
  obtain ⟨h3,h4⟩:=zxp.2 h2
  exact ⟨by rw [h1]; exact congrArg some h3,h4⟩
theorem zjj {lo hi : V} {E : List (V×V)} {p : Pc} (h : p∈pcsL lo hi E) : (parL lo hi E)[p.i]?=some (p.a,p.b)∧p.a≠p.b:=zoG.2 h
def absK (s t : V×V) (L : List Rat) : List Rat:=if t.1=t.2 then L else match zbX t.1 t.2 s.1 s.2 with
 | none=>L
 | some (a,b)=>insU b.x (insU a.x L)
def absJ (P : List (V×V)) (s : V×V) (L : List Rat) : Nat→List Rat
 | 0=>L
 | k+1=>match P[k]? with
  | none=>absJ P s L k
  | some t=>absK s t (absJ P s L k)
def absI (lo hi : V) (P : List (V×V)) : Nat→List Rat
 | 0=>[lo.x,hi.x]
 | i+1=>match P[i]? with
  | none=>absI lo hi P i
  | some s=>if s.1=s.2 then absI lo hi P i else absJ P s (insU s.2.x (insU s.1.x (absI lo hi P i))) i
theorem zx1 {s t : V×V} {L : List Rat} {x : Rat} : x∈absK s t L↔x∈L∨(t.1≠t.2∧x∈zcF ⟨t.1,t.2,0⟩ ⟨s.1,s.2,0⟩):=by
 unfold absK zcF
 by_cases h : t.1=t.2
 ·rw [if_pos h]; exact ⟨.inl,fun h2=>h2.elim id (fun h3=>absurd h h3.1)⟩
 rw [if_neg h]
 show x∈(match zbX t.1 t.2 s.1 s.2 with | none=>L | some (a,b)=>insU b.x (insU a.x L))↔x∈L∨t.1≠t.2∧x∈(match zbX t.1 t.2 s.1 s.2 with | some (m,n)=>[m.x,n.x] | none=>[])
 cases zbX t.1 t.2 s.1 s.2 with
 | none=>exact ⟨.inl,fun h2=>h2.elim id (fun h3=>by cases h3.2)⟩
 | some ab =>
  obtain ⟨a,b⟩:=ab
  show x∈insU b.x (insU a.x L)↔x∈L∨t.1≠t.2∧x∈[a.x,b.x]
  rw [zcJ,zcJ]
  simp only [List.mem_cons,List.not_mem_nil,or_false]
  grind
theorem zyW {s t : V×V} {L : List Rat} (h : Asc L) : Asc (absK s t L):=by
 unfold absK
 split
 ·exact h
 ·split
  ·exact h
  ·exact zcm (zcm h)
theorem zcL (x : Rat) : ∀ l : List Rat,(insU x l).length≤l.length+1
 | []=>by simp [insU]
 | y::l=>by
  have:=zcL x l
  unfold insU
  split
  ·simp
  ·split
   ·simp
   ·simp only [List.length_cons]; omega
theorem zyG (s t : V×V) (L : List Rat) : (absK s t L).length≤L.length+2:=by
 unfold absK
 split
 ·omega
 ·split
  ·omega
  ·rename_i a b _
   have:=zcL b.x (insU a.x L)
   have:=zcL a.x L
   omega
theorem zqj {P : List (V×V)} {s : V×V} {L : List Rat} {x : Rat} : ∀ {k : Nat},x∈absJ P s L k↔x∈L∨∃ j t,j<k∧P[j]?=some t∧t.1≠t.2∧x∈zcF ⟨t.1,t.2,0⟩ ⟨s.1,s.2,0⟩
 | 0=>⟨.inl,fun h=>h.elim id (fun ⟨j,_,h,_⟩=>absurd h (Nat.not_lt_zero j))⟩
 | k+1=>by
  have ih:=zqj (P:=P) (s:=s) (L:=L) (x:=x) (k:=k)
  unfold absJ
  cases hk : P[k]? with
  | none =>
   show x∈absJ P s L k↔_
   rw [ih]
   constructor
   ·rintro (h | ⟨j,t,h1,h2⟩)
    ·exact .inl h
    ·exact .inr ⟨j,t,by omega,h2⟩
   ·rintro (h | ⟨j,t,h1,h2,h3⟩)
    ·exact .inl h
    ·by_cases hj : j=k
     ·subst hj; rw [hk] at h2; cases h2
     ·exact .inr ⟨j,t,by omega,h2,h3⟩
  | some t =>
   show x∈absK s t (absJ P s L k)↔_
   rw [zx1,ih]
   constructor
   ·rintro ((h | ⟨j,t',h1,h2⟩) | h)
    ·exact .inl h
    ·exact .inr ⟨j,t',by omega,h2⟩
    ·exact .inr ⟨k,t,by omega,hk,h⟩
   ·rintro (h | ⟨j,t',h1,h2,h3⟩)
    ·exact .inl (.inl h)
    ·by_cases hj : j=k
     ·subst hj; rw [hk] at h2; cases h2; exact .inr h3
     ·exact .inl (.inr ⟨j,t',by omega,h2,h3⟩)
theorem znv {P : List (V×V)} {s : V×V} {L : List Rat} (h : Asc L) : ∀ k : Nat,Asc (absJ P s L k)
 | 0=>h
 | k+1=>by
  unfold absJ
  split
  ·exact znv h k
  ·exact zyW (znv h k)
theorem zqu (P : List (V×V)) (s : V×V) (L : List Rat) : ∀ k : Nat,(absJ P s L k).length≤L.length+2*k
 | 0=>Nat.le_refl _
 | k+1=>by
  have:=zqu P s L k
  unfold absJ
  split
  ·omega
  ·rename_i t _
   have:=zyG s t (absJ P s L k)
   omega
theorem zqp {lo hi : V} {P : List (V×V)} {x : Rat} : ∀ {n : Nat},x∈absI lo hi P n↔x=lo.x∨x=hi.x∨∃ i s,i<n∧P[i]?=some s∧s.1≠s.2∧(x=s.1.x∨x=s.2.x∨∃ j t,j<i∧P[j]?=some t∧t.1≠t.2∧x∈zcF ⟨t.1,t.2,0⟩ ⟨s.1,s.2,0⟩)
 | 0=>by
  unfold absI
  simp only [List.mem_cons,List.not_mem_nil,or_false]
  constructor
  ·rintro (h | h)
   ·exact .inl h
   ·exact .inr (.inl h)
  ·rintro (h | h | ⟨i,_,h,_⟩)
   ·exact .inl h
   ·exact .inr h
   ·exact absurd h (Nat.not_lt_zero i)
 | n+1=>by
  have ih:=zqp (lo:=lo) (hi:=hi) (P:=P) (x:=x) (n:=n)
  have skip : (∀ s,P[n]?=some s→¬s.1≠s.2)→absI lo hi P (n+1)=absI lo hi P n→(x∈absI lo hi P (n+1)↔x=lo.x∨x=hi.x∨∃ i s,i<n+1∧P[i]?=some s∧s.1≠s.2∧(x=s.1.x∨x=s.2.x∨∃ j t,j<i∧P[j]?=some t∧t.1≠t.2∧x∈zcF ⟨t.1,t.2,0⟩ ⟨s.1,s.2,0⟩)):=fun hno he=>by
   rw [he,ih]
   constructor
   ·rintro (h | h | ⟨i,s,h1,h2⟩)
    ·exact .inl h
    ·exact .inr (.inl h)
    ·exact .inr (.inr ⟨i,s,by omega,h2⟩)
   ·rintro (h | h | ⟨i,s,h1,h2,h3,h4⟩)
    ·exact .inl h
    ·exact .inr (.inl h)
    ·by_cases hi : i=n
     ·subst hi; exact absurd h3 (hno s h2)
     ·exact .inr (.inr ⟨i,s,by omega,h2,h3,h4⟩)
  cases hn : P[n]? with
  | none=>exact skip (fun s h=>by rw [hn] at h; cases h) (by rw [absI,hn])
  | some s =>
   by_cases hs : s.1=s.2
   ·exact skip (fun s' h=>by rw [hn] at h; cases h; exact fun h2=>h2 hs) (by rw [absI,hn]; exact if_pos hs)
   ·rw [show absI lo hi P (n+1)=absJ P s (insU s.2.x (insU s.1.x (absI lo hi P n))) n from by rw [absI,hn]; exact if_neg hs,zqj,zcJ,zcJ,ih]
    constructor
    ·rintro ((h | h | h | h | ⟨i,s',h1,h2⟩) | h)
     ·exact .inr (.inr ⟨n,s,by omega,hn,hs,.inr (.inl h)⟩)
     ·exact .inr (.inr ⟨n,s,by omega,hn,hs,.inl h⟩)
     ·exact .inl h
     ·exact .inr (.inl h)
     ·exact .inr (.inr ⟨i,s',by omega,h2⟩)
     ·exact .inr (.inr ⟨n,s,by omega,hn,hs,.inr (.inr h)⟩)
    ·rintro (h | h | ⟨i,s',h1,h2,h3,h4⟩)
     ·exact .inl (.inr (.inr (.inl h)))
     ·exact .inl (.inr (.inr (.inr (.inl h))))
     ·by_cases hi : i=n
      ·subst hi
       rw [hn] at h2; cases h2
       rcases h4 with h | h | h
       ·exact .inl (.inr (.inl h))
       ·exact .inl (.inl h)
       ·exact .inr h
      ·exact .inl (.inr (.inr (.inr (.inr ⟨i,s',by omega,h2,h3,h4⟩))))
theorem zh9 {lo hi : V} (h : lo.x<hi.x) (P : List (V×V)) : ∀ n : Nat,Asc (absI lo hi P n)
 | 0=>by simp [absI,Asc,h]
 | n+1=>by
  unfold absI
  split
  ·exact zh9 h P n
  ·split
   ·exact zh9 h P n
   ·exact znv (zcm (zcm (zh9 h P n))) n
theorem zp4 (lo hi : V) (P : List (V×V)) : ∀ n : Nat,n≤400→(absI lo hi P n).length≤2+802*n
 | 0,_=>by simp [absI]
 | n+1,hn=>by
  have ih:=zp4 lo hi P n (by omega)
  unfold absI
  split
  ·omega
  ·split
   ·omega
   ·rename_i s _ _
    have:=zqu P s (insU s.2.x (insU s.1.x (absI lo hi P n))) n
    have:=zcL s.2.x (insU s.1.x (absI lo hi P n))
    have:=zcL s.1.x (absI lo hi P n)
    omega
theorem zBC {lo hi : V} (h : lo.x<hi.x) (E : List (V×V)) : absI lo hi (parL lo hi E) E.length=xsL lo hi (pcsL lo hi E):=by
 refine zuz (zh9 h _ _) (zj3 _) fun x=>?_
 rw [zqp,zxg]
 have hne : ∀ p∈pcsL lo hi E,p.a≠p.b:=fun p hp=>by obtain ⟨e,h⟩:=zw8 hp; exact h.ne
 constructor
 ·rintro (h | h | ⟨i,s,h1,h2,h3,h4⟩)
  ·exact .inl h
  ·exact .inr (.inl h)
  ·have hp:=zoG.1 ⟨h2,h3⟩
   rcases h4 with h | h | ⟨j,t,k1,k2,k3,k4⟩
   ·exact .inr (.inr (.inl ⟨_,hp,.inl h⟩))
   ·exact .inr (.inr (.inl ⟨_,hp,.inr h⟩))
   ·exact .inr (.inr (.inr ⟨_,zoG.1 ⟨k2,k3⟩,_,hp,k4⟩))
 ·have own : ∀ p∈pcsL lo hi E,(x=p.a.x∨x=p.b.x)→∃ i s,i<E.length∧(parL lo hi E)[i]?=some s∧s.1≠s.2∧(x=s.1.x∨x=s.2.x∨∃ j t,j<i∧(parL lo hi E)[j]?=some t∧t.1≠t.2∧x∈zcF ⟨t.1,t.2,0⟩ ⟨s.1,s.2,0⟩):=fun p hp h=>by
   have hq:=zjj hp
   have hl:=(List.getElem?_eq_some_iff.1 hq.1).1
   rw [List.length_map] at hl
   refine ⟨p.i,(p.a,p.b),hl,hq.1,hq.2,?_⟩
   rcases h with h | h
   ·exact .inl h
   ·exact .inr (.inl h)
  have less : ∀ p∈pcsL lo hi E,∀ q∈pcsL lo hi E,p.i<q.i→x∈zcF p q→∃ i s,i<E.length∧(parL lo hi E)[i]?=some s∧s.1≠s.2∧(x=s.1.x∨x=s.2.x∨∃ j t,j<i∧(parL lo hi E)[j]?=some t∧t.1≠t.2∧x∈zcF ⟨t.1,t.2,0⟩ ⟨s.1,s.2,0⟩):=fun p hp q hq hlt h=>by
   have hp':=zjj hp
   have hq':=zjj hq
   have hl:=(List.getElem?_eq_some_iff.1 hq'.1).1
   rw [List.length_map] at hl
   exact ⟨q.i,(q.a,q.b),hl,hq'.1,hq'.2,.inr (.inr ⟨p.i,(p.a,p.b),hlt,hp'.1,hp'.2,h⟩)⟩
  rintro (h | h | ⟨p,hp,h⟩ | ⟨p,hp,q,hq,h⟩)
  ·exact .inl h
  ·exact .inr (.inl h)
  ·exact .inr (.inr (own p hp h))
  ·right; right
   rcases Nat.lt_trichotomy p.i q.i with hij | hij | hij
   ·exact less p hp q hq hij h
   ·have h1:=(zjj hp).1
    have h2:=(zjj hq).1
    rw [hij,h2] at h1
    have h1:=Option.some.inj h1
    have e1 : q.a=p.a:=congrArg Prod.fst h1
    have e2 : q.b=p.b:=congrArg Prod.snd h1
    unfold zcF at h
    rw [e1,e2,zrF (hne p hp) (zvN hp)] at h
    simp only [List.mem_cons,List.not_mem_nil,or_false] at h
    exact own p hp h
   ·refine less q hq p hp hij ?_
    unfold zcF at h ⊢
    rw [zr0 (hne p hp) (hne q hq)]; exact h
def ordK (x : Rat) (s : V×V) (L : List Rat) : List Rat:=if s.1=s.2 then L else if s.1.x=s.2.x then (if s.1.x=x then insU s.2.y (insU s.1.y L) else L) else match hgtO ⟨s.1,s.2,0⟩ x with
 | none=>L
 | some y=>insU y L
def ordI (lo hi : V) (P : List (V×V)) (x : Rat) : Nat→List Rat
 | 0=>[lo.y,hi.y]
 | i+1=>match P[i]? with
  | none=>ordI lo hi P x i
  | some s=>ordK x s (ordI lo hi P x i)
theorem zrl {p : Pc} (h : p.a.x=p.b.x) (x : Rat) : hgtO p x=none:=by
 cases ho : hgtO p x with
 | none=>rfl
 | some y=>exact absurd (show p.b.x-p.a.x=0 by rw [h]; grind) (zwX ho).1
theorem zxy {x y : Rat} {s : V×V} {L : List Rat} : y∈ordK x s L↔y∈L∨(s.1≠s.2∧y∈ordP x ⟨s.1,s.2,0⟩):=by
 unfold ordK ordP
 by_cases h : s.1=s.2
 ·rw [if_pos h]; exact ⟨.inl,fun h2=>h2.elim id (fun h3=>absurd h h3.1)⟩
 rw [if_neg h]
 by_cases hv : s.1.x=s.2.x
 ·rw [if_pos hv,zrl (p:=⟨s.1,s.2,0⟩) hv]
  by_cases hx : s.1.x=x
  ·rw [if_pos hx,if_pos (show (⟨s.1,s.2,0⟩ : Pc).a.x=(⟨s.1,s.2,0⟩ : Pc).b.x∧(⟨s.1,s.2,0⟩ : Pc).a.x=x from ⟨hv,hx⟩),zcJ,zcJ]
   simp only [Option.toList,List.append_nil,List.mem_cons,List.not_mem_nil,or_false]
   grind
  ·rw [if_neg hx,if_neg (show ¬((⟨s.1,s.2,0⟩ : Pc).a.x=(⟨s.1,s.2,0⟩ : Pc).b.x∧(⟨s.1,s.2,0⟩ : Pc).a.x=x) from fun k=>hx k.2)]
   exact ⟨.inl,fun h2=>h2.elim id (fun h3=>by cases h3.2)⟩
 ·rw [if_neg hv,if_neg (show ¬((⟨s.1,s.2,0⟩ : Pc).a.x=(⟨s.1,s.2,0⟩ : Pc).b.x∧(⟨s.1,s.2,0⟩ : Pc).a.x=x) from fun k=>hv k.1)]
  cases hgtO ⟨s.1,s.2,0⟩ x with
  | none=>exact ⟨.inl,fun h2=>h2.elim id (fun h3=>by cases h3.2)⟩
  | some z =>
   show y∈insU z L↔_
   rw [zcJ]
   simp only [Option.toList,List.nil_append,List.mem_cons,List.not_mem_nil,or_false]
   grind
theorem zyd {x : Rat} {s : V×V} {L : List Rat} (h : Asc L) : Asc (ordK x s L):=by
 unfold ordK
 split
 ·exact h
 ·split
  ·split
   ·exact zcm (zcm h)
   ·exact h
  ·split
   ·exact h
   ·exact zcm h
theorem zyJ (x : Rat) (s : V×V) (L : List Rat) : (ordK x s L).length≤L.length+2:=by
 unfold ordK
 split
 ·omega
 ·split
  ·split
   ·have:=zcL s.2.y (insU s.1.y L)
    have:=zcL s.1.y L
    omega
   ·omega
  ·split
   ·omega
   ·rename_i y _
    have:=zcL y L
    omega
theorem zp3 {lo hi : V} {P : List (V×V)} {x y : Rat} : ∀ {n : Nat},y∈ordI lo hi P x n↔y=lo.y∨y=hi.y∨∃ i s,i<n∧P[i]?=some s∧s.1≠s.2∧y∈ordP x ⟨s.1,s.2,0⟩
 | 0=>by
  unfold ordI
  simp only [List.mem_cons,List.not_mem_nil,or_false]
  constructor
  ·rintro (h | h)
   ·exact .inl h
   ·exact .inr (.inl h)
  ·rintro (h | h | ⟨i,_,h,_⟩)
   ·exact .inl h
   ·exact .inr h
   ·exact absurd h (Nat.not_lt_zero i)
 | n+1=>by
  have ih:=zp3 (lo:=lo) (hi:=hi) (P:=P) (x:=x) (y:=y) (n:=n)
  unfold ordI
  cases hn : P[n]? with
  | none =>
   show y∈ordI lo hi P x n↔_
   rw [ih]
   constructor
   ·rintro (h | h | ⟨i,s,h1,h2⟩)
    ·exact .inl h
    ·exact .inr (.inl h)
    ·exact .inr (.inr ⟨i,s,by omega,h2⟩)
   ·rintro (h | h | ⟨i,s,h1,h2,h3⟩)
    ·exact .inl h
    ·exact .inr (.inl h)
    ·by_cases hi : i=n
     ·subst hi; rw [hn] at h2; cases h2
     ·exact .inr (.inr ⟨i,s,by omega,h2,h3⟩)
  | some s =>
   show y∈ordK x s (ordI lo hi P x n)↔_
   rw [zxy,ih]
   constructor
   ·rintro ((h | h | ⟨i,s',h1,h2⟩) | h)
    ·exact .inl h
    ·exact .inr (.inl h)
    ·exact .inr (.inr ⟨i,s',by omega,h2⟩)
    ·exact .inr (.inr ⟨n,s,by omega,hn,h⟩)
   ·rintro (h | h | ⟨i,s',h1,h2,h3⟩)
    ·exact .inl (.inl h)
    ·exact .inl (.inr (.inl h))
    ·by_cases hi : i=n
     ·subst hi; rw [hn] at h2; cases h2; exact .inr h3
     ·exact .inl (.inr (.inr ⟨i,s',by omega,h2,h3⟩))
theorem zns {lo hi : V} (h : lo.y<hi.y) (P : List (V×V)) (x : Rat) : ∀ n : Nat,Asc (ordI lo hi P x n)
 | 0=>by simp [ordI,Asc,h]
 | n+1=>by
  unfold ordI
  split
  ·exact zns h P x n
  ·exact zyd (zns h P x n)
theorem zt0 (lo hi : V) (P : List (V×V)) (x : Rat) : ∀ n : Nat,(ordI lo hi P x n).length≤2+2*n
 | 0=>by simp [ordI]
 | n+1=>by
  have ih:=zt0 lo hi P x n
  unfold ordI
  split
  ·omega
  ·rename_i s _
   have:=zyJ x s (ordI lo hi P x n)
   omega
theorem zBE {lo hi : V} (h : lo.y<hi.y) (E : List (V×V)) (x : Rat) : ordI lo hi (parL lo hi E) x E.length=ysL lo hi (pcsL lo hi E) x:=by
 refine zuz (zns h _ _ _) (zj3 _) fun y=>?_
 rw [zp3,ysL,zgm,List.mem_cons,List.mem_cons]
 refine or_congr Iff.rfl (or_congr Iff.rfl ?_)
 rw [List.mem_flatMap]
 constructor
 ·rintro ⟨i,s,h1,h2,h3,h4⟩
  exact ⟨_,zoG.1 ⟨h2,h3⟩,h4⟩
 ·rintro ⟨p,hp,h⟩
  have hq:=zjj hp
  have hl:=(List.getElem?_eq_some_iff.1 hq.1).1
  rw [List.length_map] at hl
  exact ⟨p.i,(p.a,p.b),hl,hq.1,hq.2,h⟩
end Go.Sx
end
section
set_option maxRecDepth 10000
set_option maxHeartbeats 1000000
namespace Go.Sx
open Go Go.Proofs
abbrev AscP (l : List (Rat×Nat)) : Prop:=l.Pairwise fun a b=>a.1<b.1
theorem zv6 : ∀ {a b : List (Rat×Nat)},AscP a→AscP b→(∀ z,z∈a↔z∈b)→a=b
 | [],[],_,_,_=>rfl
 | [],y::b,_,_,h=>by have:=(h y).2 (List.mem_cons_self ..); cases this
 | x::a,[],_,_,h=>by have:=(h x).1 (List.mem_cons_self ..); cases this
 | x::a,y::b,ha,hb,h=>by
  have ha':=List.pairwise_cons.1 ha
  have hb':=List.pairwise_cons.1 hb
  have hxy : x=y:=by
   rcases List.mem_cons.1 ((h x).1 (List.mem_cons_self ..)) with e | h1
   ·exact e
   ·rcases List.mem_cons.1 ((h y).2 (List.mem_cons_self ..)) with e | h2
    ·exact e.symm
    ·have:=hb'.1 x h1; have:=ha'.1 y h2; grind
  subst hxy
  congr 1
  refine zv6 ha'.2 hb'.2 fun z=>⟨fun hz=>?_,fun hz=>?_⟩
  ·rcases List.mem_cons.1 ((h z).1 (List.mem_cons_of_mem _ hz)) with e | h1
   ·have:=ha'.1 z hz; rw [e] at this; grind
   ·exact h1
  ·rcases List.mem_cons.1 ((h z).2 (List.mem_cons_of_mem _ hz)) with e | h1
   ·have:=hb'.1 z hz; rw [e] at this; grind
   ·exact h1
def insY (y : Rat) (i : Nat) : List (Rat×Nat)→List (Rat×Nat)
 | []=>[(y,i)]
 | z::l=>if z.1<y then z::insY y i l else if z.1=y then z::l else (y,i)::z::l
theorem zq3 {y : Rat} {i : Nat} {w : Rat×Nat} : ∀ {l : List (Rat×Nat)},AscP l→(w∈insY y i l↔w∈l∨(w=(y,i)∧∀ z∈l,z.1≠y))
 | [],_=>by simp [insY]
 | z::l,h=>by
  have h':=List.pairwise_cons.1 h
  have ih:=zq3 (y:=y) (i:=i) (w:=w) h'.2
  unfold insY
  by_cases h1 : z.1<y
  ·rw [if_pos h1,List.mem_cons,List.mem_cons,ih]
   constructor
   ·rintro (e | e | ⟨e,k⟩)
    ·exact .inl (.inl e)
    ·exact .inl (.inr e)
    ·refine .inr ⟨e,fun u hu=>?_⟩
     rcases List.mem_cons.1 hu with e2 | hu
     ·rw [e2]; grind
     ·exact k u hu
   ·rintro ((e | e) | ⟨e,k⟩)
    ·exact .inl e
    ·exact .inr (.inl e)
    ·exact .inr (.inr ⟨e,fun u hu=>k u (List.mem_cons_of_mem _ hu)⟩)
  ·rw [if_neg h1]
   by_cases h2 : z.1=y
   ·rw [if_pos h2]
    exact ⟨.inl,fun k=>k.elim id (fun k=>absurd h2 (k.2 z (List.mem_cons_self ..)))⟩
   ·rw [if_neg h2,List.mem_cons]
    constructor
    ·rintro (e | e)
     ·refine .inr ⟨e,fun u hu=>?_⟩
      rcases List.mem_cons.1 hu with e2 | hu
      ·rw [e2]; exact h2
      ·have:=h'.1 u hu; grind
     ·exact .inl e
    ·rintro (e | e)
     ·exact .inr e
     ·exact .inl e.1
theorem zt5 {y : Rat} {i : Nat} : ∀ {l : List (Rat×Nat)},AscP l→AscP (insY y i l)
 | [],_=>by simp [insY]
 | z::l,h=>by
  have h':=List.pairwise_cons.1 h
  unfold insY
  by_cases h1 : z.1<y
  ·rw [if_pos h1]
   refine List.pairwise_cons.2 ⟨fun u hu=>?_,zt5 h'.2⟩
   rcases (zq3 h'.2).1 hu with hu | ⟨e,_⟩
   ·exact h'.1 u hu
   ·rw [e]; exact h1
  ·rw [if_neg h1]
   by_cases h2 : z.1=y
   ·rw [if_pos h2]; exact h
   ·rw [if_neg h2]
    refine List.pairwise_cons.2 ⟨fun u hu=>?_,h⟩
    rcases List.mem_cons.1 hu with e | hu
    ·rw [e]; show y<z.1; grind
    ·have:=h'.1 u hu; show y<u.1; grind
theorem zua (y : Rat) (i : Nat) : ∀ l : List (Rat×Nat),(insY y i l).length≤l.length+1
 | []=>by simp [insY]
 | z::l=>by
  have:=zua y i l
  unfold insY
  split
  ·simp only [List.length_cons]; omega
  ·split
   ·simp
   ·simp
def rcO (lo hi : V) (x : Rat) (s : V×V) : Option Rat:=if s.1=s.2∨s.1.x=s.2.x∨x<s.1.x∨s.2.x<x then none else if (hgtE s.1 s.2 x).1=lo.y∨(hgtE s.1 s.2 x).1=hi.y then none else some (hgtE s.1 s.2 x).1
def strI (lo hi : V) (P : List (V×V)) (x : Rat) : Nat→List (Rat×Nat)
 | 0=>[]
 | i+1=>match (P[i]?).bind (rcO lo hi x) with
  | none=>strI lo hi P x i
  | some y=>insY y i (strI lo hi P x i)
theorem znr (lo hi : V) (P : List (V×V)) (x : Rat) : ∀ n : Nat,AscP (strI lo hi P x n)
 | 0=>List.Pairwise.nil
 | n+1=>by
  unfold strI
  split
  ·exact znr lo hi P x n
  ·exact zt5 (znr lo hi P x n)
theorem zqs (lo hi : V) (P : List (V×V)) (x : Rat) : ∀ n : Nat,(strI lo hi P x n).length≤n
 | 0=>Nat.le_refl _
 | n+1=>by
  have ih:=zqs lo hi P x n
  unfold strI
  split
  ·omega
  ·rename_i y _
   have:=zua y n (strI lo hi P x n)
   omega
theorem zqJ {lo hi : V} {P : List (V×V)} {x y : Rat} : ∀ {n i : Nat},(y,i)∈strI lo hi P x n↔i<n∧(P[i]?).bind (rcO lo hi x)=some y∧∀ j,j<n→(P[j]?).bind (rcO lo hi x)=some y→i≤j
 | 0,i=>⟨fun h=>(by cases h),fun h=>absurd h.1 (Nat.not_lt_zero i)⟩
 | n+1,i=>by
  have ih:=fun i=>zqJ (lo:=lo) (hi:=hi) (P:=P) (x:=x) (y:=y) (n:=n) (i:=i)
  unfold strI
  cases hn : (P[n]?).bind (rcO lo hi x) with
  | none =>
   show (y,i)∈strI lo hi P x n↔_
   rw [ih]
   constructor
   ·rintro ⟨h1,h2,h3⟩
    refine ⟨by omega,h2,fun j hj hy=>?_⟩
    by_cases hjn : j=n
    ·subst hjn; rw [hn] at hy; cases hy
    ·exact h3 j (by omega) hy
   ·rintro ⟨h1,h2,h3⟩
    by_cases hin : i=n
    ·subst hin; rw [hn] at h2; cases h2
    ·exact ⟨by omega,h2,fun j hj hy=>h3 j (by omega) hy⟩
  | some z =>
   show (y,i)∈insY z n (strI lo hi P x n)↔_
   rw [zq3 (znr lo hi P x n),ih]
   constructor
   ·rintro (⟨h1,h2,h3⟩ | ⟨e,h⟩)
    ·refine ⟨by omega,h2,fun j hj hy=>?_⟩
     by_cases hjn : j=n
     ·omega
     ·exact h3 j (by omega) hy
    ·have e1 : y=z:=congrArg Prod.fst e
     have e2 : i=n:=congrArg Prod.snd e
     subst e1 e2
     refine ⟨by omega,hn,fun j hj hy=>?_⟩
     refine Nat.le_of_not_lt fun hlt=>?_
     have : ∃ k,(y,k)∈strI lo hi P x i:=by
      have key : ∀ m,(∃ j,j≤m∧j<i∧(P[j]?).bind (rcO lo hi x)=some y)→∃ k,(y,k)∈strI lo hi P x i:=fun m=>by
       induction m with
       | zero =>
        rintro ⟨j,h1,h2,h3⟩
        obtain rfl : j=0:=by omega
        exact ⟨0,(ih 0).2 ⟨h2,h3,fun _ _ _=>Nat.zero_le _⟩⟩
       | succ m im =>
        rintro ⟨j,h1,h2,h3⟩
        by_cases hm : ∃ j,j≤m∧j<i∧(P[j]?).bind (rcO lo hi x)=some y
        ·exact im hm
        ·have hj1 : j=m+1:=by
          by_cases hj : j≤m
          ·exact absurd ⟨j,hj,h2,h3⟩ hm
          ·omega
         refine ⟨j,(ih j).2 ⟨h2,h3,fun k hk hy=>Nat.le_of_not_lt fun hkj=>hm ⟨k,by omega,hk,hy⟩⟩⟩
      exact key j ⟨j,Nat.le_refl _,hlt,hy⟩
     obtain ⟨k,hk⟩:=this
     exact h _ hk rfl
   ·rintro ⟨h1,h2,h3⟩
    by_cases hin : i=n
    ·subst hin
     rw [hn] at h2; cases h2
     refine .inr ⟨rfl,fun w hw hwz=>?_⟩
     obtain ⟨w1,w2⟩:=w
     have hwz : w1=y:=hwz
     subst hwz
     have:=(ih w2).1 hw
     have:=h3 w2 (by omega) this.2.1
     omega
    ·exact .inl ⟨by omega,h2,fun j hj hy=>h3 j (by omega) hy⟩
def fstH : Rat→List (Rat×Nat)→List (Rat×Nat)
 | _,[]=>[]
 | p,z::r=>if p=z.1 then fstH z.1 r else z::fstH z.1 r
def frsP : List (Rat×Nat)→List (Rat×Nat)
 | []=>[]
 | z::r=>z::fstH z.1 r
theorem zqC : ∀ (p : Rat) (l : List (Rat×Nat)),(fstH p l).map (·.2)=fstG p l
 | p,[]=>rfl
 | p,(y,i)::r=>by
  unfold fstH fstG
  show ((if p=y then fstH y r else (y,i)::fstH y r).map (·.2))=_
  split
  ·exact zqC y r
  ·rw [List.map_cons,zqC y r]
theorem zx2 : ∀ l : List (Rat×Nat),(frsP l).map (·.2)=fstL l
 | []=>rfl
 | (y,i)::r=>by show i::(fstH y r).map (·.2)=i::fstG y r; rw [zqC]
theorem zp0 {z : Rat×Nat} : ∀ {p : Rat} {l : List (Rat×Nat)},SrtC l→(∀ w∈l,p≤w.1)→(z∈fstH p l↔z∈l∧p<z.1∧∀ w∈l,w.1=z.1→z.2≤w.2)
 | p,[],_,_=>⟨fun h=>(by cases h),fun h=>(by cases h.1)⟩
 | p,y::r,hs,hp=>by
  have hs':=List.pairwise_cons.1 hs
  have hy : ∀ w∈r,y.1≤w.1:=fun w hw=>(zbO.1 (by
   have:=hs'.1 w hw
   exact this)).1
  have hy2 : ∀ w∈r,w.1=y.1→y.2≤w.2:=fun w hw e=>(zbO.1 (hs'.1 w hw)).2 e
  have ih:=zp0 (z:=z) (p:=y.1) hs'.2 hy
  have hpy:=hp y (List.mem_cons_self ..)
  unfold fstH
  by_cases h : p=y.1
  ·rw [if_pos h,ih]
   constructor
   ·rintro ⟨h1,h2,h3⟩
    refine ⟨List.mem_cons_of_mem _ h1,by rw [h]; exact h2,fun w hw e=>?_⟩
    rcases List.mem_cons.1 hw with e2 | hw
    ·rw [e2] at e; grind
    ·exact h3 w hw e
   ·rintro ⟨h1,h2,h3⟩
    rcases List.mem_cons.1 h1 with e | h1
    ·rw [e] at h2; grind
    ·exact ⟨h1,by rw [←h]; exact h2,fun w hw e=>h3 w (List.mem_cons_of_mem _ hw) e⟩
  ·rw [if_neg h,List.mem_cons,ih]
   constructor
   ·rintro (e | ⟨h1,h2,h3⟩)
    ·subst e
     refine ⟨List.mem_cons_self ..,by grind,fun w hw e=>?_⟩
     rcases List.mem_cons.1 hw with e2 | hw
     ·rw [e2]; exact Nat.le_refl _
     ·exact hy2 w hw e
    ·refine ⟨List.mem_cons_of_mem _ h1,by grind,fun w hw e=>?_⟩
     rcases List.mem_cons.1 hw with e2 | hw
     ·rw [e2] at e; grind
     ·exact h3 w hw e
   ·rintro ⟨h1,h2,h3⟩
    rcases List.mem_cons.1 h1 with e | h1
    ·exact .inl e
    ·by_cases hyz : y.1<z.1
     ·exact .inr ⟨h1,hyz,fun w hw e=>h3 w (List.mem_cons_of_mem _ hw) e⟩
     ·have e1 : z.1=y.1:=by have:=hy z h1; grind
      have k1:=h3 y (List.mem_cons_self ..) e1.symm
      have k2:=hy2 z h1 e1
      left
      exact Prod.ext e1 (by omega)
theorem zuR : ∀ {p : Rat} {l : List (Rat×Nat)},SrtC l→(∀ w∈l,p≤w.1)→AscP (fstH p l)∧∀ w∈fstH p l,p<w.1
 | p,[],_,_=>⟨List.Pairwise.nil,fun w h=>by cases h⟩
 | p,y::r,hs,hp=>by
  have hs':=List.pairwise_cons.1 hs
  have hy : ∀ w∈r,y.1≤w.1:=fun w hw=>(zbO.1 (hs'.1 w hw)).1
  have ih:=zuR (p:=y.1) hs'.2 hy
  have hpy:=hp y (List.mem_cons_self ..)
  refine ⟨?_,fun w hw=>((zp0 hs hp).1 hw).2.1⟩
  unfold fstH
  split
  ·exact ih.1
  ·exact List.pairwise_cons.2 ⟨ih.2,ih.1⟩
theorem zxC : ∀ {l : List (Rat×Nat)},SrtC l→AscP (frsP l)
 | [],_=>List.Pairwise.nil
 | y::r,hs=>by
  have hs':=List.pairwise_cons.1 hs
  have ih:=zuR (p:=y.1) hs'.2 (fun w hw=>(zbO.1 (hs'.1 w hw)).1)
  exact List.pairwise_cons.2 ⟨ih.2,ih.1⟩
theorem zx6 {z : Rat×Nat} : ∀ {l : List (Rat×Nat)},SrtC l→(z∈frsP l↔z∈l∧∀ w∈l,w.1=z.1→z.2≤w.2)
 | [],_=>⟨fun h=>(by cases h),fun h=>(by cases h.1)⟩
 | y::r,hs=>by
  have hs':=List.pairwise_cons.1 hs
  have hy : ∀ w∈r,y.1≤w.1:=fun w hw=>(zbO.1 (hs'.1 w hw)).1
  have hy2 : ∀ w∈r,w.1=y.1→y.2≤w.2:=fun w hw e=>(zbO.1 (hs'.1 w hw)).2 e
  show z∈y::fstH y.1 r↔_
  rw [List.mem_cons,zp0 hs'.2 hy]
  constructor
  ·rintro (e | ⟨h1,h2,h3⟩)
   ·subst e
    refine ⟨List.mem_cons_self ..,fun w hw e=>?_⟩
    rcases List.mem_cons.1 hw with e2 | hw
    ·rw [e2]; exact Nat.le_refl _
    ·exact hy2 w hw e
   ·refine ⟨List.mem_cons_of_mem _ h1,fun w hw e=>?_⟩
    rcases List.mem_cons.1 hw with e2 | hw
    ·rw [e2] at e; grind
    ·exact h3 w hw e
  ·rintro ⟨h1,h3⟩
   rcases List.mem_cons.1 h1 with e | h1
   ·exact .inl e
   ·by_cases hyz : y.1<z.1
    ·exact .inr ⟨h1,hyz,fun w hw e=>h3 w (List.mem_cons_of_mem _ hw) e⟩
    ·have e1 : z.1=y.1:=by have:=hy z h1; grind
     have k1:=h3 y (List.mem_cons_self ..) e1.symm
     have k2:=hy2 z h1 e1
     left
     exact Prod.ext e1 (by omega)
theorem zzs {lo hi : V} {E : List (V×V)} {p : Pc} (hp : p∈pcsL lo hi E) {l r : Rat} (hlr : l<r) (hn : ∀ z∈xsL lo hi (pcsL lo hi E),¬(l<z∧z<r)) : crsO lo hi l r p=(rcO lo hi ((l+r)/2) (p.a,p.b)).map fun y=>(y,p.i):=by
 obtain ⟨e,he⟩:=zw8 hp
 have hle:=zvN hp
 have ha:=hn p.a.x (zxg.2 (.inr (.inr (.inl ⟨p,hp,.inl rfl⟩))))
 have hb:=hn p.b.x (zxg.2 (.inr (.inr (.inl ⟨p,hp,.inr rfl⟩))))
 have m1 : l<(l+r)/2:=by grind
 have m2 : (l+r)/2<r:=by grind
 unfold crsO rcO
 by_cases hv : p.a.x=p.b.x
 ·rw [zrl hv,if_pos (show p.a=p.b∨p.a.x=p.b.x∨(l+r)/2<p.a.x∨p.b.x<(l+r)/2 from .inr (.inl hv))]
  rfl
 have hd : (p.b-p.a).x≠0:=fun h=>hv (by have : p.b.x-p.a.x=0:=h; grind)
 have hlt : p.a.x<p.b.x:=by
  unfold leP2 ltP2 at hle
  grind
 have none_of : ∀ x,(x<p.a.x∨p.b.x<x)→hgtO p x=none:=fun x hx=>by
  cases ho : hgtO p x with
  | none=>rfl
  | some y =>
   obtain ⟨_,t,⟨t0,t1⟩,et⟩:=zwX ho
   have ex : x=p.a.x+(p.b.x-p.a.x)*t:=congrArg V.x et
   have k1:=Rat.mul_nonneg (show 0≤p.b.x-p.a.x by grind) t0
   have k2:=Rat.mul_nonneg (show 0≤p.b.x-p.a.x by grind) (show 0≤1-t by grind)
   rcases hx with h | h <;> grind
 have some_of : ∀ x,p.a.x≤x→x≤p.b.x→∃ y,hgtO p x=some y∧hgtE p.a p.b x=(y,0)∧onS p.a p.b ⟨x,y⟩:=fun x h1 h2=>by
  have h0 : p.b.x-p.a.x≠0:=hd
  have hq:=Rat.div_mul_cancel (a:=x-p.a.x) h0
  obtain ⟨t,ht⟩ : ∃ t,t=(x-p.a.x)/(p.b.x-p.a.x):=⟨_,rfl⟩
  rw [←ht] at hq
  have t0 : 0≤t:=by
   refine Rat.not_lt.1 fun h=>?_
   have:=Rat.mul_pos (show 0 < -t by grind) (show 0<p.b.x-p.a.x by grind)
   grind
  have t1 : t≤1:=by
   refine Rat.not_lt.1 fun h=>?_
   have:=Rat.mul_pos (show 0<t-1 by grind) (show 0<p.b.x-p.a.x by grind)
   grind
  have hon : onS p.a p.b ⟨x,p.a.y+(p.b.y-p.a.y)*t⟩:=by
   refine ⟨t,⟨t0,t1⟩,?_⟩
   show (⟨x,_⟩ : V)=⟨p.a.x+(p.b.x-p.a.x)*t,p.a.y+(p.b.y-p.a.y)*t⟩
   congr 1
   grind
  have hE:=zv2 hd hon
  exact ⟨_,by rw [hgtO,hE]; rfl,hE,hon⟩
 by_cases ho : (l+r)/2<p.a.x∨p.b.x<(l+r)/2
 ·rw [if_pos (show p.a=p.b∨p.a.x=p.b.x∨(l+r)/2<p.a.x∨p.b.x<(l+r)/2 from .inr (.inr ho))]
  rcases ho with h | h
  ·rw [none_of l (.inl (by grind))]; rfl
  ·rw [none_of r (.inr (by grind))]
   cases hgtO p l <;> rfl
 ·have hna : p.a≠p.b:=he.ne
  rw [if_neg (show ¬(p.a=p.b∨p.a.x=p.b.x∨(l+r)/2<p.a.x∨p.b.x<(l+r)/2) from fun h=>h.elim hna (fun h=>h.elim hv ho))]
  obtain ⟨a,a1,_,a3⟩:=some_of l (by grind) (by grind)
  obtain ⟨b,b1,_,b3⟩:=some_of r (by grind) (by grind)
  have hm:=zA2 a3 b3
  have hE:=zv2 hd hm
  have iA:=(zzx he.ia he.ib a3).2
  have iB:=(zzx he.ia he.ib b3).2
  have iA1 : lo.y≤a:=iA.1
  have iA2 : a≤hi.y:=iA.2
  have iB1 : lo.y≤b:=iB.1
  have iB2 : b≤hi.y:=iB.2
  rw [a1,b1]
  show (if a=b∧(a=lo.y∨a=hi.y) then none else some ((a+b)/2,p.i))=Option.map _ (if (hgtE p.a p.b ((l+r)/2)).1=lo.y∨(hgtE p.a p.b ((l+r)/2)).1=hi.y then none else some (hgtE p.a p.b ((l+r)/2)).1)
  rw [show hgtE p.a p.b ((l+r)/2)=((a+b)/2,0) from hE]
  show _=Option.map _ (if (a+b)/2=lo.y∨(a+b)/2=hi.y then none else some ((a+b)/2))
  by_cases hc : a=b∧(a=lo.y∨a=hi.y)
  ·rw [if_pos hc,if_pos]
   ·rfl
   ·obtain ⟨e1,e2⟩:=hc
    rcases e2 with e2 | e2
    ·left; grind
    ·right; grind
  ·rw [if_neg hc,if_neg]
   ·rfl
   ·intro h
    refine hc ?_
    rcases h with h | h
    ·exact ⟨by grind,.inl (by grind)⟩
    ·exact ⟨by grind,.inr (by grind)⟩
theorem zBM {lo hi : V} {E : List (V×V)} {l r : Rat} (hlr : l<r) (hn : ∀ z∈xsL lo hi (pcsL lo hi E),¬(l<z∧z<r)) : (strI lo hi (parL lo hi E) ((l+r)/2) E.length).map (·.2)=zkL lo hi (pcsL lo hi E) l r:=by
 rw [zkL,←zx2]
 congr 1
 refine zv6 (znr ..) (zxC (zkx _)) fun z=>?_
 obtain ⟨y,i⟩:=z
 have key : ∀ {y i},(y,i)∈crsL lo hi (pcsL lo hi E) l r↔i<E.length∧((parL lo hi E)[i]?).bind (rcO lo hi ((l+r)/2))=some y:=fun {y i}=>by
  rw [crsL,List.mem_filterMap]
  constructor
  ·rintro ⟨p,hp,h⟩
   rw [zzs hp hlr hn] at h
   have hq:=zjj hp
   have hl:=(List.getElem?_eq_some_iff.1 hq.1).1
   rw [List.length_map] at hl
   cases hc : rcO lo hi ((l+r)/2) (p.a,p.b) with
   | none=>rw [hc] at h; cases h
   | some y' =>
    rw [hc] at h
    cases h
    exact ⟨hl,by rw [hq.1]; exact hc⟩
  ·rintro ⟨h1,h2⟩
   cases hs : (parL lo hi E)[i]? with
   | none=>rw [hs] at h2; cases h2
   | some s =>
    rw [hs] at h2
    have h2 : rcO lo hi ((l+r)/2) s=some y:=h2
    have hne : s.1≠s.2:=fun h=>by
     unfold rcO at h2
     rw [if_pos (.inl h)] at h2; cases h2
    have hp:=zoG.1 ⟨hs,hne⟩
    refine ⟨_,hp,?_⟩
    rw [zzs hp hlr hn]
    show (rcO lo hi ((l+r)/2) s).map _=_
    rw [h2]; rfl
 have hsm : ∀ {z},z∈sortC (crsL lo hi (pcsL lo hi E) l r)↔z∈crsL lo hi (pcsL lo hi E) l r:=fun {z}=>(zev _).mem_iff
 rw [zqJ,zx6 (zkx _),hsm,key]
 constructor
 ·rintro ⟨h1,h2,h3⟩
  refine ⟨⟨h1,h2⟩,fun w hw e=>?_⟩
  obtain ⟨w1,w2⟩:=w
  have e : w1=y:=e
  subst e
  have:=key.1 (hsm.1 hw)
  exact h3 w2 this.1 this.2
 ·rintro ⟨⟨h1,h2⟩,h3⟩
  exact ⟨h1,h2,fun j hj hy=>h3 (y,j) (hsm.2 (key.2 ⟨hj,hy⟩)) rfl⟩
theorem zmh {f g : Rat→Rat→List Nat} : ∀ {l : List Rat},(∀ c x y,l[c]?=some x→l[c+1]?=some y→f x y=g x y)→zbI f l=zbI g l
 | [],_=>rfl
 | [a],_=>rfl
 | a::b::r,h=>by
  unfold zbI
  rw [h 0 a b rfl rfl,zmh (l:=b::r) fun c x y hx hy=>h (c+1) x y hx hy]
end Go.Sx
end
section
set_option maxRecDepth 10000
set_option maxHeartbeats 4000000
namespace Go.Sx
open Go Go.Proofs
theorem zov {s t : V×V} (hs : SzV KP s.1∧SzV KP s.2) (ht : SzV KP t.1∧SzV KP t.2) : ∀ x∈zcF ⟨t.1,t.2,0⟩ ⟨s.1,s.2,0⟩,Sz KX x:=zuI (p:=⟨t.1,t.2,0⟩) (q:=⟨s.1,s.2,0⟩) ht hs
theorem zwu {lo hi : V} {P : List (V×V)} (hlo : SzV K0 lo) (hhi : SzV K0 hi) (hP : ∀ e∈P,SzV KP e.1∧SzV KP e.2) (n : Nat) : ∀ x∈absI lo hi P n,Sz KX x:=fun x hx=>by
 rcases zqp.1 hx with h | h | ⟨i,s,_,h2,_,h4⟩
 ·rw [h]; exact hlo.1.le (by decide)
 ·rw [h]; exact hhi.1.le (by decide)
 ·have hs:=hP s (List.mem_of_getElem? h2)
  rcases h4 with h | h | ⟨j,t,_,k2,_,k4⟩
  ·rw [h]; exact hs.1.1.le (by decide)
  ·rw [h]; exact hs.2.1.le (by decide)
  ·exact zov hs (hP t (List.mem_of_getElem? k2)) x k4
theorem zAv {P : List (V×V)} {s : V×V} {L : List Rat} (hP : ∀ e∈P,SzV KP e.1∧SzV KP e.2) (hs : SzV KP s.1∧SzV KP s.2) (hL : ∀ x∈L,Sz KX x) (k : Nat) : ∀ x∈absJ P s L k,Sz KX x:=fun x hx=>by
 rcases zqj.1 hx with h | ⟨j,t,_,k2,_,k4⟩
 ·exact hL x h
 ·exact zov hs (hP t (List.mem_of_getElem? k2)) x k4
theorem zqD {x : Rat} {l : List Rat} {k : Nat} (hx : Sz k x) (hl : ∀ y∈l,Sz k y) : ∀ y∈insU x l,Sz k y:=fun y hy=>by
 rcases zcJ.1 hy with h | h
 ·rw [h]; exact hx
 ·exact hl y h
theorem zaY {b o X j z : Nat} (h : X=j*12) : (some ⟨b,o+X+z,none⟩ : Option Addr)=(some (⟨b,o,none⟩ : Addr)).map (fun a=>a.add (j*12+z)):=by
 subst h; rw [Option.map_some,Addr.add_lit,Nat.add_assoc]
theorem zaO {b o X j : Nat} (h : X=j*12) : (some ⟨b,o+X,none⟩ : Option Addr)=(some (⟨b,o,none⟩ : Addr)).map (fun a=>a.add (j*12+0)):=zaY (z:=0) h
abbrev SlI (n : Nat):={p : Option Addr×Nat // n≤p.2}
def slIV {n : Nat} (p : SlI n) : Value:=.slice p.1.1 n p.1.2
def slIR {n : Nat} (xs : List Value) (p : SlI n) : List Res:=[zaf p.1.1 xs]
theorem zoi {A : Option Addr} {xs : List Value} {w : World} (h : SlF A xs w) (hx : 0<xs.length) : ∃ b o,A=some ⟨b,o,none⟩:=by
 rcases h with h | ⟨b,o,e,_⟩
 ·rw [h] at hx; cases hx
 ·exact ⟨b,o,e⟩
theorem zok (lo hi : V) (B : Option Addr) (cB : Nat) (P : List (V×V)) (hlo : SzV K0 lo) (hhi : SzV K0 hi) (hx : lo.x<hi.x) (hP : ∀ e∈P,SzV KP e.1∧SzV KP e.2) (hl : P.length≤400) :
   FnM PP zb2 [bxV ⟨PQ lo,PQ hi⟩,.slice B P.length cB] (facts [zaf B (rowV sgq P)]) (zhU (ι:=SlI (absI lo hi P P.length).length) slIV (slIR (rowV ratQ (absI lo hi P P.length)))):=by
 refine FnE.ofS zab mixed zeo rfl rfl (Nat.le_of_ble_eq_true rfl) (by simp [zaf.ok]) ?_
 intro w hw
 obtain ⟨n,hn⟩ : ∃ n,n=P.length:=⟨_,rfl⟩
 have hB : 0<n→∃ b o,B=some ⟨b,o,none⟩:=fun h=>zoi (zaK hw) (by rw [zag zaN]; omega)
 rw [←hn] at hl ⊢
 refine WPS.peel zab mixed ?_
 conv=>whnf
 refine WPS.peel zab mixed ?_
 conv=>whnf
 refine WPS.seq ?_
 refine WPS.peel zab mixed ?_
 conv=>whnf
 refine WPS.block ?_
 refine WPS.le ?_ (SLe.own 5 17 3 zaq 3 2 rfl rfl rfl rfl (by decide) rfl rfl)
 refine WPS.ofX (SLX.freezeF 3 rfl (fun A0 c0 hc0 hf0=>SLX.here ?_))
 refine WPS.loop (ι:=Nat×Option Addr×Nat) (fun ⟨i,A,c⟩=>⟨[(1,.o (.v (.slice B n cB))),(5,.o (.v (.slice A (absI lo hi P i).length c))),(6,.o (.v (.int .i64 i)))],[],[zaf B (rowV sgq P),zaf A (rowV ratQ (absI lo hi P i))]⟩)
   (fun ⟨i,A,c⟩=>i≤n∧(absI lo hi P i).length≤c∧Fr w A) (fun ⟨i,_⟩=>n-i) (0,A0,c0) ⟨Nat.zero_le _,hc0,hf0⟩
   (SLe.id ⟨rfl,rfl,rfl,trivial⟩ trivial (fun R hR=>by
     rcases List.mem_cons.1 hR with rfl | hR
     · exact List.mem_cons_of_mem _ (List.mem_cons_self ..)
     · rw [List.mem_singleton.1 hR]; exact List.mem_cons_self ..)) ?_
 rintro ⟨i,A,c⟩ ⟨hi0,hc,hfr⟩
 have zI:=zwu hlo hhi hP i
 have aI:=zh9 hx P i
 have lI:=zp4 lo hi P i (by omega)
 refine WPS.peel zab mixed ?_
 conv=>whnf
 by_cases hin : i<n
 rotate_left
 · refine zae (decide_eq_false (show ¬(i : Int)<(n : Int) by omega)) ?_
   obtain rfl : i=n:=by omega
   refine WPS.of zab mixed ?_
   conv=>whnf
   intro N E w' hm
   refine ⟨⟨(A,c),hc⟩,rfl,fun R hR=>?_,fun R hR b hb=>?_⟩
   · rw [List.mem_singleton.1 hR]; exact (hm.res _ (List.mem_cons_of_mem _ (List.mem_cons_self ..))).2.1
   · rw [List.mem_singleton.1 hR] at hb; exact hfr.bs b hb
 refine zai (decide_eq_true (show (i : Int)<(n : Int) by omega)) ?_
 conv=>whnf
 obtain ⟨e,he⟩ : ∃ e,P[i]?=some e:=⟨_,List.getElem?_eq_getElem (by omega)⟩
 have heo:=hP e (List.mem_of_getElem? he)
 obtain ⟨bB,oB,rfl⟩:=hB (by omega)
 refine WPS.seq ?_
 refine WPS.block ?_
 refine WPS.peel zab mixed ?_
 conv=>whnf
 refine ⟨⟨by omega,by omega,rfl⟩,?_⟩
 rw [Option.map_some,Addr.add_lit]
 conv=>whnf
 refine zao.fld (o:=0) sgq zaN (List.mem_cons_self ..) he (by first | exact zaY rfl | exact zaO rfl) (by decide) (by decide) (fun h=>by cases h) ?_
 conv=>whnf
 refine cf (zuw e.1 e.2) ?_
 conv=>whnf
 have wi : some (SV.o (.v (.int .i64 (IntKind.i64.wrap ((i : Int)+1)))))=some (SV.o (.v (.int .i64 ((i+1 : Nat) : Int)))):=zan hin (by omega)
 by_cases hne : e.1=e.2
 · refine zai (decide_eq_true hne) ?_
   conv=>whnf
   have hI : absI lo hi P (i+1)=absI lo hi P i:=by rw [absI,he]; exact if_pos hne
   refine WPS.of zab mixed ?_
   conv=>whnf
   refine ⟨(i+1,A,c),⟨by omega,by rw [hI]; exact hc,hfr⟩,by show n-(i+1)<n-i; omega,SLe.id ⟨rfl,by rw [hI]; rfl,wi,trivial⟩ trivial (fun R hR=>by change R∈[_,zaf _ (rowV ratQ (absI lo hi P (i+1)))] at hR; rw [hI] at hR; exact hR)⟩
 refine zae (decide_eq_false hne) ?_
 conv=>whnf
 obtain ⟨L0,hL0⟩ : ∃ L0,L0=insU e.2.x (insU e.1.x (absI lo hi P i)):=⟨_,rfl⟩
 have hI : absI lo hi P (i+1)=absJ P e L0 i:=by rw [absI,he,hL0]; exact if_neg hne
 have z1 : Sz KX e.1.x:=heo.1.1.le (by decide)
 have z2 : Sz KX e.2.x:=heo.2.1.le (by decide)
 have zI1:=zqD z1 zI
 have zL0 : ∀ y∈L0,Sz KX y:=by rw [hL0]; exact zqD z2 zI1
 have aI1 : Asc (insU e.1.x (absI lo hi P i)):=zcm aI
 have aL0 : Asc L0:=by rw [hL0]; exact zcm aI1
 have lI1:=zcL e.1.x (absI lo hi P i)
 have lL0:=zcL e.2.x (insU e.1.x (absI lo hi P i))
 rw [←hL0] at lL0
 have up : ∀ {l : List Rat},(∀ y∈l,Sz KX y)→∀ y∈l,Sz KV y:=fun h y hy=>(h y hy).le (by decide)
 refine WPS.seq ?_
 refine WPS.drawT zab mixed [] (14+4294967296*8) zy3 (K:=fun st=>∃ A c,L0.length≤c∧Fr w A∧SLe ⟨w,[],zbc.ntmps⟩ st ⟨[(1,.o (.v (.slice (some ⟨bB,oB,none⟩) n cB))),(5,.o (.v (.slice A L0.length c))),(6,.o (.v (.int .i64 i)))],[],[zaf (some ⟨bB,oB,none⟩) (rowV sgq P),zaf A (rowV ratQ L0)]⟩) (by kernel_rfl) ?_ ?_
 · have hix : (0 : Int)≤(i : Int)∧(i : Int)<(n : Int)∧(some (⟨bB,oB,none⟩ : Addr)).isSome=true:=⟨by omega,by omega,rfl⟩
   conv=>whnf
   repeat' (first
     | exact True.intro
     | (refine And.intro ?_ ?_ <;> (conv=>whnf))
     | (refine ⟨hix,?_⟩; rw [Option.map_some,Addr.add_lit]; conv=>whnf)
     | (refine zao.fld (o:=0) sgq zaN (by first | exact List.mem_cons_self .. | exact List.mem_cons_of_mem _ (List.mem_cons_self ..)) he (by first | exact zaY rfl | exact zaO rfl) (by decide) (by decide) (fun h=>by cases h) ?_; conv=>whnf)
     | (refine zao.fld (o:=6) sgq zaN (by first | exact List.mem_cons_self .. | exact List.mem_cons_of_mem _ (List.mem_cons_self ..)) he (by first | exact zaY rfl | exact zaO rfl) (by decide) (by decide) (fun h=>by cases h) ?_; conv=>whnf)
     | (refine zac.ins (l:=absI lo hi P i) (x:=e.1.x) aI (z1.le (by decide)) (up zI) (by omega) hc (List.mem_cons_of_mem _ (List.mem_cons_self ..)) hfr (fun A' c' hc' hfr'=>?_) rfl rfl; conv=>whnf)
     | (refine zac.ins (l:=insU e.1.x (absI lo hi P i)) (x:=e.2.x) aI1 (z2.le (by decide)) (up zI1) (by omega) (by assumption) (List.mem_cons_self ..) (by assumption) (fun A' c' hc' hfr'=>?_) rfl rfl; rw [←hL0] at *; conv=>whnf)
     | (refine ⟨_,_,?_,?_,SLe.id ⟨rfl,rfl,rfl,trivial⟩ trivial (fun R hR=>?_)⟩
        · assumption
        · assumption
        · rcases List.mem_cons.1 hR with rfl | hR
          · exact List.mem_cons_of_mem _ (List.mem_cons_of_mem _ (List.mem_cons_self ..))
          · rw [List.mem_singleton.1 hR]; exact List.mem_cons_self ..))
 rintro st ⟨A1,c1,hc1,hfr1,hst⟩
 refine WPS.le ?_ hst
 refine WPS.peel zab mixed ?_
 conv=>whnf
 refine WPS.block ?_
 refine WPS.loop (ι:=Nat×Option Addr×Nat) (fun ⟨k,A,c⟩=>⟨[(1,.o (.v (.slice (some ⟨bB,oB,none⟩) n cB))),(5,.o (.v (.slice A (absJ P e L0 k).length c))),(6,.o (.v (.int .i64 i))),(7,.o (.v (.int .i64 k)))],[],[zaf (some ⟨bB,oB,none⟩) (rowV sgq P),zaf A (rowV ratQ (absJ P e L0 k))]⟩)
   (fun ⟨k,A,c⟩=>k≤i∧(absJ P e L0 k).length≤c∧Fr w A) (fun ⟨k,_⟩=>i-k) (0,A1,c1) ⟨Nat.zero_le _,hc1,hfr1⟩
   (SLe.id ⟨rfl,rfl,rfl,rfl,trivial⟩ trivial (fun R hR=>hR)) ?_
 rintro ⟨k,A2,c2⟩ ⟨hk0,hc2,hfr2⟩
 have zJ:=zAv hP heo zL0 k
 have aJ:=znv (P:=P) (s:=e) aL0 k
 have lJ:=zqu P e L0 k
 refine WPS.peel zab mixed ?_
 conv=>whnf
 by_cases hki : k<i
 rotate_left
 · refine zae (decide_eq_false (show ¬(k : Int)<(i : Int) by omega)) ?_
   obtain rfl : k=i:=by omega
   conv=>whnf
   refine WPS.of zab mixed ?_
   conv=>whnf
   exact ⟨(k+1,A2,c2),⟨by omega,by rw [hI]; exact hc2,hfr2⟩,by show n-(k+1)<n-k; omega,SLe.id ⟨rfl,by rw [hI]; rfl,wi,trivial⟩ trivial (fun R hR=>by change R∈[_,zaf _ (rowV ratQ (absI lo hi P (k+1)))] at hR; rw [hI] at hR; exact hR)⟩
 refine zai (decide_eq_true (show (k : Int)<(i : Int) by omega)) ?_
 conv=>whnf
 obtain ⟨t,ht⟩ : ∃ t,P[k]?=some t:=⟨_,List.getElem?_eq_getElem (by omega)⟩
 have hto:=hP t (List.mem_of_getElem? ht)
 have wk : some (SV.o (.v (.int .i64 (IntKind.i64.wrap ((k : Int)+1)))))=some (SV.o (.v (.int .i64 ((k+1 : Nat) : Int)))):=zan hki (by omega)
 refine WPS.seq ?_
 refine WPS.block ?_
 refine WPS.peel zab mixed ?_
 conv=>whnf
 refine ⟨⟨by omega,by omega,rfl⟩,?_⟩
 rw [Option.map_some,Addr.add_lit]
 conv=>whnf
 refine zao.fld (o:=0) sgq zaN (List.mem_cons_self ..) ht (by first | exact zaY rfl | exact zaO rfl) (by decide) (by decide) (fun h=>by cases h) ?_
 conv=>whnf
 refine cf (zuw t.1 t.2) ?_
 conv=>whnf
 have hJ : absJ P e L0 (k+1)=absK e t (absJ P e L0 k):=by rw [absJ,ht]
 by_cases htn : t.1=t.2
 · refine zai (decide_eq_true htn) ?_
   conv=>whnf
   have hJ' : absJ P e L0 (k+1)=absJ P e L0 k:=by rw [hJ]; exact if_pos htn
   refine WPS.of zab mixed ?_
   conv=>whnf
   exact ⟨(k+1,A2,c2),⟨by omega,by rw [hJ']; exact hc2,hfr2⟩,by show i-(k+1)<i-k; omega,SLe.id ⟨rfl,by rw [hJ']; rfl,rfl,wk,trivial⟩ trivial (fun R hR=>by change R∈[_,zaf _ (rowV ratQ (absJ P e L0 (k+1)))] at hR; rw [hJ'] at hR; exact hR)⟩
 refine zae (decide_eq_false htn) ?_
 conv=>whnf
 refine WPS.peel zab mixed ?_
 conv=>whnf
 refine zaj.lateAt 17 [(14,8,[11,12])] (by kernel_rfl) ?_
 conv=>whnf
 refine ⟨⟨by omega,by omega,rfl⟩,?_⟩
 rw [Option.map_some,Addr.add_lit]
 conv=>whnf
 refine zao.fld (o:=0) sgq zaN (List.mem_cons_self ..) ht (by first | exact zaY rfl | exact zaO rfl) (by decide) (by decide) (fun h=>by cases h) ?_
 conv=>whnf
 refine ⟨⟨by omega,by omega,rfl⟩,?_⟩
 rw [Option.map_some,Addr.add_lit]
 conv=>whnf
 refine zao.fld (o:=0) sgq zaN (List.mem_cons_self ..) he (by first | exact zaY rfl | exact zaO rfl) (by decide) (by decide) (fun h=>by cases h) ?_
 conv=>whnf
 have hdt : ¬zb5 ⟨PQ t.1,PQ t.2⟩:=fun h=>htn (by have:=zca.1 h; simpa using this)
 have hde : ¬zb5 ⟨PQ e.1,PQ e.2⟩:=fun h=>hne (by have:=zca.1 h; simpa using this)
 refine cd (zBn ⟨PQ t.1,PQ t.2⟩ ⟨PQ e.1,PQ e.2⟩ ⟨hto.1.q.le (by decide),hto.2.q.le (by decide)⟩ ⟨heo.1.q.le (by decide),heo.2.q.le (by decide)⟩) ?_
 rw [zrb,if_neg (fun h=>h.elim hdt hde),show (⟨PQ t.1,PQ t.2⟩ : Sg).A.v=t.1 from PQ_v _,show (⟨PQ t.1,PQ t.2⟩ : Sg).B.v=t.2 from PQ_v _,show (⟨PQ e.1,PQ e.2⟩ : Sg).A.v=e.1 from PQ_v _,show (⟨PQ e.1,PQ e.2⟩ : Sg).B.v=e.2 from PQ_v _]
 cases hm : zbX t.1 t.2 e.1 e.2 with
 | none =>
   have hJ' : absJ P e L0 (k+1)=absJ P e L0 k:=by rw [hJ,absK,if_neg htn,hm]
   conv=>whnf
   refine WPS.of zab mixed ?_
   conv=>whnf
   refine WPS.of zab mixed ?_
   conv=>whnf
   exact ⟨(k+1,A2,c2),⟨by omega,by rw [hJ']; exact hc2,hfr2⟩,by show i-(k+1)<i-k; omega,SLe.id ⟨rfl,by rw [hJ']; rfl,rfl,wk,trivial⟩ trivial (fun R hR=>by change R∈[_,zaf _ (rowV ratQ (absJ P e L0 (k+1)))] at hR; rw [hJ'] at hR; exact hR)⟩
 | some mn =>
   obtain ⟨m1,m2⟩:=mn
   obtain ⟨L1,hL1⟩ : ∃ L1,L1=insU m2.x (insU m1.x (absJ P e L0 k)):=⟨_,rfl⟩
   have hJ' : absJ P e L0 (k+1)=L1:=by rw [hJ,absK,if_neg htn,hm,hL1]
   have hmx:=zov heo hto
   have y1 : Sz KX m1.x:=hmx _ (by unfold zcF; rw [hm]; exact List.mem_cons_self ..)
   have y2 : Sz KX m2.x:=hmx _ (by unfold zcF; rw [hm]; exact List.mem_cons_of_mem _ (List.mem_singleton.2 rfl))
   have zJ1:=zqD y1 zJ
   have aJ1 : Asc (insU m1.x (absJ P e L0 k)):=zcm aJ
   have lJ1:=zcL m1.x (absJ P e L0 k)
   conv=>whnf
   refine WPS.peel zab mixed ?_
   conv=>whnf
   refine WPS.cond rfl (fun _=>?_) (fun h=>by cases h)
   refine WPS.drawT zab mixed [] (8+4294967296*5) zy5 (K:=fun st=>∃ A c,L1.length≤c∧Fr w A∧SLe ⟨w,[],zbc.ntmps⟩ st ⟨[(1,.o (.v (.slice (some ⟨bB,oB,none⟩) n cB))),(5,.o (.v (.slice A L1.length c))),(6,.o (.v (.int .i64 i))),(7,.o (.v (.int .i64 k)))],[],[zaf (some ⟨bB,oB,none⟩) (rowV sgq P),zaf A (rowV ratQ L1)]⟩) (by kernel_rfl) ?_ ?_
   · conv=>whnf
     repeat' (first
       | exact True.intro
       | (refine And.intro ?_ ?_ <;> (conv=>whnf))
       | (refine zac.ins (l:=absJ P e L0 k) (x:=m1.x) aJ (y1.le (by decide)) (up zJ) (by omega) hc2 (List.mem_cons_of_mem _ (List.mem_cons_self ..)) hfr2 (fun A' c' hc' hfr'=>?_) rfl rfl; conv=>whnf)
       | (refine zac.ins (l:=insU m1.x (absJ P e L0 k)) (x:=m2.x) aJ1 (y2.le (by decide)) (up zJ1) (by omega) (by assumption) (List.mem_cons_self ..) (by assumption) (fun A' c' hc' hfr'=>?_) rfl rfl; rw [←hL1] at *; conv=>whnf)
       | (refine ⟨_,_,?_,?_,SLe.id ⟨rfl,rfl,rfl,rfl,trivial⟩ trivial (fun R hR=>?_)⟩
          · assumption
          · assumption
          · rcases List.mem_cons.1 hR with rfl | hR
            · exact List.mem_cons_of_mem _ (List.mem_cons_of_mem _ (List.mem_cons_self ..))
            · rw [List.mem_singleton.1 hR]; exact List.mem_cons_self ..))
   rintro st ⟨A3,c3,hc3,hfr3,hst⟩
   refine WPS.le ?_ hst
   refine WPS.of zab mixed ?_
   conv=>whnf
   exact ⟨(k+1,A3,c3),⟨by omega,by rw [hJ']; exact hc3,hfr3⟩,by show i-(k+1)<i-k; omega,SLe.id ⟨rfl,by rw [hJ']; rfl,rfl,wk,trivial⟩ trivial (fun R hR=>by change R∈[_,zaf _ (rowV ratQ (absJ P e L0 (k+1)))] at hR; rw [hJ'] at hR; exact hR)⟩
end Go.Sx
end
