/- A part of the proof of a law. No conditions. -/
import Derived.Test.YtcmekchbdbakgaaGreatM7
import Derived.Test.YtcmekchbdbakgaaGreatM6
import Derived.KernelRfl
set_option linter.unusedVariables false
set_option linter.unusedSimpArgs false
set_option linter.unusedSectionVars false
set_option maxRecDepth 10000
set_option maxHeartbeats 8000000
section
namespace Go.Sx
open Go Go.Proofs
def ziv (s : Sl) (x : Cel) : Rat :=
 let X:=s.X.xs.getD x.c 0
 let Y:=s.X.xs.getD (x.c+1) 0
 let t:=s.S.xs.getD x.c ⟨none,0,[]⟩
 if x.k=3 then ((zaJ s t ((X+Y)/2)).getD (x.r+1) 0-(zaJ s t ((X+Y)/2)).getD x.r 0)*(Y-X) else 0
theorem zq0 (s : Sl) (x : Cel) (hs : s.small) (hz : s.sz) (hzx : s.szX) (hk : x.k<4) (hx : (x.r : Int)<cntK s x.k x.c) : FnM PP 29 [s.V,x.V] (facts s.F) (zaR (.tuple #[qV (ziv s x),.int .i64 0])):=by
 refine zzo zab mixed Tryz.func29 rfl rfl (zxW rfl) s.F_ok ?_;intro w hw;obtain ⟨k,c,r⟩:=x;replace hx : (r : Int)<cntK s k c:=hx;replace hk : k<4:=hk;have hs':=hs;obtain ⟨s1,s2,s3,s4,s5,s6⟩:=hs';have hk' : k=0\/k=1\/k=2\/k=3:=by omega
 have hc : c<=1000000:=by
  rcases hk' with rfl | rfl | rfl | rfl
  ·obtain ⟨l,x,h1,h2,h3⟩:=zaZ hx; have:=(zyz.1 h1).1; omega
  ·obtain ⟨l,x,h1,h2,h3⟩:=zaZ hx; have:=(zyz.1 h1).1; omega
  ·obtain ⟨l,x,y,h1,h2,h3⟩:=zaG hx; have:=(zyz.1 h1).1; omega
  ·obtain ⟨l,x,y,h1,h2,h3⟩:=zaG hx; have:=(zyz.1 h1).1; omega
 have his:=ziL s ⟨k,c,r⟩ hs ⟨hk,hc⟩;rw [zz8 hx] at his;have hw1 : ∀ {n : Nat},n<=1000000000->IntKind.i64.wrap ((n : Int)+1)=((n+1 : Nat) : Int):=fun h=>by rw [wrap_i64 (by omega) (by omega)]; rfl
 have h0 : ∀ k : Nat,k≠3->ziv s ⟨k,c,r⟩=0:=fun k hk=>zxI hk
 conv=>whnf
 refine cfs his ?_;rcases hk' with rfl | rfl | rfl | rfl
 ·conv=>whnf
  refine zau ?_;rw [h0 0 (by decide),q0]
 ·conv=>whnf
  refine zau ?_;rw [h0 1 (by decide),q0]
 ·conv=>whnf
  refine zau ?_;rw [h0 2 (by decide),q0]
 obtain ⟨t,x,y,h1,h2,h3,h4,h5⟩:=zaG hx;have:=s5 t (zyq h1);have zx:=hzx.X x (zyq h2);have zy:=hzx.X y (zyq h3);have zm : Sz KY ((x+y)/2):=((zx.add zy).div (show Sz 2 (2 : Rat) from ⟨by decide,by decide⟩)).le (by decide);have h6:=(zyz.1 h2).1;have h7:=(zyz.1 h3).1;have hAX : s.X.A.isSome=true:=zam (hw _ zBY) (by rw [zad zas]; omega);have hon:=c_on s c r t ((x+y)/2) hs hz h1 zm (by omega);have hon':=c_on s c (r+1) t ((x+y)/2) hs hz h1 zm (by omega);rw [<-hw1 (n:=r) (by omega)] at hon';have har : ziv s ⟨3,c,r⟩=((onP s t (r+1) ((x+y)/2)).y-(onP s t r ((x+y)/2)).y)*(y-x):=by
  simp only [ziv]; rw [zxJ trivial,zah h2,zah h3,zah h1]; rfl
 have zp:=zfC hz (l:=t) (row:=r) zm;have zp':=zfC hz (l:=t) (row:=r+1) zm;conv=>whnf
 refine zy4 [(15,6,[6,7,8,9,10,11,12])] (by kernel_rfl) ?_;conv=>whnf
 refine ⟨⟨show (0 : Int)<=(c : Int) by omega,show (c : Int)<(s.X.xs.length : Int) by omega,hAX⟩,?_⟩;conv=>whnf
 refine zan.nat (A:=s.X.A) ratQ zas zBY rfl h2 ?_;obtain ⟨x',rfl⟩ : ∃ z,z=x:=⟨_,rfl⟩;conv=>whnf
 refine ⟨⟨show 0<=IntKind.i64.wrap ((c : Int)+1) by rw [hw1 (by omega)]; omega,show IntKind.i64.wrap ((c : Int)+1)<(s.X.xs.length : Int) by rw [hw1 (by omega)]; omega,hAX⟩,?_⟩;conv=>whnf
 refine zan.nat (A:=s.X.A) ratQ zas zBY (zyr (fun z : Int=>s.X.A.map (fun a=>a.add (z.toNat*3))) (hw1 (n:=c) (by omega))) h3 ?_;obtain ⟨y',rfl⟩ : ∃ z,z=y:=⟨_,rfl⟩;conv=>whnf
 refine cf (zkR x' y' (zx.le (by decide)) (zy.le (by decide))) ?_;conv=>whnf
 refine zak.qk ?_;conv=>whnf
 refine cds hon' ?_;conv=>whnf
 refine cds hon ?_;conv=>whnf
 have hsub:=zec (Q (onP s t (r+1) ((x'+y')/2)).y) (Q (onP s t r ((x'+y')/2)).y) (zp'.2.q.le (by decide)) (zp.2.q.le (by decide));have hdx:=zec (Q y') (Q x') (zy.q.le (by decide)) (zx.q.le (by decide));rw [Q_v,Q_v] at hsub hdx;have hmul:=ziQ (Q ((onP s t (r+1) ((x'+y')/2)).y-(onP s t r ((x'+y')/2)).y)) (Q (y' - x')) ((zp'.2.sub zp.2).q.le (by decide)) ((zy.sub zx).q.le (by decide));rw [Q_v,Q_v] at hmul;refine cd hsub ?_;conv=>whnf
 refine zak.qk ?_;conv=>whnf
 refine cd hdx ?_;conv=>whnf
 refine cd hmul ?_;conv=>whnf
 refine zau ?_;rw [har]
end Go.Sx
end
section
namespace Go.Sx
abbrev zCd:=@List.getElem?_of_mem
theorem zba {l : List Rat} (h : Asc l) {i j : Nat} {x y : Rat} (hi : l[i]?=some x) (hj : l[j]?=some y) (hij : i<j) : x<y:=by
 obtain ⟨h1,rfl⟩:=zyz.1 hi;obtain ⟨h2,rfl⟩:=zyz.1 hj;exact (List.pairwise_iff_getElem.1 h) i j h1 h2 hij
theorem Sl.is_asc {s : Sl} (h : s.is) : Asc s.X.xs:=by rw [h.1]; exact zdt _
theorem zvp {lo hi : V} {E : List (V×V)} (hx : lo.x<=hi.x) : ∀ x∈xsL lo hi (pcsL lo hi E),lo.x<=x/\x<=hi.x:=fun x hm=>by
 rw [xsL,zbv] at hm;rcases zy1.1 hm with rfl | hm
 ·exact ⟨zBR,hx⟩
 rcases zy1.1 hm with rfl | hm
 ·exact ⟨hx,zBR⟩
 have key : ∀ i,x∈absG (pcsL lo hi E) i->lo.x<=x/\x<=hi.x:=fun i=>by
  induction i with
  | zero=>intro h; cases h
  | succ i ih =>
   intro h;rcases zyK.1 h with h | h
   ·exact ih h
   ·split at h
    ·rename_i p hp;have hpm:=zyq hp;obtain ⟨e,hpe⟩:=zdA hpm;rcases zy1.1 h with rfl | h
     ·exact hpe.ia.1
     rcases zy1.1 h with rfl | h
     ·exact hpe.ib.1
     obtain ⟨q,hq,h⟩:=zBP.1 h;obtain ⟨e',hqe⟩:=zdA (zxP hq);unfold zce at h;split at h
     ·rename_i m n hmn;obtain ⟨o1,_,o2,_⟩:=(zdT hpe.ne hqe.ne).1 _ hmn;simp only [zy1,zBL,or_false] at h;rcases h with rfl | rfl
      ·exact (zd6 hpe.ia hpe.ib o1).1
      ·exact (zd6 hpe.ia hpe.ib o2).1
     ·cases h
    ·cases h
 exact key _ hm
theorem Sl.is_first {s : Sl} (h : s.is) (hx : s.lo.x<=s.hi.x) : s.X.xs[0]?=some s.lo.x:=by
 obtain ⟨_,_,e3⟩:=Sl.is_len h;obtain ⟨x,h0⟩ : ∃ x,s.X.xs[0]?=some x:=⟨_,zyy e3⟩;have hm : s.lo.x∈s.X.xs:=by rw [h.1]; exact zbv.2 (zxA ..)
 obtain ⟨j,hj⟩:=zCd hm;have h1 : s.lo.x<=x:=by
  have:=zyq h0;rw [h.1] at this;exact (zvp hx x this).1
 by_cases hj0 : j=0
 ·rw [hj0] at hj; exact hj
 ·have:=zba (Sl.is_asc h) h0 hj (by omega);rw [h0]; congr 1; grind
theorem Sl.is_last {s : Sl} (h : s.is) (hx : s.lo.x<=s.hi.x) : s.X.xs[s.X.xs.length-1]?=some s.hi.x:=by
 obtain ⟨_,_,e3⟩:=Sl.is_len h;obtain ⟨x,h0⟩ : ∃ x,s.X.xs[s.X.xs.length-1]?=some x:=⟨_,zyy (by omega)⟩;have hm : s.hi.x∈s.X.xs:=by rw [h.1]; exact zbv.2 (zxB _ (zxA ..))
 obtain ⟨j,hj⟩:=zCd hm;have hjl:=(zyz.1 hj).1;have h1 : x<=s.hi.x:=by
  have:=zyq h0;rw [h.1] at this;exact (zvp hx x this).2
 by_cases hj0 : j=s.X.xs.length-1
 ·rw [hj0] at hj; exact hj
 ·have:=zba (Sl.is_asc h) hj h0 (by omega);rw [h0]; congr 1; grind
theorem zhy {f : Rat->Rat->List Nat} : ∀ {l : List Rat} {c : Nat} {x y : Rat},l[c]?=some x->l[c+1]?=some y->(zbC f l)[c]?=some (f x y)
 | [],c,x,y,h,_=>by cases h
 | [_],c,x,y,_,h=>by cases c <;> cases h
 | a::b::r,0,x,y,h,k=>by cases h; cases k; rfl
 | a::b::r,c+1,x,y,h,k=>by
  simp only [zbC,zB3] at h k ⊢;exact zhy (l:=b::r) h k
theorem Sl.is_strip_at {s : Sl} (h : s.is) {c : Nat} {x y : Rat} {t : Ln Nat} (hx : s.X.xs[c]?=some x) (hy : s.X.xs[c+1]?=some y) (ht : s.S.xs[c]?=some t) : t.xs=zdN s.lo s.hi (pcsL s.lo s.hi s.sg.xs) x y:=by
 have h1:=zhy (f:=zdN s.lo s.hi (pcsL s.lo s.hi s.sg.xs)) hx hy;rw [<-h.2.2,zx4,ht] at h1;exact zz1 h1
theorem zrP {s : Sl} (hy : s.lo.y<s.hi.y) {t : Ln Nat} {l r : Rat} (ht : t.xs=zdN s.lo s.hi (pcsL s.lo s.hi s.sg.xs) l r) : Asc (zaJ s t ((l+r)/2)):=by
 unfold zaJ;rw [ht];exact zqY (zee _) (fun x hx=>by
  have:=zoK ((zb0 _).mem_iff.1 hx);exact ⟨this.1,this.2.1,this.2.2⟩) hy
def pcB (lo hi : V) (e : V×V) : Option (V×V):=match zch ⟨PQ lo,PQ hi⟩ e.1 e.2 with
 | none=>none
 | some (c,d)=>if c=d then none else some (ordV c d)
theorem zvf (lo hi : V) (e : V×V) (i : Nat) : (pcsO lo hi e i).map (fun p=>(p.a,p.b))=pcB lo hi e:=by
 unfold pcsO pcB
 cases zch ⟨PQ lo,PQ hi⟩ e.1 e.2 with
 | none=>rfl
 | some p =>
  obtain ⟨c,d⟩:=p;simp only;by_cases h : c=d
  ·rw [zxJ h,zxJ h]; rfl
  ·rw [zxI h,zxI h]; rfl
theorem zwI (lo hi : V) (E : List (V×V)) : (pcsL lo hi E).map (fun p=>(p.a,p.b))=E.filterMap (pcB lo hi):=by
 have : ∀ (l : List (V×V)) (i : Nat),(pcsF lo hi i l).map (fun p=>(p.a,p.b))=l.filterMap (pcB lo hi):=fun l=>by
  induction l with
  | nil=>intro i; rfl
  | cons e r ih =>
   intro i;have h:=zvf lo hi e i;rw [pcsF,zzL,ih,List.filterMap_cons,<-h]
   cases pcsO lo hi e i <;> rfl
 exact this E 0
theorem zkp {a b c d : V} (hab : a≠b) (hcd : c≠d) : zbV c d a b=zbV a b c d:=by
 obtain ⟨s1,n1⟩:=zdT hab hcd;obtain ⟨s2,n2⟩:=zdT hcd hab
 cases h1 : zbV a b c d with
 | none =>
  cases h2 : zbV c d a b with
  | none=>rfl
  | some y=>obtain ⟨k1,k2,_⟩:=s2 y h2; exact (n1 h1 y.1 k2 k1).elim
 | some x =>
  obtain ⟨x1,x2,x3,x4,x5,x6⟩:=s1 x h1
  cases h2 : zbV c d a b with
  | none=>exact (n2 h2 x.1 x2 x1).elim
  | some y =>
   obtain ⟨y1,y2,y3,y4,y5,y6⟩:=s2 y h2;have a1:=(x6 y.1 y2 y1).1;have a2:=(y6 x.1 x2 x1).1;have b1:=(x6 y.2 y4 y3).2;have b2:=(y6 x.2 x4 x3).2;rw [show y=x from zxo (zdz a2 a1) (zdz b1 b2)]
theorem zkZ {a b : V} (hab : a≠b) (h : leP2 a b) : zbV a b a b=some (a,b):=by
 obtain ⟨s1,n1⟩:=zdT hab hab
 cases h1 : zbV a b a b with
 | none=>exact (n1 h1 a (zeO a b) (zeO a b)).elim
 | some x =>
  obtain ⟨x1,x2,x3,x4,x5,x6⟩:=s1 x h1;have a1:=(x6 a (zeO a b) (zeO a b)).1;have b1:=(x6 b (zfF a b) (zfF a b)).2;have a2:=(znu h x1).1;have b2:=(znu h x3).2;rw [show x=(a,b) from zxo (zdz a1 a2) (zdz b2 b1)]
theorem zu0 (a b : V) : leP2 (ordV a b).1 (ordV a b).2:=by
 unfold ordV;split
 ·rename_i h; show leP2 b a; exact zb8.1 (by rw [zmy a b]; omega)
 ·rename_i h; show leP2 a b; exact zb8.1 (by omega)
theorem zkh {lo hi : V} {E : List (V×V)} {p : Pc} (hp : p∈pcsL lo hi E) : leP2 p.a p.b:=by
 have h1 : (p.a,p.b)∈(pcsL lo hi E).map fun p=>(p.a,p.b):=zx1.2 ⟨p,hp,rfl⟩
 rw [zwI] at h1;obtain ⟨e,_,he⟩:=zyU.1 h1;unfold pcB at he;split at he
 ·cases he
 ·rename_i c d _;split at he
  ·cases he
  ·have:=zu0 c d;rw [zz1 he] at this; exact this
theorem ziH {lo hi : V} {E : List (V×V)} {x : Rat} : x∈xsL lo hi (pcsL lo hi E)↔x=lo.x\/x=hi.x\/(∃ p∈pcsL lo hi E,x=p.a.x\/x=p.b.x)\/∃ p∈pcsL lo hi E,∃ q∈pcsL lo hi E,x∈zce p q:=by
 obtain ⟨ps,hps⟩ : ∃ ps,ps=pcsL lo hi E:=⟨_,rfl⟩;have hne : ∀ p∈ps,p.a≠p.b:=fun p hp=>by rw [hps] at hp; obtain ⟨e,h⟩:=zdA hp; exact h.ne
 have hle : ∀ p∈ps,leP2 p.a p.b:=fun p hp=>by rw [hps] at hp; exact zkh hp
 rw [<-hps,xsL,zbv,zy1,zy1];have key : ∀ i,x∈absG ps i↔∃ j p,j<i/\ps[j]?=some p/\x∈absP ps j p:=fun i=>by
  induction i with
  | zero=>exact ⟨fun h=>(by cases h),fun ⟨j,_,h,_⟩=>absurd h (zB7 j)⟩
  | succ i ih =>
   rw [absG,zyK,ih];constructor
   ·rintro (⟨j,p,h1,h2,h3⟩ | h)
    ·exact ⟨j,p,by omega,h2,h3⟩
    ·split at h
     ·rename_i p hp; exact ⟨i,p,by omega,hp,h⟩
     ·cases h
   ·rintro ⟨j,p,h1,h2,h3⟩;by_cases hji : j=i
    ·right; subst hji; rw [h2]; exact h3
    ·left; exact ⟨j,p,by omega,h2,h3⟩
 rw [key];constructor
 ·rintro (h | h | ⟨j,p,h1,h2,h3⟩)
  ·exact .inl h
  ·exact .inr (.inl h)
  ·have hp:=zyq h2;rcases zy1.1 h3 with h | h
   ·exact .inr (.inr (.inl ⟨p,hp,.inl h⟩))
   rcases zy1.1 h with h | h
   ·exact .inr (.inr (.inl ⟨p,hp,.inr h⟩))
   obtain ⟨q,hq,h⟩:=zBP.1 h;exact .inr (.inr (.inr ⟨p,hp,q,zxP hq,h⟩))
 ·have own : ∀ p∈ps,(x=p.a.x\/x=p.b.x)->∃ j p,j<ps.length/\ps[j]?=some p/\x∈absP ps j p:=fun p hp h=>by
   obtain ⟨j,hj⟩:=zCd hp;refine ⟨j,p,(zyz.1 hj).1,hj,?_⟩;rcases h with h | h
   ·rw [h]; exact zxA ..
   ·rw [h]; exact zxB _ (zxA ..)
  have less : ∀ (i j : Nat) (p q : Pc),ps[i]?=some p->ps[j]?=some q->j<i->x∈zce p q->∃ j p,j<ps.length/\ps[j]?=some p/\x∈absP ps j p:=fun i j p q hi hj hji h=>by
   refine ⟨i,p,(zyz.1 hi).1,hi,zxB _ (zxB _ (zBP.2 ⟨q,?_,h⟩))⟩;exact zyq (i:=j) (by rw [zx7,zxJ hji]; exact hj)
  rintro (h | h | ⟨p,hp,h⟩ | ⟨p,hp,q,hq,h⟩)
  ·exact .inl h
  ·exact .inr (.inl h)
  ·exact .inr (.inr (own p hp h))
  ·right; right
   obtain ⟨i,hi⟩:=zCd hp;obtain ⟨j,hj⟩:=zCd hq;rcases zBt i j with hij | hij | hij
   ·refine less j i q p hj hi hij ?_;unfold zce at h ⊢;rw [zkp (hne p hp) (hne q hq)]; exact h
   ·subst hij;rw [hi] at hj; cases hj;unfold zce at h;rw [zkZ (hne p hp) (hle p hp)] at h;simp only [zy1,zBL,or_false] at h;exact own p hp h
   ·exact less i j p q hi hj hij h
theorem zhI {A B : V} {X a Y b x h : Rat} (h1 : onS A B ⟨X,a⟩) (h2 : onS A B ⟨Y,b⟩) (h3 : onS A B ⟨x,h⟩) : (h-a)*(Y-X)=(b-a)*(x-X):=by
 obtain ⟨r,_,e1⟩:=h1;obtain ⟨s,_,e2⟩:=h2;obtain ⟨t,_,e3⟩:=h3;have x1 : X=A.x+(B.x-A.x)*r:=zyr V.x e1;have y1 : a=A.y+(B.y-A.y)*r:=zyr V.y e1;have x2 : Y=A.x+(B.x-A.x)*s:=zyr V.x e2;have y2 : b=A.y+(B.y-A.y)*s:=zyr V.y e2;have x3 : x=A.x+(B.x-A.x)*t:=zyr V.x e3;have y3 : h=A.y+(B.y-A.y)*t:=zyr V.y e3;rw [x1,y1,x2,y2,x3,y3]; grind
theorem zdO {d g : Rat} (hd : 0<=d) (hg : 0<=g) (h : 0<d+g) : ∃ u : Rat,u*(d+g)=d/\0<=u/\u<=1/\(0<d->0<u)/\(0<g->u<1):=by
 have e : (d/(d+g))*(d+g)=d:=zBD (by grind);generalize d/(d+g)=u at e;refine ⟨u,e,?_,?_,fun h1=>?_,fun h1=>?_⟩
 ·refine zB6.1 fun hh=>?_
  have:=zBB (show 0 < -u by grind) h;grind
 ·refine zB6.1 fun hh=>?_
  have:=zBB (show 0<u-1 by grind) h;grind
 ·refine zz7.1 fun hh=>?_
  have:=zBE (show 0<=-u by grind) (show 0<=d+g by grind);grind
 ·refine zz7.1 fun hh=>?_
  have:=zBE (show 0<=u-1 by grind) (show 0<=d+g by grind);grind
theorem zo6 {A B : V} {X a Y b x h : Rat} (h1 : onS A B ⟨X,a⟩) (h2 : onS A B ⟨Y,b⟩) (hxy : X<Y) (hx : X<=x) (hy : x<=Y) (hc : (h-a)*(Y-X)=(b-a)*(x-X)) : onS A B ⟨x,h⟩:=by
 obtain ⟨u,hd,u0,u1,_⟩:=zdO (d:=x-X) (g:=Y-x) (by grind) (by grind) (by grind);refine zeb h1 h2 ⟨u,⟨u0,u1⟩,?_⟩
 ·have hd : u*(Y-X)=x-X:=by grind
  have e1 : x=X+(Y-X)*u:=by grind
  have e2 : h=a+(b-a)*u:=by
   have h3 : (h-a-(b-a)*u)*(Y-X)=0:=by grind
   rcases zBF.1 h3 with h4 | h4
   ·grind
   ·grind
  show (⟨x,h⟩ : V)=⟨X+(Y-X)*u,a+(b-a)*u⟩;rw [<-e1,<-e2]
theorem zjD {k : Nat} : ∀ {p : Rat} {l : List (Rat×Nat)},k∈fstG p l->∃ y,(y,k)∈l
 | p,(y,i)::r,h=>by
  simp only [fstG] at h;split at h
  ·obtain ⟨z,hz⟩:=zjD h; exact ⟨z,zxB _ hz⟩
  ·rcases zy1.1 h with rfl | h
   ·exact ⟨y,zxA ..⟩
   ·obtain ⟨z,hz⟩:=zjD h; exact ⟨z,zxB _ hz⟩
 | p,[],h=>by cases h
theorem zqZ {k : Nat} {l : List (Rat×Nat)} (h : k∈fstL l) : ∃ y,(y,k)∈l:=by
 cases l with
 | nil=>cases h
 | cons e r =>
  obtain ⟨y,i⟩:=e;rcases zy1.1 h with rfl | h
  ·exact ⟨y,zxA ..⟩
  ·obtain ⟨z,hz⟩:=zjD h; exact ⟨z,zxB _ hz⟩
structure Ed (s : Sl) (X Y : Rat) (k : Nat) (p : Pc) : Prop where
 mem : p∈pcsL s.lo s.hi s.sg.xs
 i : p.i=k
 nv : (p.b-p.a).x≠0
 on : ∀ x,X<=x->x<=Y->onS p.a p.b ⟨x,hgtS s x k⟩
 lo : s.lo.y<=hgtS s X k/\s.lo.y<=hgtS s Y k
 hi : hgtS s X k<=s.hi.y/\hgtS s Y k<=s.hi.y
 no : ¬(hgtS s X k=hgtS s Y k/\(hgtS s X k=s.lo.y\/hgtS s X k=s.hi.y))
theorem zh2 {s : Sl} {p : Pc} {e : V×V} (h : PcOf s.lo s.hi s.sg.xs p e) (hnv : (p.b-p.a).x≠0) {x y : Rat} (hp : onS p.a p.b ⟨x,y⟩) : hgtS s x p.i=y:=by
 have hne2 : (e.2-e.1).x≠0:=fun h0=>hnv (by
  obtain ⟨u,_,eu⟩:=h.a;obtain ⟨v,_,ev⟩:=h.b;have h0' : e.2.x-e.1.x=0:=h0;rw [eu,ev];show (e.1.x+(e.2.x-e.1.x)*v)-(e.1.x+(e.2.x-e.1.x)*u)=0;rw [h0']; grind)
 unfold hgtS;rw [h.at'];exact zyr Prod.fst (zef hne2 (zeb h.a h.b hp))
theorem zvn {s : Sl} {X Y : Rat} (hXY : X<Y) {k : Nat} (hk : k∈zdN s.lo s.hi (pcsL s.lo s.hi s.sg.xs) X Y) : ∃ p,Ed s X Y k p:=by
 obtain ⟨m,hm⟩:=zqZ hk;have hm:=(zb0 _).mem_iff.1 hm;obtain ⟨p,hp,h⟩:=zyU.1 hm;obtain ⟨e,he⟩:=zdA hp;unfold crsO at h
 cases hA : hgtO p X with
 | none=>rw [hA] at h; cases h
 | some a =>
  cases hB : hgtO p Y with
  | none=>rw [hA,hB] at h; cases h
  | some b =>
   rw [hA,hB] at h;simp only at h;split at h
   ·cases h
   ·rename_i hno
    cases h
    obtain ⟨hx0,oA⟩:=zfk hA;obtain ⟨_,oB⟩:=zfk hB;have eA:=zh2 he hx0 oA;have eB:=zh2 he hx0 oB;have iA:=(zd6 he.ia he.ib oA).2;have iB:=(zd6 he.ia he.ib oB).2;refine ⟨p,hp,rfl,hx0,fun x h1 h2=>?_,by rw [eA,eB]; exact ⟨iA.1,iB.1⟩,by rw [eA,eB]; exact ⟨iA.2,iB.2⟩,by rw [eA,eB]; exact hno⟩;obtain ⟨y,hy⟩ : ∃ y,(y-a)*(Y-X)=(b-a)*(x-X):=⟨a+(b-a)*(x-X)/(Y-X),by
     have:=zBD (a:=(b-a)*(x-X)) (b:=Y-X) (by grind);grind⟩
    have o:=zo6 oA oB hXY h1 h2 hy;rw [zh2 he hx0 o]; exact o
theorem Ed.lin {s : Sl} {X Y : Rat} {k : Nat} {p : Pc} (h : Ed s X Y k p) (hXY : X<Y) {x : Rat} (h1 : X<=x) (h2 : x<=Y) : hgtS s x k*(Y-X)=hgtS s X k*(Y-x)+hgtS s Y k*(x-X):=by
 have:=zhI (h.on X (by grind) (by grind)) (h.on Y (by grind) (by grind)) (h.on x h1 h2);grind
structure Nx (s : Sl) (c : Nat) (X Y : Rat) : Prop where
 x : s.X.xs[c]?=some X
 y : s.X.xs[c+1]?=some Y
theorem Nx.lt {s : Sl} {c : Nat} {X Y : Rat} (h : Nx s c X Y) (hs : s.is) : X<Y:=zba (Sl.is_asc hs) h.x h.y (by omega)
theorem Nx.none {s : Sl} {c : Nat} {X Y : Rat} (h : Nx s c X Y) (hs : s.is) {x : Rat} (hx : x∈s.X.xs) : ¬(X<x/\x<Y):=fun ⟨h1,h2⟩=>by
 obtain ⟨j,hj⟩:=zCd hx;have ha:=Sl.is_asc hs;rcases zBt j c with hjc | hjc | hjc
 ·have:=zba ha hj h.x hjc; grind
 ·subst hjc; rw [h.x] at hj; cases hj; grind
 ·by_cases h3 : j=c+1
  ·subst h3; rw [h.y] at hj; cases hj; grind
  ·have:=zba ha h.y hj (by omega); grind
theorem zgW {s : Sl} (hs : s.is) {c : Nat} {X Y : Rat} (hN : Nx s c X Y) {k l : Nat} {p q : Pc} (hp : Ed s X Y k p) (hq : Ed s X Y l q) (h1 : hgtS s X l<hgtS s X k) (h2 : hgtS s Y k<hgtS s Y l) : False:=by
 have hXY:=hN.lt hs;obtain ⟨d,hd⟩ : ∃ d,d=hgtS s X k-hgtS s X l:=⟨_,rfl⟩;obtain ⟨g,hg⟩ : ∃ g,g=hgtS s Y l-hgtS s Y k:=⟨_,rfl⟩;have d0 : 0<d:=by grind
 have g0 : 0<g:=by grind
 obtain ⟨u,hdg,_,_,u0,u1⟩:=zdO (zBU d0) (zBU g0) (by grind);replace u0:=u0 d0;replace u1:=u1 g0;have k1:=zBB (show 0<Y-X by grind) u0;have k2:=zBB (show 0<Y-X by grind) (show 0<1-u by grind);obtain ⟨x,hx⟩ : ∃ x,x=X+(Y-X)*u:=⟨_,rfl⟩;have hx1 : X<x:=by grind
 have hx2 : x<Y:=by grind
 have lk:=hp.lin hXY (x:=x) (by grind) (by grind);have ll:=hq.lin hXY (x:=x) (by grind) (by grind);have same : hgtS s x k=hgtS s x l:=by
  have h3 : (hgtS s x k-hgtS s x l)*(Y-X)=0:=by
   have e : (hgtS s x k-hgtS s x l)*(Y-X)=d*(Y-x)-g*(x-X):=by grind
   rw [e,hx]; grind
  rcases zBF.1 h3 with h4 | h4 <;> grind
 have ok:=hp.on x (by grind) (by grind);have ol:=hq.on x (by grind) (by grind);rw [<-same] at ol;obtain ⟨e1,he1⟩:=zdA hp.mem;obtain ⟨e2,he2⟩:=zdA hq.mem;obtain ⟨m1,m2⟩:=zdT he1.ne he2.ne
 cases hm : zbV p.a p.b q.a q.b with
 | none=>exact m2 hm _ ok ol
 | some mn =>
  obtain ⟨m,n⟩:=mn;obtain ⟨o1,o2,_,_,hle,hall⟩:=m1 _ hm;have hxm : m.x=x:=by
   have c1:=zhI (hp.on X (by grind) (by grind)) (hp.on Y (by grind) (by grind)) (show onS p.a p.b ⟨m.x,m.y⟩ from o1);have c2:=zhI (hq.on X (by grind) (by grind)) (hq.on Y (by grind) (by grind)) (show onS q.a q.b ⟨m.x,m.y⟩ from o2);have e : d*(Y-m.x)=g*(m.x-X):=by grind
   have e2 : d*(Y-x)=g*(x-X):=by rw [hx]; grind
   have h3 : (d+g)*(m.x-x)=0:=by grind
   rcases zBF.1 h3 with h4 | h4 <;> grind
  refine hN.none hs (x:=x) ?_ ⟨hx1,hx2⟩;rw [hs.1,ziH];refine .inr (.inr (.inr ⟨p,hp.mem,q,hq.mem,?_⟩));unfold zce;rw [hm];exact zy1.2 (.inl hxm.symm)
theorem zma {s : Sl} {X Y : Rat} {k : Nat} {p : Pc} (h : Ed s X Y k p) (hXY : X<Y) : hgtS s ((X+Y)/2) k=(hgtS s X k+hgtS s Y k)/2:=by
 have:=h.lin hXY (x:=(X+Y)/2) (by grind) (by grind);have h3 : (hgtS s ((X+Y)/2) k-(hgtS s X k+hgtS s Y k)/2)*(Y-X)=0:=by grind
 rcases zBF.1 h3 with h4 | h4 <;> grind
def BelE (s : Sl) (X Y : Rat) (k l : Nat) : Prop:=hgtS s X k<=hgtS s X l/\hgtS s Y k<=hgtS s Y l/\(hgtS s X k<hgtS s X l\/hgtS s Y k<hgtS s Y l)
theorem zin {s : Sl} (hs : s.is) (hy : s.lo.y<s.hi.y) {c : Nat} {X Y : Rat} (hN : Nx s c X Y) {t : Ln Nat} (ht : s.S.xs[c]?=some t) : t.xs.Pairwise (BelE s X Y)/\∀ k∈t.xs,∃ p,Ed s X Y k p:=by
 have hXY:=hN.lt hs;have ht':=Sl.is_strip_at hs hN.x hN.y ht;have hall : ∀ k∈t.xs,∃ p,Ed s X Y k p:=fun k hk=>zvn hXY (by rw [<-ht']; exact hk)
 refine ⟨?_,hall⟩;have ha:=zrP hy ht';unfold zaJ at ha;have h1:=(zB5.1 (zBG.1 ha).2).1;rw [zB4] at h1;refine List.Pairwise.imp_of_mem (fun {k l} hk hl hkl=>?_) h1;obtain ⟨p,hp⟩:=hall k hk;obtain ⟨q,hq⟩:=hall l hl;rw [zma hp hXY,zma hq hXY] at hkl;have n1 : ¬hgtS s X l<hgtS s X k:=fun h=>zgW hs hN hp hq h (by grind)
 have n2 : ¬hgtS s Y l<hgtS s Y k:=fun h=>zgW hs hN hq hp (by grind) h
 refine ⟨zB6.1 n1,zB6.1 n2,?_⟩;by_cases h3 : hgtS s X k<hgtS s X l
 ·exact .inl h3
 ·exact .inr (by grind)
theorem zdV {s : Sl} (hs : s.is) (hy : s.lo.y<s.hi.y) {c : Nat} {X Y : Rat} (hN : Nx s c X Y) {t : Ln Nat} (ht : s.S.xs[c]?=some t) {x : Rat} (h1 : X<x) (h2 : x<Y) : Asc (zaJ s t x):=by
 have hXY:=hN.lt hs;obtain ⟨hb,hall⟩:=zin hs hy hN ht;unfold zaJ;have low : ∀ k∈t.xs,s.lo.y<hgtS s x k/\hgtS s x k<s.hi.y:=fun k hk=>by
  obtain ⟨p,hp⟩:=hall k hk;have hl:=hp.lin hXY (x:=x) (by grind) (by grind);have a1:=hp.lo;have a2:=hp.hi;have a3:=hp.no;have e1 : (hgtS s x k-s.lo.y)*(Y-X)=(hgtS s X k-s.lo.y)*(Y-x)+(hgtS s Y k-s.lo.y)*(x-X):=by grind
  have e2 : (s.hi.y-hgtS s x k)*(Y-X)=(s.hi.y-hgtS s X k)*(Y-x)+(s.hi.y-hgtS s Y k)*(x-X):=by grind
  constructor
  ·refine zz7.1 fun h=>?_
   have k0:=zBE (show 0<=s.lo.y-hgtS s x k by grind) (show 0<=Y-X by grind);have k1:=zBE (show 0<=hgtS s X k-s.lo.y by grind) (show 0<=Y-x by grind);have k2:=zBE (show 0<=hgtS s Y k-s.lo.y by grind) (show 0<=x-X by grind);have z1 : (hgtS s X k-s.lo.y)*(Y-x)=0:=by grind
   have z2 : (hgtS s Y k-s.lo.y)*(x-X)=0:=by grind
   have w1 : hgtS s X k=s.lo.y:=by rcases zBF.1 z1 with h | h <;> grind
   have w2 : hgtS s Y k=s.lo.y:=by rcases zBF.1 z2 with h | h <;> grind
   exact a3 ⟨by rw [w1,w2],.inl w1⟩
  ·refine zz7.1 fun h=>?_
   have k0:=zBE (show 0<=hgtS s x k-s.hi.y by grind) (show 0<=Y-X by grind);have k1:=zBE (show 0<=s.hi.y-hgtS s X k by grind) (show 0<=Y-x by grind);have k2:=zBE (show 0<=s.hi.y-hgtS s Y k by grind) (show 0<=x-X by grind);have z1 : (s.hi.y-hgtS s X k)*(Y-x)=0:=by grind
   have z2 : (s.hi.y-hgtS s Y k)*(x-X)=0:=by grind
   have w1 : hgtS s X k=s.hi.y:=by rcases zBF.1 z1 with h | h <;> grind
   have w2 : hgtS s Y k=s.hi.y:=by rcases zBF.1 z2 with h | h <;> grind
   exact a3 ⟨by rw [w1,w2],.inr w1⟩
 refine zBG.2 ⟨fun z hz=>?_,zB5.2 ⟨?_,zB8 ..,fun a ha b hb=>?_⟩⟩
 ·rcases zyK.1 hz with hz | hz
  ·obtain ⟨k,hk,rfl⟩:=zx1.1 hz; exact (low k hk).1
  ·rw [zyZ.1 hz]; exact hy
 ·rw [zB4];refine List.Pairwise.imp_of_mem (fun {k l} hk hl hkl=>?_) hb;obtain ⟨p,hp⟩:=hall k hk;obtain ⟨q,hq⟩:=hall l hl;have l1:=hp.lin hXY (x:=x) (by grind) (by grind);have l2:=hq.lin hXY (x:=x) (by grind) (by grind);obtain ⟨b1,b2,b3⟩:=hkl;have e1 : (hgtS s x l-hgtS s x k)*(Y-X)=(hgtS s X l-hgtS s X k)*(Y-x)+(hgtS s Y l-hgtS s Y k)*(x-X):=by grind
  refine zz7.1 fun h=>?_
  have k0:=zBE (show 0<=hgtS s x k-hgtS s x l by grind) (show 0<=Y-X by grind);have k1:=zBE (show 0<=hgtS s X l-hgtS s X k by grind) (show 0<=Y-x by grind);have k2:=zBE (show 0<=hgtS s Y l-hgtS s Y k by grind) (show 0<=x-X by grind);have z1 : (hgtS s X l-hgtS s X k)*(Y-x)=0:=by grind
  have z2 : (hgtS s Y l-hgtS s Y k)*(x-X)=0:=by grind
  have w1 : hgtS s X l=hgtS s X k:=by rcases zBF.1 z1 with h | h <;> grind
  have w2 : hgtS s Y l=hgtS s Y k:=by rcases zBF.1 z2 with h | h <;> grind
  grind
 ·obtain ⟨k,hk,rfl⟩:=zx1.1 ha;rw [zyZ.1 hb]; exact (low k hk).2
theorem zbQ {s : Sl} (hs : s.is) (hy : s.lo.y<s.hi.y) {c : Nat} {X Y : Rat} (hN : Nx s c X Y) {t : Ln Nat} (ht : s.S.xs[c]?=some t) {r : Nat} (hr : r<t.xs.length+2) : ∃ a b,(zaJ s t X)[r]?=some a/\(zaJ s t Y)[r]?=some b/\(s.lo.y<=a/\a<=s.hi.y)/\(s.lo.y<=b/\b<=s.hi.y) /\
  ∀ x,X<=x->x<=Y->∃ h,(zaJ s t x)[r]?=some h/\h*(Y-X)=a*(Y-x)+b*(x-X):=by
 have hXY:=hN.lt hs;obtain ⟨hb,hall⟩:=zin hs hy hN ht
 match r,hr with
 | 0,_=>exact ⟨s.lo.y,s.lo.y,rfl,rfl,⟨zBR,zBU hy⟩,⟨zBR,zBU hy⟩,fun x _ _=>⟨s.lo.y,rfl,by grind⟩⟩
 | r+1,hr =>
  by_cases h : r<t.xs.length
  ·obtain ⟨k,hk⟩ : ∃ k,t.xs[r]?=some k:=⟨_,zyy h⟩;obtain ⟨p,hp⟩:=hall k (zyq hk);have g : ∀ x,(zaJ s t x)[r+1]?=some (hgtS s x k):=fun x=>by
    rw [zaJ,zB3,zyd (by rw [zyA]; exact h),zx4,hk]; rfl
   exact ⟨_,_,g X,g Y,⟨hp.lo.1,hp.hi.1⟩,⟨hp.lo.2,hp.hi.2⟩,fun x h1 h2=>⟨_,g x,hp.lin hXY h1 h2⟩⟩
  ·have g : ∀ x,(zaJ s t x)[r+1]?=some s.hi.y:=fun x=>by
    rw [zaJ,zB3,zyg (by rw [zyA]; omega),zyA,show r-t.xs.length=0 by omega]; rfl
   exact ⟨_,_,g X,g Y,⟨zBU hy,zBR⟩,⟨zBU hy,zBR⟩,fun x _ _=>⟨_,g x,by grind⟩⟩
theorem zkb {s : Sl} (hs : s.is) (hy : s.lo.y<s.hi.y) {c : Nat} {X Y : Rat} (hN : Nx s c X Y) {t : Ln Nat} (ht : s.S.xs[c]?=some t) {r q : Nat} (hrq : r<q) {a b a' b' : Rat}
  (ha : (zaJ s t X)[r]?=some a) (hb : (zaJ s t Y)[r]?=some b) (ha' : (zaJ s t X)[q]?=some a') (hb' : (zaJ s t Y)[q]?=some b') : a<=a'/\b<=b'/\(a<a'\/b<b'):=by
 have hXY:=hN.lt hs;have hq : q<t.xs.length+2:=by have:=(zyz.1 ha').1; simp [zaJ] at this; omega
 have lim : ∀ x,X<x->x<Y->∃ h h',h<h'/\h*(Y-X)=a*(Y-x)+b*(x-X)/\h'*(Y-X)=a'*(Y-x)+b'*(x-X):=fun x h1 h2=>by
  obtain ⟨_,_,e1,e2,_,_,e3⟩:=zbQ hs hy hN ht (r:=r) (by omega);obtain ⟨_,_,f1,f2,_,_,f3⟩:=zbQ hs hy hN ht (r:=q) hq;rw [ha] at e1; cases e1;rw [hb] at e2; cases e2;rw [ha'] at f1; cases f1;rw [hb'] at f2; cases f2;obtain ⟨h,g1,g2⟩:=e3 x (by grind) (by grind);obtain ⟨h',g3,g4⟩:=f3 x (by grind) (by grind);exact ⟨h,h',zba (zdV hs hy hN ht h1 h2) g1 g3 hrq,g2,g4⟩
 have key : ∀ x,X<x->x<Y->0<(a' - a)*(Y-x)+(b' - b)*(x-X):=fun x h1 h2=>by
  obtain ⟨h,h',k1,k2,k3⟩:=lim x h1 h2;have:=zBB (show 0<h' - h by grind) (show 0<Y-X by grind);grind
 have n1 : ¬a' < a:=fun h=>by
  have hd : 0<a-a':=by grind
  by_cases hbb : b'<=b
  ·have k:=key ((X+Y)/2) (by grind) (by grind);have k1:=zBB hd (show 0<Y-(X+Y)/2 by grind);have k2:=zBE (show 0<=b-b' by grind) (show 0<=(X+Y)/2-X by grind);grind
  ·obtain ⟨g,hg⟩ : ∃ g,g=b' - b:=⟨_,rfl⟩;obtain ⟨d,hdd⟩ : ∃ d,d=a-a':=⟨_,rfl⟩;obtain ⟨u,hdg,_,_,u0,u1⟩:=zdO (d:=d) (g:=g) (by grind) (by grind) (by grind);replace u0:=u0 (by grind);replace u1:=u1 (by grind);have k1:=zBB (show 0<Y-X by grind) u0;have k2:=zBB (show 0<Y-X by grind) (show 0<1-u by grind);have k:=key (X+(Y-X)*u) (by grind) (by grind);have e : (a' - a)*(Y-(X+(Y-X)*u))+(b' - b)*(X+(Y-X)*u-X)=0:=by
    rw [show a' - a=-d by grind,show b' - b=g by grind]; grind
   grind
 have n2 : ¬b' < b:=fun h=>by
  have hd : 0<b-b':=by grind
  by_cases hbb : a'<=a
  ·have k:=key ((X+Y)/2) (by grind) (by grind);have k1:=zBE (show 0<=a-a' by grind) (show 0<=Y-(X+Y)/2 by grind);have k2:=zBB hd (show 0<(X+Y)/2-X by grind);grind
  ·obtain ⟨d,hg⟩ : ∃ g,g=a' - a:=⟨_,rfl⟩;obtain ⟨g,hdd⟩ : ∃ d,d=b-b':=⟨_,rfl⟩;obtain ⟨u,hdg,_,_,u0,u1⟩:=zdO (d:=d) (g:=g) (by grind) (by grind) (by grind);replace u0:=u0 (by grind);replace u1:=u1 (by grind);have k1:=zBB (show 0<Y-X by grind) u0;have k2:=zBB (show 0<Y-X by grind) (show 0<1-u by grind);have k:=key (X+(Y-X)*u) (by grind) (by grind);have e : (a' - a)*(Y-(X+(Y-X)*u))+(b' - b)*(X+(Y-X)*u-X)=0:=by
    rw [show a' - a=d by grind,show b' - b=-g by grind]; grind
   grind
 refine ⟨zB6.1 n1,zB6.1 n2,?_⟩;by_cases h3 : a<a'
 ·exact .inl h3
 ·right
  refine zz7.1 fun h4=>?_
  have k:=key ((X+Y)/2) (by grind) (by grind);have z1 : a' - a=0:=by grind
  have z2 : b' - b=0:=by grind
  rw [z1,z2] at k; grind
end Go.Sx
end
section
namespace Go.Sx
open Go Go.Proofs
theorem zum {lo hi : V} {E : List (V×V)} {p : Pc} : p∈pcsL lo hi E↔∃ i e,E[i]?=some e/\pcsO lo hi e i=some p:=by
 have key : ∀ (l : List (V×V)) (i : Nat),p∈pcsF lo hi i l↔∃ j e,l[j]?=some e/\pcsO lo hi e (i+j)=some p:=fun l=>by
  induction l with
  | nil=>intro i; exact ⟨fun h=>(by cases h),fun ⟨j,e,h,_⟩=>by simp at h⟩
  | cons e r ih =>
   intro i;rw [pcsF,zyK,ih (i+1)];constructor
   ·rintro (h | ⟨j,e',h1,h2⟩)
    ·refine ⟨0,e,rfl,?_⟩
     cases ho : pcsO lo hi e i with
     | none=>rw [ho] at h; cases h
     | some q=>rw [ho] at h; rw [zyZ.1 h]
    ·exact ⟨j+1,e',by rw [zB3]; exact h1,by rw [show i+(j+1)=i+1+j by omega]; exact h2⟩
   ·rintro ⟨j,e',h1,h2⟩
    cases j with
    | zero=>left; cases h1; rw [zxL] at h2; rw [h2]; exact zyZ.2 rfl
    | succ j=>right; exact ⟨j,e',by rw [zB3] at h1; exact h1,by rw [show i+1+j=i+(j+1) by omega]; exact h2⟩
 rw [pcsL,key E 0];simp only [zyo]
theorem zqI {lo hi : V} {e s : V×V} {i : Nat} : (clE lo hi e=s/\s.1≠s.2)↔pcsO lo hi e i=some ⟨s.1,s.2,i⟩:=by
 unfold clE pcsO
 cases zch ⟨PQ lo,PQ hi⟩ e.1 e.2 with
 | none=>exact ⟨fun ⟨h1,h2⟩=>by rw [<-h1] at h2; exact absurd rfl h2,fun h=>by cases h⟩
 | some cd =>
  obtain ⟨c,d⟩:=cd;show ((if c=d then (V0,V0) else ordV c d)=s/\s.1≠s.2)↔(if c=d then none else some (⟨(ordV c d).1,(ordV c d).2,i⟩ : Pc))=some ⟨s.1,s.2,i⟩;by_cases hcd : c=d
  ·rw [zxJ hcd,zxJ hcd];exact ⟨fun ⟨h1,h2⟩=>by rw [<-h1] at h2; exact absurd rfl h2,fun h=>by cases h⟩
  ·rw [zxI hcd,zxI hcd];constructor
   ·rintro ⟨h1,_⟩; rw [h1]
   ·intro h;have h:=zz1 h;have h1:=zyr Pc.a h;have h2:=zyr Pc.b h;have h1 : (ordV c d).1=s.1:=h1;have h2 : (ordV c d).2=s.2:=h2;exact ⟨zxo h1 h2,by rw [<-h1,<-h2]; exact zqt hcd⟩
theorem zvZ {lo hi : V} {e : V×V} {i : Nat} {p : Pc} (h : pcsO lo hi e i=some p) : p.i=i:=by
 unfold pcsO at h;split at h
 ·cases h
 ·split at h
  ·cases h
  ·cases h; rfl
abbrev parL (lo hi : V) (E : List (V×V)) : List (V×V):=E.map (clE lo hi)
theorem zh7 {lo hi : V} {E : List (V×V)} {i : Nat} {s : V×V} : ((parL lo hi E)[i]?=some s/\s.1≠s.2)↔(⟨s.1,s.2,i⟩ : Pc)∈pcsL lo hi E:=by
 rw [zum,zx4];constructor
 ·rintro ⟨h1,h2⟩
  cases he : E[i]? with
  | none=>rw [he] at h1; cases h1
  | some e =>
   rw [he] at h1;exact ⟨i,e,he,zqI.1 ⟨zz1 h1,h2⟩⟩
 ·rintro ⟨j,e,h1,h2⟩;obtain rfl : i=j:=zvZ h2;obtain ⟨h3,h4⟩:=zqI.2 h2;exact ⟨by rw [h1]; exact zyr some h3,h4⟩
theorem zfh {lo hi : V} {E : List (V×V)} {p : Pc} (h : p∈pcsL lo hi E) : (parL lo hi E)[p.i]?=some (p.a,p.b)/\p.a≠p.b:=zh7.2 h
def absK (s t : V×V) (L : List Rat) : List Rat:=if t.1=t.2 then L else match zbV t.1 t.2 s.1 s.2 with
 | none=>L
 | some (a,b)=>insU b.x (insU a.x L)
def absJ (P : List (V×V)) (s : V×V) (L : List Rat) : Nat->List Rat
 | 0=>L
 | k+1=>match P[k]? with
  | none=>absJ P s L k
  | some t=>absK s t (absJ P s L k)
def absI (lo hi : V) (P : List (V×V)) : Nat->List Rat
 | 0=>[lo.x,hi.x]
 | i+1=>match P[i]? with
  | none=>absI lo hi P i
  | some s=>if s.1=s.2 then absI lo hi P i else absJ P s (insU s.2.x (insU s.1.x (absI lo hi P i))) i
theorem zq5 {s t : V×V} {L : List Rat} {x : Rat} : x∈absK s t L↔x∈L\/(t.1≠t.2/\x∈zce ⟨t.1,t.2,0⟩ ⟨s.1,s.2,0⟩):=by
 unfold absK zce;by_cases h : t.1=t.2
 ·rw [zxJ h]; exact ⟨.inl,fun h2=>h2.elim id (fun h3=>absurd h h3.1)⟩
 rw [zxI h];show x∈(match zbV t.1 t.2 s.1 s.2 with | none=>L | some (a,b)=>insU b.x (insU a.x L))↔x∈L\/t.1≠t.2/\x∈(match zbV t.1 t.2 s.1 s.2 with | some (m,n)=>[m.x,n.x] | none=>[])
 cases zbV t.1 t.2 s.1 s.2 with
 | none=>exact ⟨.inl,fun h2=>h2.elim id (fun h3=>by cases h3.2)⟩
 | some ab =>
  obtain ⟨a,b⟩:=ab;show x∈insU b.x (insU a.x L)↔x∈L\/t.1≠t.2/\x∈[a.x,b.x];rw [zct,zct];simp only [zy1,zBL,or_false];grind
theorem zrY {s t : V×V} {L : List Rat} (h : Asc L) : Asc (absK s t L):=by
 unfold absK;split
 ·exact h
 ·split
  ·exact h
  ·exact zcb (zcb h)
theorem zcu (x : Rat) : ∀ l : List Rat,(insU x l).length<=l.length+1
 | []=>by simp [insU]
 | y::l=>by
  have:=zcu x l;unfold insU;split
  ·simp
  ·split
   ·simp
   ·simp only [zxR]; omega
theorem zrQ (s t : V×V) (L : List Rat) : (absK s t L).length<=L.length+2:=by
 unfold absK;split
 ·omega
 ·split
  ·omega
  ·rename_i a b _;have:=zcu b.x (insU a.x L);have:=zcu a.x L;omega
theorem zi8 {P : List (V×V)} {s : V×V} {L : List Rat} {x : Rat} : ∀ {k : Nat},x∈absJ P s L k↔x∈L\/∃ j t,j<k/\P[j]?=some t/\t.1≠t.2/\x∈zce ⟨t.1,t.2,0⟩ ⟨s.1,s.2,0⟩
 | 0=>⟨.inl,fun h=>h.elim id (fun ⟨j,_,h,_⟩=>absurd h (zB7 j))⟩
 | k+1=>by
  have ih:=zi8 (P:=P) (s:=s) (L:=L) (x:=x) (k:=k);unfold absJ
  cases hk : P[k]? with
  | none =>
   show x∈absJ P s L k↔_;rw [ih];constructor
   ·rintro (h | ⟨j,t,h1,h2⟩)
    ·exact .inl h
    ·exact .inr ⟨j,t,by omega,h2⟩
   ·rintro (h | ⟨j,t,h1,h2,h3⟩)
    ·exact .inl h
    ·by_cases hj : j=k
     ·subst hj; rw [hk] at h2; cases h2
     ·exact .inr ⟨j,t,by omega,h2,h3⟩
  | some t =>
   show x∈absK s t (absJ P s L k)↔_;rw [zq5,ih];constructor
   ·rintro ((h | ⟨j,t',h1,h2⟩) | h)
    ·exact .inl h
    ·exact .inr ⟨j,t',by omega,h2⟩
    ·exact .inr ⟨k,t,by omega,hk,h⟩
   ·rintro (h | ⟨j,t',h1,h2,h3⟩)
    ·exact .inl (.inl h)
    ·by_cases hj : j=k
     ·subst hj; rw [hk] at h2; cases h2; exact .inr h3
     ·exact .inl (.inr ⟨j,t',by omega,h2,h3⟩)
theorem zg4 {P : List (V×V)} {s : V×V} {L : List Rat} (h : Asc L) : ∀ k : Nat,Asc (absJ P s L k)
 | 0=>h
 | k+1=>by
  unfold absJ;split
  ·exact zg4 h k
  ·exact zrY (zg4 h k)
theorem zjf (P : List (V×V)) (s : V×V) (L : List Rat) : ∀ k : Nat,(absJ P s L k).length<=L.length+2*k
 | 0=>zxr _
 | k+1=>by
  have:=zjf P s L k;unfold absJ;split
  ·omega
  ·rename_i t _;have:=zrQ s t (absJ P s L k);omega
theorem zj3 {lo hi : V} {P : List (V×V)} {x : Rat} : ∀ {n : Nat},x∈absI lo hi P n↔x=lo.x\/x=hi.x\/∃ i s,i<n/\P[i]?=some s/\s.1≠s.2/\(x=s.1.x\/x=s.2.x\/∃ j t,j<i/\P[j]?=some t/\t.1≠t.2/\x∈zce ⟨t.1,t.2,0⟩ ⟨s.1,s.2,0⟩)
 | 0=>by
  unfold absI;simp only [zy1,zBL,or_false];constructor
  ·rintro (h | h)
   ·exact .inl h
   ·exact .inr (.inl h)
  ·rintro (h | h | ⟨i,_,h,_⟩)
   ·exact .inl h
   ·exact .inr h
   ·exact absurd h (zB7 i)
 | n+1=>by
  have ih:=zj3 (lo:=lo) (hi:=hi) (P:=P) (x:=x) (n:=n);have skip : (∀ s,P[n]?=some s->¬s.1≠s.2)->absI lo hi P (n+1)=absI lo hi P n->(x∈absI lo hi P (n+1)↔x=lo.x\/x=hi.x\/∃ i s,i<n+1/\P[i]?=some s/\s.1≠s.2/\(x=s.1.x\/x=s.2.x\/∃ j t,j<i/\P[j]?=some t/\t.1≠t.2/\x∈zce ⟨t.1,t.2,0⟩ ⟨s.1,s.2,0⟩)):=fun hno he=>by
   rw [he,ih];constructor
   ·rintro (h | h | ⟨i,s,h1,h2⟩)
    ·exact .inl h
    ·exact .inr (.inl h)
    ·exact .inr (.inr ⟨i,s,by omega,h2⟩)
   ·rintro (h | h | ⟨i,s,h1,h2,h3,h4⟩)
    ·exact .inl h
    ·exact .inr (.inl h)
    ·by_cases hi : i=n
     ·subst hi; exact absurd h3 (hno s h2)
     ·exact .inr (.inr ⟨i,s,by omega,h2,h3,h4⟩)
  cases hn : P[n]? with
  | none=>exact skip (fun s h=>by rw [hn] at h; cases h) (by rw [absI,hn])
  | some s =>
   by_cases hs : s.1=s.2
   ·exact skip (fun s' h=>by rw [hn] at h; cases h; exact fun h2=>h2 hs) (by rw [absI,hn]; exact zxJ hs)
   ·rw [show absI lo hi P (n+1)=absJ P s (insU s.2.x (insU s.1.x (absI lo hi P n))) n from by rw [absI,hn]; exact zxI hs,zi8,zct,zct,ih];constructor
    ·rintro ((h | h | h | h | ⟨i,s',h1,h2⟩) | h)
     ·exact .inr (.inr ⟨n,s,by omega,hn,hs,.inr (.inl h)⟩)
     ·exact .inr (.inr ⟨n,s,by omega,hn,hs,.inl h⟩)
     ·exact .inl h
     ·exact .inr (.inl h)
     ·exact .inr (.inr ⟨i,s',by omega,h2⟩)
     ·exact .inr (.inr ⟨n,s,by omega,hn,hs,.inr (.inr h)⟩)
    ·rintro (h | h | ⟨i,s',h1,h2,h3,h4⟩)
     ·exact .inl (.inr (.inr (.inl h)))
     ·exact .inl (.inr (.inr (.inr (.inl h))))
     ·by_cases hi : i=n
      ·subst hi;rw [hn] at h2; cases h2;rcases h4 with h | h | h
       ·exact .inl (.inr (.inl h))
       ·exact .inl (.inl h)
       ·exact .inr h
      ·exact .inl (.inr (.inr (.inr (.inr ⟨i,s',by omega,h2,h3,h4⟩))))
theorem zeC {lo hi : V} (h : lo.x<hi.x) (P : List (V×V)) : ∀ n : Nat,Asc (absI lo hi P n)
 | 0=>by simp [absI,Asc,h]
 | n+1=>by
  unfold absI;split
  ·exact zeC h P n
  ·split
   ·exact zeC h P n
   ·exact zg4 (zcb (zcb (zeC h P n))) n
theorem zje (lo hi : V) (P : List (V×V)) : ∀ n : Nat,n<=400->(absI lo hi P n).length<=2+802*n
 | 0,_=>by simp [absI]
 | n+1,hn=>by
  have ih:=zje lo hi P n (by omega);unfold absI;split
  ·omega
  ·split
   ·omega
   ·rename_i s _ _;have:=zjf P s (insU s.2.x (insU s.1.x (absI lo hi P n))) n;have:=zcu s.2.x (insU s.1.x (absI lo hi P n));have:=zcu s.1.x (absI lo hi P n);omega
theorem zvT {lo hi : V} (h : lo.x<hi.x) (E : List (V×V)) : absI lo hi (parL lo hi E) E.length=xsL lo hi (pcsL lo hi E):=by
 refine znA (zeC h _ _) (zdt _) fun x=>?_
 rw [zj3,ziH];have hne : ∀ p∈pcsL lo hi E,p.a≠p.b:=fun p hp=>by obtain ⟨e,h⟩:=zdA hp; exact h.ne
 constructor
 ·rintro (h | h | ⟨i,s,h1,h2,h3,h4⟩)
  ·exact .inl h
  ·exact .inr (.inl h)
  ·have hp:=zh7.1 ⟨h2,h3⟩;rcases h4 with h | h | ⟨j,t,k1,k2,k3,k4⟩
   ·exact .inr (.inr (.inl ⟨_,hp,.inl h⟩))
   ·exact .inr (.inr (.inl ⟨_,hp,.inr h⟩))
   ·exact .inr (.inr (.inr ⟨_,zh7.1 ⟨k2,k3⟩,_,hp,k4⟩))
 ·have own : ∀ p∈pcsL lo hi E,(x=p.a.x\/x=p.b.x)->∃ i s,i<E.length/\(parL lo hi E)[i]?=some s/\s.1≠s.2/\(x=s.1.x\/x=s.2.x\/∃ j t,j<i/\(parL lo hi E)[j]?=some t/\t.1≠t.2/\x∈zce ⟨t.1,t.2,0⟩ ⟨s.1,s.2,0⟩):=fun p hp h=>by
   have hq:=zfh hp;have hl:=(zyz.1 hq.1).1;rw [zyA] at hl;refine ⟨p.i,(p.a,p.b),hl,hq.1,hq.2,?_⟩;rcases h with h | h
   ·exact .inl h
   ·exact .inr (.inl h)
  have less : ∀ p∈pcsL lo hi E,∀ q∈pcsL lo hi E,p.i<q.i->x∈zce p q->∃ i s,i<E.length/\(parL lo hi E)[i]?=some s/\s.1≠s.2/\(x=s.1.x\/x=s.2.x\/∃ j t,j<i/\(parL lo hi E)[j]?=some t/\t.1≠t.2/\x∈zce ⟨t.1,t.2,0⟩ ⟨s.1,s.2,0⟩):=fun p hp q hq hlt h=>by
   have hp':=zfh hp;have hq':=zfh hq;have hl:=(zyz.1 hq'.1).1;rw [zyA] at hl;exact ⟨q.i,(q.a,q.b),hl,hq'.1,hq'.2,.inr (.inr ⟨p.i,(p.a,p.b),hlt,hp'.1,hp'.2,h⟩)⟩
  rintro (h | h | ⟨p,hp,h⟩ | ⟨p,hp,q,hq,h⟩)
  ·exact .inl h
  ·exact .inr (.inl h)
  ·exact .inr (.inr (own p hp h))
  ·right; right
   rcases zBt p.i q.i with hij | hij | hij
   ·exact less p hp q hq hij h
   ·have h1:=(zfh hp).1;have h2:=(zfh hq).1;rw [hij,h2] at h1;have h1:=zz1 h1;have e1 : q.a=p.a:=zyr Prod.fst h1;have e2 : q.b=p.b:=zyr Prod.snd h1;unfold zce at h;rw [e1,e2,zkZ (hne p hp) (zkh hp)] at h;simp only [zy1,zBL,or_false] at h;exact own p hp h
   ·refine less q hq p hp hij ?_;unfold zce at h ⊢;rw [zkp (hne p hp) (hne q hq)]; exact h
def ordK (x : Rat) (s : V×V) (L : List Rat) : List Rat:=if s.1=s.2 then L else if s.1.x=s.2.x then (if s.1.x=x then insU s.2.y (insU s.1.y L) else L) else match hgtO ⟨s.1,s.2,0⟩ x with
 | none=>L
 | some y=>insU y L
def ordI (lo hi : V) (P : List (V×V)) (x : Rat) : Nat->List Rat
 | 0=>[lo.y,hi.y]
 | i+1=>match P[i]? with
  | none=>ordI lo hi P x i
  | some s=>ordK x s (ordI lo hi P x i)
theorem zks {p : Pc} (h : p.a.x=p.b.x) (x : Rat) : hgtO p x=none:=by
 cases ho : hgtO p x with
 | none=>rfl
 | some y=>exact absurd (show p.b.x-p.a.x=0 by rw [h]; grind) (zfk ho).1
theorem zsh {x y : Rat} {s : V×V} {L : List Rat} : y∈ordK x s L↔y∈L\/(s.1≠s.2/\y∈ordP x ⟨s.1,s.2,0⟩):=by
 unfold ordK ordP;by_cases h : s.1=s.2
 ·rw [zxJ h]; exact ⟨.inl,fun h2=>h2.elim id (fun h3=>absurd h h3.1)⟩
 rw [zxI h];by_cases hv : s.1.x=s.2.x
 ·rw [zxJ hv,zks (p:=⟨s.1,s.2,0⟩) hv];by_cases hx : s.1.x=x
  ·rw [zxJ hx,zxJ (show (⟨s.1,s.2,0⟩ : Pc).a.x=(⟨s.1,s.2,0⟩ : Pc).b.x/\(⟨s.1,s.2,0⟩ : Pc).a.x=x from ⟨hv,hx⟩),zct,zct];simp only [Option.toList,zyP,zy1,zBL,or_false];grind
  ·rw [zxI hx,zxI (show ¬((⟨s.1,s.2,0⟩ : Pc).a.x=(⟨s.1,s.2,0⟩ : Pc).b.x/\(⟨s.1,s.2,0⟩ : Pc).a.x=x) from fun k=>hx k.2)];exact ⟨.inl,fun h2=>h2.elim id (fun h3=>by cases h3.2)⟩
 ·rw [zxI hv,zxI (show ¬((⟨s.1,s.2,0⟩ : Pc).a.x=(⟨s.1,s.2,0⟩ : Pc).b.x/\(⟨s.1,s.2,0⟩ : Pc).a.x=x) from fun k=>hv k.1)]
  cases hgtO ⟨s.1,s.2,0⟩ x with
  | none=>exact ⟨.inl,fun h2=>h2.elim id (fun h3=>by cases h3.2)⟩
  | some z =>
   show y∈insU z L↔_;rw [zct];simp only [Option.toList,zzJ,zy1,zBL,or_false];grind
theorem zsy {x : Rat} {s : V×V} {L : List Rat} (h : Asc L) : Asc (ordK x s L):=by
 unfold ordK;split
 ·exact h
 ·split
  ·split
   ·exact zcb (zcb h)
   ·exact h
  ·split
   ·exact h
   ·exact zcb h
theorem zra (x : Rat) (s : V×V) (L : List Rat) : (ordK x s L).length<=L.length+2:=by
 unfold ordK;split
 ·omega
 ·split
  ·split
   ·have:=zcu s.2.y (insU s.1.y L);have:=zcu s.1.y L;omega
   ·omega
  ·split
   ·omega
   ·rename_i y _;have:=zcu y L;omega
theorem zjQ {lo hi : V} {P : List (V×V)} {x y : Rat} : ∀ {n : Nat},y∈ordI lo hi P x n↔y=lo.y\/y=hi.y\/∃ i s,i<n/\P[i]?=some s/\s.1≠s.2/\y∈ordP x ⟨s.1,s.2,0⟩
 | 0=>by
  unfold ordI;simp only [zy1,zBL,or_false];constructor
  ·rintro (h | h)
   ·exact .inl h
   ·exact .inr (.inl h)
  ·rintro (h | h | ⟨i,_,h,_⟩)
   ·exact .inl h
   ·exact .inr h
   ·exact absurd h (zB7 i)
 | n+1=>by
  have ih:=zjQ (lo:=lo) (hi:=hi) (P:=P) (x:=x) (y:=y) (n:=n);unfold ordI
  cases hn : P[n]? with
  | none =>
   show y∈ordI lo hi P x n↔_;rw [ih];constructor
   ·rintro (h | h | ⟨i,s,h1,h2⟩)
    ·exact .inl h
    ·exact .inr (.inl h)
    ·exact .inr (.inr ⟨i,s,by omega,h2⟩)
   ·rintro (h | h | ⟨i,s,h1,h2,h3⟩)
    ·exact .inl h
    ·exact .inr (.inl h)
    ·by_cases hi : i=n
     ·subst hi; rw [hn] at h2; cases h2
     ·exact .inr (.inr ⟨i,s,by omega,h2,h3⟩)
  | some s =>
   show y∈ordK x s (ordI lo hi P x n)↔_;rw [zsh,ih];constructor
   ·rintro ((h | h | ⟨i,s',h1,h2⟩) | h)
    ·exact .inl h
    ·exact .inr (.inl h)
    ·exact .inr (.inr ⟨i,s',by omega,h2⟩)
    ·exact .inr (.inr ⟨n,s,by omega,hn,h⟩)
   ·rintro (h | h | ⟨i,s',h1,h2,h3⟩)
    ·exact .inl (.inl h)
    ·exact .inl (.inr (.inl h))
    ·by_cases hi : i=n
     ·subst hi; rw [hn] at h2; cases h2; exact .inr h3
     ·exact .inl (.inr (.inr ⟨i,s',by omega,h2,h3⟩))
theorem zhb {lo hi : V} (h : lo.y<hi.y) (P : List (V×V)) (x : Rat) : ∀ n : Nat,Asc (ordI lo hi P x n)
 | 0=>by simp [ordI,Asc,h]
 | n+1=>by
  unfold ordI;split
  ·exact zhb h P x n
  ·exact zsy (zhb h P x n)
theorem znz (lo hi : V) (P : List (V×V)) (x : Rat) : ∀ n : Nat,(ordI lo hi P x n).length<=2+2*n
 | 0=>by simp [ordI]
 | n+1=>by
  have ih:=znz lo hi P x n;unfold ordI;split
  ·omega
  ·rename_i s _;have:=zra x s (ordI lo hi P x n);omega
theorem zv3 {lo hi : V} (h : lo.y<hi.y) (E : List (V×V)) (x : Rat) : ordI lo hi (parL lo hi E) x E.length=ysL lo hi (pcsL lo hi E) x:=by
 refine znA (zhb h _ _ _) (zdt _) fun y=>?_
 rw [zjQ,ysL,zbv,zy1,zy1];refine or_congr Iff.rfl (or_congr Iff.rfl ?_);rw [zBP];constructor
 ·rintro ⟨i,s,h1,h2,h3,h4⟩;exact ⟨_,zh7.1 ⟨h2,h3⟩,h4⟩
 ·rintro ⟨p,hp,h⟩;have hq:=zfh hp;have hl:=(zyz.1 hq.1).1;rw [zyA] at hl;exact ⟨p.i,(p.a,p.b),hl,hq.1,hq.2,h⟩
abbrev AscP (l : List (Rat×Nat)) : Prop:=l.Pairwise fun a b=>a.1<b.1
theorem zqj : ∀ {a b : List (Rat×Nat)},AscP a->AscP b->(∀ z,z∈a↔z∈b)->a=b
 | [],[],_,_,_=>rfl
 | [],y::b,_,_,h=>by have:=(h y).2 (zxA ..); cases this
 | x::a,[],_,_,h=>by have:=(h x).1 (zxA ..); cases this
 | x::a,y::b,ha,hb,h=>by
  have ha':=zBG.1 ha;have hb':=zBG.1 hb;have hxy : x=y:=by
   rcases zy1.1 ((h x).1 (zxA ..)) with e | h1
   ·exact e
   ·rcases zy1.1 ((h y).2 (zxA ..)) with e | h2
    ·exact e.symm
    ·have:=hb'.1 x h1; have:=ha'.1 y h2; grind
  subst hxy
  congr 1
  refine zqj ha'.2 hb'.2 fun z=>⟨fun hz=>?_,fun hz=>?_⟩
  ·rcases zy1.1 ((h z).1 (zxB _ hz)) with e | h1
   ·have:=ha'.1 z hz; rw [e] at this; grind
   ·exact h1
  ·rcases zy1.1 ((h z).2 (zxB _ hz)) with e | h1
   ·have:=hb'.1 z hz; rw [e] at this; grind
   ·exact h1
def insY (y : Rat) (i : Nat) : List (Rat×Nat)->List (Rat×Nat)
 | []=>[(y,i)]
 | z::l=>if z.1<y then z::insY y i l else if z.1=y then z::l else (y,i)::z::l
theorem zjS {y : Rat} {i : Nat} {w : Rat×Nat} : ∀ {l : List (Rat×Nat)},AscP l->(w∈insY y i l↔w∈l\/(w=(y,i)/\∀ z∈l,z.1≠y))
 | [],_=>by simp [insY]
 | z::l,h=>by
  have h':=zBG.1 h;have ih:=zjS (y:=y) (i:=i) (w:=w) h'.2;unfold insY;by_cases h1 : z.1<y
  ·rw [zxJ h1,zy1,zy1,ih];constructor
   ·rintro (e | e | ⟨e,k⟩)
    ·exact .inl (.inl e)
    ·exact .inl (.inr e)
    ·refine .inr ⟨e,fun u hu=>?_⟩;rcases zy1.1 hu with e2 | hu
     ·rw [e2]; grind
     ·exact k u hu
   ·rintro ((e | e) | ⟨e,k⟩)
    ·exact .inl e
    ·exact .inr (.inl e)
    ·exact .inr (.inr ⟨e,fun u hu=>k u (zxB _ hu)⟩)
  ·rw [zxI h1];by_cases h2 : z.1=y
   ·rw [zxJ h2];exact ⟨.inl,fun k=>k.elim id (fun k=>absurd h2 (k.2 z (zxA ..)))⟩
   ·rw [zxI h2,zy1];constructor
    ·rintro (e | e)
     ·refine .inr ⟨e,fun u hu=>?_⟩;rcases zy1.1 hu with e2 | hu
      ·rw [e2]; exact h2
      ·have:=h'.1 u hu; grind
     ·exact .inl e
    ·rintro (e | e)
     ·exact .inr e
     ·exact .inl e.1
theorem zm9 {y : Rat} {i : Nat} : ∀ {l : List (Rat×Nat)},AscP l->AscP (insY y i l)
 | [],_=>by simp [insY]
 | z::l,h=>by
  have h':=zBG.1 h;unfold insY;by_cases h1 : z.1<y
  ·rw [zxJ h1];refine zBG.2 ⟨fun u hu=>?_,zm9 h'.2⟩;rcases (zjS h'.2).1 hu with hu | ⟨e,_⟩
   ·exact h'.1 u hu
   ·rw [e]; exact h1
  ·rw [zxI h1];by_cases h2 : z.1=y
   ·rw [zxJ h2]; exact h
   ·rw [zxI h2];refine zBG.2 ⟨fun u hu=>?_,h⟩;rcases zy1.1 hu with e | hu
    ·rw [e]; show y<z.1; grind
    ·have:=h'.1 u hu; show y<u.1; grind
theorem znK (y : Rat) (i : Nat) : ∀ l : List (Rat×Nat),(insY y i l).length<=l.length+1
 | []=>by simp [insY]
 | z::l=>by
  have:=znK y i l;unfold insY;split
  ·simp only [zxR]; omega
  ·split
   ·simp
   ·simp
def rcO (lo hi : V) (x : Rat) (s : V×V) : Option Rat:=if s.1=s.2\/s.1.x=s.2.x\/x<s.1.x\/s.2.x<x then none else if (hgtE s.1 s.2 x).1=lo.y\/(hgtE s.1 s.2 x).1=hi.y then none else some (hgtE s.1 s.2 x).1
def strI (lo hi : V) (P : List (V×V)) (x : Rat) : Nat->List (Rat×Nat)
 | 0=>[]
 | i+1=>match (P[i]?).bind (rcO lo hi x) with
  | none=>strI lo hi P x i
  | some y=>insY y i (strI lo hi P x i)
theorem zg8 (lo hi : V) (P : List (V×V)) (x : Rat) : ∀ n : Nat,AscP (strI lo hi P x n)
 | 0=>List.Pairwise.nil
 | n+1=>by
  unfold strI;split
  ·exact zg8 lo hi P x n
  ·exact zm9 (zg8 lo hi P x n)
theorem zjU (lo hi : V) (P : List (V×V)) (x : Rat) : ∀ n : Nat,(strI lo hi P x n).length<=n
 | 0=>zxr _
 | n+1=>by
  have ih:=zjU lo hi P x n;unfold strI;split
  ·omega
  ·rename_i y _;have:=znK y n (strI lo hi P x n);omega
theorem zi6 {lo hi : V} {P : List (V×V)} {x y : Rat} : ∀ {n i : Nat},(y,i)∈strI lo hi P x n↔i<n/\(P[i]?).bind (rcO lo hi x)=some y/\∀ j,j<n->(P[j]?).bind (rcO lo hi x)=some y->i<=j
 | 0,i=>⟨fun h=>(by cases h),fun h=>absurd h.1 (zB7 i)⟩
 | n+1,i=>by
  have ih:=fun i=>zi6 (lo:=lo) (hi:=hi) (P:=P) (x:=x) (y:=y) (n:=n) (i:=i)
  unfold strI
  cases hn : (P[n]?).bind (rcO lo hi x) with
  | none =>
   show (y,i)∈strI lo hi P x n↔_;rw [ih];constructor
   ·rintro ⟨h1,h2,h3⟩;refine ⟨by omega,h2,fun j hj hy=>?_⟩;by_cases hjn : j=n
    ·subst hjn; rw [hn] at hy; cases hy
    ·exact h3 j (by omega) hy
   ·rintro ⟨h1,h2,h3⟩;by_cases hin : i=n
    ·subst hin; rw [hn] at h2; cases h2
    ·exact ⟨by omega,h2,fun j hj hy=>h3 j (by omega) hy⟩
  | some z =>
   show (y,i)∈insY z n (strI lo hi P x n)↔_;rw [zjS (zg8 lo hi P x n),ih];constructor
   ·rintro (⟨h1,h2,h3⟩ | ⟨e,h⟩)
    ·refine ⟨by omega,h2,fun j hj hy=>?_⟩;by_cases hjn : j=n
     ·omega
     ·exact h3 j (by omega) hy
    ·have e1 : y=z:=zyr Prod.fst e;have e2 : i=n:=zyr Prod.snd e;subst e1 e2;refine ⟨by omega,hn,fun j hj hy=>?_⟩;refine Nat.le_of_not_lt fun hlt=>?_
     have : ∃ k,(y,k)∈strI lo hi P x i:=by
      have key : ∀ m,(∃ j,j<=m/\j<i/\(P[j]?).bind (rcO lo hi x)=some y)->∃ k,(y,k)∈strI lo hi P x i:=fun m=>by
       induction m with
       | zero =>
        rintro ⟨j,h1,h2,h3⟩;obtain rfl : j=0:=by omega
        exact ⟨0,(ih 0).2 ⟨h2,h3,fun _ _ _=>zyD _⟩⟩
       | succ m im =>
        rintro ⟨j,h1,h2,h3⟩;by_cases hm : ∃ j,j<=m/\j<i/\(P[j]?).bind (rcO lo hi x)=some y
        ·exact im hm
        ·have hj1 : j=m+1:=by
          by_cases hj : j<=m
          ·exact absurd ⟨j,hj,h2,h3⟩ hm
          ·omega
         refine ⟨j,(ih j).2 ⟨h2,h3,fun k hk hy=>Nat.le_of_not_lt fun hkj=>hm ⟨k,by omega,hk,hy⟩⟩⟩
      exact key j ⟨j,zxr _,hlt,hy⟩
     obtain ⟨k,hk⟩:=this;exact h _ hk rfl
   ·rintro ⟨h1,h2,h3⟩;by_cases hin : i=n
    ·subst hin;rw [hn] at h2; cases h2;refine .inr ⟨rfl,fun w hw hwz=>?_⟩;obtain ⟨w1,w2⟩:=w;have hwz : w1=y:=hwz;subst hwz;have:=(ih w2).1 hw;have:=h3 w2 (by omega) this.2.1;omega
    ·exact .inl ⟨by omega,h2,fun j hj hy=>h3 j (by omega) hy⟩
def fstH : Rat->List (Rat×Nat)->List (Rat×Nat)
 | _,[]=>[]
 | p,z::r=>if p=z.1 then fstH z.1 r else z::fstH z.1 r
def frsP : List (Rat×Nat)->List (Rat×Nat)
 | []=>[]
 | z::r=>z::fstH z.1 r
theorem zjI : ∀ (p : Rat) (l : List (Rat×Nat)),(fstH p l).map (·.2)=fstG p l
 | p,[]=>rfl
 | p,(y,i)::r=>by
  unfold fstH fstG;show ((if p=y then fstH y r else (y,i)::fstH y r).map (·.2))=_;split
  ·exact zjI y r
  ·rw [zxT,zjI y r]
theorem zrD : ∀ l : List (Rat×Nat),(frsP l).map (·.2)=fstL l
 | []=>rfl
 | (y,i)::r=>by show i::(fstH y r).map (·.2)=i::fstG y r; rw [zjI]
theorem zjA {z : Rat×Nat} : ∀ {p : Rat} {l : List (Rat×Nat)},SrtC l->(∀ w∈l,p<=w.1)->(z∈fstH p l↔z∈l/\p<z.1/\∀ w∈l,w.1=z.1->z.2<=w.2)
 | p,[],_,_=>⟨fun h=>(by cases h),fun h=>(by cases h.1)⟩
 | p,y::r,hs,hp=>by
  have hs':=zBG.1 hs;have hy : ∀ w∈r,y.1<=w.1:=fun w hw=>(zbx.1 (by
   have:=hs'.1 w hw;exact this)).1
  have hy2 : ∀ w∈r,w.1=y.1->y.2<=w.2:=fun w hw e=>(zbx.1 (hs'.1 w hw)).2 e
  have ih:=zjA (z:=z) (p:=y.1) hs'.2 hy;have hpy:=hp y (zxA ..);unfold fstH;by_cases h : p=y.1
  ·rw [zxJ h,ih];constructor
   ·rintro ⟨h1,h2,h3⟩;refine ⟨zxB _ h1,by rw [h]; exact h2,fun w hw e=>?_⟩;rcases zy1.1 hw with e2 | hw
    ·rw [e2] at e; grind
    ·exact h3 w hw e
   ·rintro ⟨h1,h2,h3⟩;rcases zy1.1 h1 with e | h1
    ·rw [e] at h2; grind
    ·exact ⟨h1,by rw [<-h]; exact h2,fun w hw e=>h3 w (zxB _ hw) e⟩
  ·rw [zxI h,zy1,ih];constructor
   ·rintro (e | ⟨h1,h2,h3⟩)
    ·subst e;refine ⟨zxA ..,by grind,fun w hw e=>?_⟩;rcases zy1.1 hw with e2 | hw
     ·rw [e2]; exact zxr _
     ·exact hy2 w hw e
    ·refine ⟨zxB _ h1,by grind,fun w hw e=>?_⟩;rcases zy1.1 hw with e2 | hw
     ·rw [e2] at e; grind
     ·exact h3 w hw e
   ·rintro ⟨h1,h2,h3⟩;rcases zy1.1 h1 with e | h1
    ·exact .inl e
    ·by_cases hyz : y.1<z.1
     ·exact .inr ⟨h1,hyz,fun w hw e=>h3 w (zxB _ hw) e⟩
     ·have e1 : z.1=y.1:=by have:=hy z h1; grind
      have k1:=h3 y (zxA ..) e1.symm;have k2:=hy2 z h1 e1
      left
      exact zxo e1 (by omega)
theorem znF : ∀ {p : Rat} {l : List (Rat×Nat)},SrtC l->(∀ w∈l,p<=w.1)->AscP (fstH p l)/\∀ w∈fstH p l,p<w.1
 | p,[],_,_=>⟨List.Pairwise.nil,fun w h=>by cases h⟩
 | p,y::r,hs,hp=>by
  have hs':=zBG.1 hs;have hy : ∀ w∈r,y.1<=w.1:=fun w hw=>(zbx.1 (hs'.1 w hw)).1
  have ih:=znF (p:=y.1) hs'.2 hy;have hpy:=hp y (zxA ..);refine ⟨?_,fun w hw=>((zjA hs hp).1 hw).2.1⟩;unfold fstH;split
  ·exact ih.1
  ·exact zBG.2 ⟨ih.2,ih.1⟩
theorem zsx : ∀ {l : List (Rat×Nat)},SrtC l->AscP (frsP l)
 | [],_=>List.Pairwise.nil
 | y::r,hs=>by
  have hs':=zBG.1 hs;have ih:=znF (p:=y.1) hs'.2 (fun w hw=>(zbx.1 (hs'.1 w hw)).1);exact zBG.2 ⟨ih.2,ih.1⟩
theorem zrV {z : Rat×Nat} : ∀ {l : List (Rat×Nat)},SrtC l->(z∈frsP l↔z∈l/\∀ w∈l,w.1=z.1->z.2<=w.2)
 | [],_=>⟨fun h=>(by cases h),fun h=>(by cases h.1)⟩
 | y::r,hs=>by
  have hs':=zBG.1 hs;have hy : ∀ w∈r,y.1<=w.1:=fun w hw=>(zbx.1 (hs'.1 w hw)).1
  have hy2 : ∀ w∈r,w.1=y.1->y.2<=w.2:=fun w hw e=>(zbx.1 (hs'.1 w hw)).2 e
  show z∈y::fstH y.1 r↔_;rw [zy1,zjA hs'.2 hy];constructor
  ·rintro (e | ⟨h1,h2,h3⟩)
   ·subst e;refine ⟨zxA ..,fun w hw e=>?_⟩;rcases zy1.1 hw with e2 | hw
    ·rw [e2]; exact zxr _
    ·exact hy2 w hw e
   ·refine ⟨zxB _ h1,fun w hw e=>?_⟩;rcases zy1.1 hw with e2 | hw
    ·rw [e2] at e; grind
    ·exact h3 w hw e
  ·rintro ⟨h1,h3⟩;rcases zy1.1 h1 with e | h1
   ·exact .inl e
   ·by_cases hyz : y.1<z.1
    ·exact .inr ⟨h1,hyz,fun w hw e=>h3 w (zxB _ hw) e⟩
    ·have e1 : z.1=y.1:=by have:=hy z h1; grind
     have k1:=h3 y (zxA ..) e1.symm;have k2:=hy2 z h1 e1
     left
     exact zxo e1 (by omega)
theorem zsX {lo hi : V} {E : List (V×V)} {p : Pc} (hp : p∈pcsL lo hi E) {l r : Rat} (hlr : l<r) (hn : ∀ z∈xsL lo hi (pcsL lo hi E),¬(l<z/\z<r)) : crsO lo hi l r p=(rcO lo hi ((l+r)/2) (p.a,p.b)).map fun y=>(y,p.i):=by
 obtain ⟨e,he⟩:=zdA hp;have hle:=zkh hp;have ha:=hn p.a.x (ziH.2 (.inr (.inr (.inl ⟨p,hp,.inl rfl⟩))));have hb:=hn p.b.x (ziH.2 (.inr (.inr (.inl ⟨p,hp,.inr rfl⟩))));have m1 : l<(l+r)/2:=by grind
 have m2 : (l+r)/2<r:=by grind
 unfold crsO rcO;by_cases hv : p.a.x=p.b.x
 ·rw [zks hv,zxJ (show p.a=p.b\/p.a.x=p.b.x\/(l+r)/2<p.a.x\/p.b.x<(l+r)/2 from .inr (.inl hv))];rfl
 have hd : (p.b-p.a).x≠0:=fun h=>hv (by have : p.b.x-p.a.x=0:=h; grind)
 have hlt : p.a.x<p.b.x:=by
  unfold leP2 ltP2 at hle;grind
 have none_of : ∀ x,(x<p.a.x\/p.b.x<x)->hgtO p x=none:=fun x hx=>by
  cases ho : hgtO p x with
  | none=>rfl
  | some y =>
   obtain ⟨_,t,⟨t0,t1⟩,et⟩:=zfk ho;have ex : x=p.a.x+(p.b.x-p.a.x)*t:=zyr V.x et;have k1:=zBE (show 0<=p.b.x-p.a.x by grind) t0;have k2:=zBE (show 0<=p.b.x-p.a.x by grind) (show 0<=1-t by grind);rcases hx with h | h <;> grind
 have some_of : ∀ x,p.a.x<=x->x<=p.b.x->∃ y,hgtO p x=some y/\hgtE p.a p.b x=(y,0)/\onS p.a p.b ⟨x,y⟩:=fun x h1 h2=>by
  have h0 : p.b.x-p.a.x≠0:=hd;have hq:=zBD (a:=x-p.a.x) h0;obtain ⟨t,ht⟩ : ∃ t,t=(x-p.a.x)/(p.b.x-p.a.x):=⟨_,rfl⟩;rw [<-ht] at hq;have t0 : 0<=t:=by
   refine zB6.1 fun h=>?_
   have:=zBB (show 0 < -t by grind) (show 0<p.b.x-p.a.x by grind);grind
  have t1 : t<=1:=by
   refine zB6.1 fun h=>?_
   have:=zBB (show 0<t-1 by grind) (show 0<p.b.x-p.a.x by grind);grind
  have hon : onS p.a p.b ⟨x,p.a.y+(p.b.y-p.a.y)*t⟩:=by
   refine ⟨t,⟨t0,t1⟩,?_⟩;show (⟨x,_⟩ : V)=⟨p.a.x+(p.b.x-p.a.x)*t,p.a.y+(p.b.y-p.a.y)*t⟩
   congr 1
   grind
  have hE:=zef hd hon;exact ⟨_,by rw [hgtO,hE]; rfl,hE,hon⟩
 by_cases ho : (l+r)/2<p.a.x\/p.b.x<(l+r)/2
 ·rw [zxJ (show p.a=p.b\/p.a.x=p.b.x\/(l+r)/2<p.a.x\/p.b.x<(l+r)/2 from .inr (.inr ho))];rcases ho with h | h
  ·rw [none_of l (.inl (by grind))]; rfl
  ·rw [none_of r (.inr (by grind))]
   cases hgtO p l <;> rfl
 ·have hna : p.a≠p.b:=he.ne;rw [zxI (show ¬(p.a=p.b\/p.a.x=p.b.x\/(l+r)/2<p.a.x\/p.b.x<(l+r)/2) from fun h=>h.elim hna (fun h=>h.elim hv ho))];obtain ⟨a,a1,_,a3⟩:=some_of l (by grind) (by grind);obtain ⟨b,b1,_,b3⟩:=some_of r (by grind) (by grind);have hm:=zjb a3 b3;have hE:=zef hd hm;have iA:=(zd6 he.ia he.ib a3).2;have iB:=(zd6 he.ia he.ib b3).2;have iA1 : lo.y<=a:=iA.1;have iA2 : a<=hi.y:=iA.2;have iB1 : lo.y<=b:=iB.1;have iB2 : b<=hi.y:=iB.2;rw [a1,b1];show (if a=b/\(a=lo.y\/a=hi.y) then none else some ((a+b)/2,p.i))=Option.map _ (if (hgtE p.a p.b ((l+r)/2)).1=lo.y\/(hgtE p.a p.b ((l+r)/2)).1=hi.y then none else some (hgtE p.a p.b ((l+r)/2)).1)
  rw [show hgtE p.a p.b ((l+r)/2)=((a+b)/2,0) from hE];show _=Option.map _ (if (a+b)/2=lo.y\/(a+b)/2=hi.y then none else some ((a+b)/2));by_cases hc : a=b/\(a=lo.y\/a=hi.y)
  ·rw [zxJ hc,zxJ]
   ·rfl
   ·obtain ⟨e1,e2⟩:=hc;rcases e2 with e2 | e2
    ·left; grind
    ·right; grind
  ·rw [zxI hc,zxI]
   ·rfl
   ·intro h;refine hc ?_;rcases h with h | h
    ·exact ⟨by grind,.inl (by grind)⟩
    ·exact ⟨by grind,.inr (by grind)⟩
theorem zvl {lo hi : V} {E : List (V×V)} {l r : Rat} (hlr : l<r) (hn : ∀ z∈xsL lo hi (pcsL lo hi E),¬(l<z/\z<r)) : (strI lo hi (parL lo hi E) ((l+r)/2) E.length).map (·.2)=zdN lo hi (pcsL lo hi E) l r:=by
 rw [zdN,<-zrD]
 congr 1
 refine zqj (zg8 ..) (zsx (zee _)) fun z=>?_
 obtain ⟨y,i⟩:=z;have key : ∀ {y i},(y,i)∈crsL lo hi (pcsL lo hi E) l r↔i<E.length/\((parL lo hi E)[i]?).bind (rcO lo hi ((l+r)/2))=some y:=fun {y i}=>by
  rw [crsL,zyU];constructor
  ·rintro ⟨p,hp,h⟩;rw [zsX hp hlr hn] at h;have hq:=zfh hp;have hl:=(zyz.1 hq.1).1;rw [zyA] at hl
   cases hc : rcO lo hi ((l+r)/2) (p.a,p.b) with
   | none=>rw [hc] at h; cases h
   | some y' =>
    rw [hc] at h
    cases h
    exact ⟨hl,by rw [hq.1]; exact hc⟩
  ·rintro ⟨h1,h2⟩
   cases hs : (parL lo hi E)[i]? with
   | none=>rw [hs] at h2; cases h2
   | some s =>
    rw [hs] at h2;have h2 : rcO lo hi ((l+r)/2) s=some y:=h2;have hne : s.1≠s.2:=fun h=>by
     unfold rcO at h2;rw [zxJ (.inl h)] at h2; cases h2
    have hp:=zh7.1 ⟨hs,hne⟩;refine ⟨_,hp,?_⟩;rw [zsX hp hlr hn];show (rcO lo hi ((l+r)/2) s).map _=_;rw [h2]; rfl
 have hsm : ∀ {z},z∈sortC (crsL lo hi (pcsL lo hi E) l r)↔z∈crsL lo hi (pcsL lo hi E) l r:=fun {z}=>(zb0 _).mem_iff
 rw [zi6,zrV (zee _),hsm,key];constructor
 ·rintro ⟨h1,h2,h3⟩;refine ⟨⟨h1,h2⟩,fun w hw e=>?_⟩;obtain ⟨w1,w2⟩:=w;have e : w1=y:=e;subst e;have:=key.1 (hsm.1 hw);exact h3 w2 this.1 this.2
 ·rintro ⟨⟨h1,h2⟩,h3⟩;exact ⟨h1,h2,fun j hj hy=>h3 (y,j) (hsm.2 (key.2 ⟨hj,hy⟩)) rfl⟩
theorem zgC {f g : Rat->Rat->List Nat} : ∀ {l : List Rat},(∀ c x y,l[c]?=some x->l[c+1]?=some y->f x y=g x y)->zbC f l=zbC g l
 | [],_=>rfl
 | [a],_=>rfl
 | a::b::r,h=>by
  unfold zbC;rw [h 0 a b rfl rfl,zgC (l:=b::r) fun c x y hx hy=>h (c+1) x y hx hy]
theorem zii {s t : V×V} (hs : SzV KP s.1/\SzV KP s.2) (ht : SzV KP t.1/\SzV KP t.2) : ∀ x∈zce ⟨t.1,t.2,0⟩ ⟨s.1,s.2,0⟩,Sz KX x:=zm3 (p:=⟨t.1,t.2,0⟩) (q:=⟨s.1,s.2,0⟩) ht hs
theorem zpn {lo hi : V} {P : List (V×V)} (hlo : SzV K0 lo) (hhi : SzV K0 hi) (hP : ∀ e∈P,SzV KP e.1/\SzV KP e.2) (n : Nat) : ∀ x∈absI lo hi P n,Sz KX x:=fun x hx=>by
 rcases zj3.1 hx with h | h | ⟨i,s,_,h2,_,h4⟩
 ·rw [h]; exact hlo.1.le (by decide)
 ·rw [h]; exact hhi.1.le (by decide)
 ·have hs:=hP s (zyq h2);rcases h4 with h | h | ⟨j,t,_,k2,_,k4⟩
  ·rw [h]; exact hs.1.1.le (by decide)
  ·rw [h]; exact hs.2.1.le (by decide)
  ·exact zii hs (hP t (zyq k2)) x k4
theorem zuS {P : List (V×V)} {s : V×V} {L : List Rat} (hP : ∀ e∈P,SzV KP e.1/\SzV KP e.2) (hs : SzV KP s.1/\SzV KP s.2) (hL : ∀ x∈L,Sz KX x) (k : Nat) : ∀ x∈absJ P s L k,Sz KX x:=fun x hx=>by
 rcases zi8.1 hx with h | ⟨j,t,_,k2,_,k4⟩
 ·exact hL x h
 ·exact zii hs (hP t (zyq k2)) x k4
theorem zj9 {x : Rat} {l : List Rat} {k : Nat} (hx : Sz k x) (hl : ∀ y∈l,Sz k y) : ∀ y∈insU x l,Sz k y:=fun y hy=>by
 rcases zct.1 hy with h | h
 ·rw [h]; exact hx
 ·exact hl y h
theorem za3 {b o X j z : Nat} (h : X=j*12) : (some ⟨b,o+X+z,none⟩ : Option Addr)=(some (⟨b,o,none⟩ : Addr)).map (fun a=>a.add (j*12+z)):=by
 subst h; rw [zxp,zxK,zxS]
theorem zaW {b o X j : Nat} (h : X=j*12) : (some ⟨b,o+X,none⟩ : Option Addr)=(some (⟨b,o,none⟩ : Addr)).map (fun a=>a.add (j*12+0)):=za3 (z:=0) h
abbrev SlI (n : Nat):={p : Option Addr×Nat // n<=p.2}
def slIV {n : Nat} (p : SlI n) : Value:=.slice p.1.1 n p.1.2
def slIR {n : Nat} (xs : List Value) (p : SlI n) : List Res:=[zai p.1.1 xs]
theorem zhH {A : Option Addr} {xs : List Value} {w : World} (h : SlF A xs w) (hx : 0<xs.length) : ∃ b o,A=some ⟨b,o,none⟩:=by
 rcases h with h | ⟨b,o,e,_⟩
 ·rw [h] at hx; cases hx
 ·exact ⟨b,o,e⟩
theorem zh0 (lo hi : V) (B : Option Addr) (cB : Nat) (P : List (V×V)) (hlo : SzV K0 lo) (hhi : SzV K0 hi) (hx : lo.x<hi.x) (hP : ∀ e∈P,SzV KP e.1/\SzV KP e.2) (hl : P.length<=400) :
   FnM PP 47 [bxV ⟨PQ lo,PQ hi⟩,.slice B P.length cB] (facts [zai B (rowV sgq P)]) (zea (ι:=SlI (absI lo hi P P.length).length) slIV (slIR (rowV ratQ (absI lo hi P P.length)))):=by
 refine FnE.ofS zab mixed Tryz.func47 rfl rfl (zxW rfl) (by simp [zzk]) ?_;intro w hw;obtain ⟨n,hn⟩ : ∃ n,n=P.length:=⟨_,rfl⟩;have hB : 0<n->∃ b o,B=some ⟨b,o,none⟩:=fun h=>zhH (zaK hw) (by rw [zad zaT]; omega)
 rw [<-hn] at hl ⊢;refine zy9 zab mixed ?_;conv=>whnf
 refine zy9 zab mixed ?_;conv=>whnf
 refine zAk ?_;refine zy9 zab mixed ?_;conv=>whnf
 refine zAl ?_;refine zy8 ?_ (SLe.own 5 17 3 zat 3 2 rfl rfl rfl rfl (by decide) rfl rfl);refine WPS.ofX (zBJ 3 rfl (fun A0 c0 hc0 hf0=>zBK ?_));refine zAm (ι:=Nat×Option Addr×Nat) (fun ⟨i,A,c⟩=>⟨[(1,.o (.v (.slice B n cB))),(5,.o (.v (.slice A (absI lo hi P i).length c))),(6,.o (.v (.int .i64 i)))],[],[zai B (rowV sgq P),zai A (rowV ratQ (absI lo hi P i))]⟩)
   (fun ⟨i,A,c⟩=>i<=n/\(absI lo hi P i).length<=c/\Fr w A) (fun ⟨i,_⟩=>n-i) (0,A0,c0) ⟨zyD _,hc0,hf0⟩
   (zzj ⟨rfl,rfl,rfl,trivial⟩ trivial (fun R hR=>by
     rcases zy1.1 hR with rfl | hR
     · exact zxB _ (zxA ..)
     · rw [zyZ.1 hR]; exact zxA ..)) ?_
 rintro ⟨i,A,c⟩ ⟨hi0,hc,hfr⟩;have zI:=zpn hlo hhi hP i;have aI:=zeC hx P i;have lI:=zje lo hi P i (by omega);refine zy9 zab mixed ?_;conv=>whnf
 by_cases hin : i<n;rotate_left
 · refine zac (zz9 (show ¬(i : Int)<(n : Int) by omega)) ?_;obtain rfl : i=n:=by omega
   refine zy7 zab mixed ?_;conv=>whnf
   intro N E w' hm;refine ⟨⟨(A,c),hc⟩,rfl,fun R hR=>?_,fun R hR b hb=>?_⟩
   · rw [zyZ.1 hR]; exact (hm.res _ (zxB _ (zxA ..))).2.1
   · rw [zyZ.1 hR] at hb; exact hfr.bs b hb
 refine zag (zz8 (show (i : Int)<(n : Int) by omega)) ?_;conv=>whnf
 obtain ⟨e,he⟩ : ∃ e,P[i]?=some e:=⟨_,zyy (by omega)⟩;have heo:=hP e (zyq he);obtain ⟨bB,oB,rfl⟩:=hB (by omega);refine zAk ?_;refine zAl ?_;refine zy9 zab mixed ?_;conv=>whnf
 refine ⟨⟨by omega,by omega,rfl⟩,?_⟩;rw [zxp,zxK];conv=>whnf
 refine zBM (o:=0) sgq zaT (zxA ..) he (by first | exact za3 rfl | exact zaW rfl) (by decide) (by decide) (fun h=>by cases h) ?_;conv=>whnf
 refine cf (zlg e.1 e.2) ?_;conv=>whnf
 have wi : some (SV.o (.v (.int .i64 (IntKind.i64.wrap ((i : Int)+1)))))=some (SV.o (.v (.int .i64 ((i+1 : Nat) : Int)))):=zaq hin (by omega);by_cases hne : e.1=e.2
 · refine zag (zz8 hne) ?_;conv=>whnf
   have hI : absI lo hi P (i+1)=absI lo hi P i:=by rw [absI,he]; exact zxJ hne
   refine zy7 zab mixed ?_;conv=>whnf
   refine ⟨(i+1,A,c),⟨by omega,by rw [hI]; exact hc,hfr⟩,by show n-(i+1)<n-i; omega,zzj ⟨rfl,by rw [hI]; rfl,wi,trivial⟩ trivial (fun R hR=>by change R∈[_,zai _ (rowV ratQ (absI lo hi P (i+1)))] at hR; rw [hI] at hR; exact hR)⟩
 refine zac (zz9 hne) ?_;conv=>whnf
 obtain ⟨L0,hL0⟩ : ∃ L0,L0=insU e.2.x (insU e.1.x (absI lo hi P i)):=⟨_,rfl⟩;have hI : absI lo hi P (i+1)=absJ P e L0 i:=by rw [absI,he,hL0]; exact zxI hne
 have z1 : Sz KX e.1.x:=heo.1.1.le (by decide);have z2 : Sz KX e.2.x:=heo.2.1.le (by decide);have zI1:=zj9 z1 zI;have zL0 : ∀ y∈L0,Sz KX y:=by rw [hL0]; exact zj9 z2 zI1
 have aI1 : Asc (insU e.1.x (absI lo hi P i)):=zcb aI;have aL0 : Asc L0:=by rw [hL0]; exact zcb aI1
 have lI1:=zcu e.1.x (absI lo hi P i);have lL0:=zcu e.2.x (insU e.1.x (absI lo hi P i));rw [<-hL0] at lL0;have up : ∀ {l : List Rat},(∀ y∈l,Sz KX y)->∀ y∈l,Sz KV y:=fun h y hy=>(h y hy).le (by decide)
 refine zAk ?_;refine zB9 zab mixed [] (14+4294967296*8) zmq (K:=fun st=>∃ A c,L0.length<=c/\Fr w A/\SLe ⟨w,[],Tryz.f47.ntmps⟩ st ⟨[(1,.o (.v (.slice (some ⟨bB,oB,none⟩) n cB))),(5,.o (.v (.slice A L0.length c))),(6,.o (.v (.int .i64 i)))],[],[zai (some ⟨bB,oB,none⟩) (rowV sgq P),zai A (rowV ratQ L0)]⟩) (by kernel_rfl) ?_ ?_
 · have hix : (0 : Int)<=(i : Int)/\(i : Int)<(n : Int)/\(some (⟨bB,oB,none⟩ : Addr)).isSome=true:=⟨by omega,by omega,rfl⟩;conv=>whnf
   repeat' (first
     | exact True.intro
     | (refine And.intro ?_ ?_ <;> (conv=>whnf))
     | (refine ⟨hix,?_⟩; rw [zxp,zxK]; conv=>whnf)
     | (refine zBM (o:=0) sgq zaT (by first | exact zxA .. | exact zxB _ (zxA ..)) he (by first | exact za3 rfl | exact zaW rfl) (by decide) (by decide) (fun h=>by cases h) ?_; conv=>whnf)
     | (refine zBM (o:=6) sgq zaT (by first | exact zxA .. | exact zxB _ (zxA ..)) he (by first | exact za3 rfl | exact zaW rfl) (by decide) (by decide) (fun h=>by cases h) ?_; conv=>whnf)
     | (refine zCc (l:=absI lo hi P i) (x:=e.1.x) aI (z1.le (by decide)) (up zI) (by omega) hc (zxB _ (zxA ..)) hfr (fun A' c' hc' hfr'=>?_) rfl rfl; conv=>whnf)
     | (refine zCc (l:=insU e.1.x (absI lo hi P i)) (x:=e.2.x) aI1 (z2.le (by decide)) (up zI1) (by omega) (by assumption) (zxA ..) (by assumption) (fun A' c' hc' hfr'=>?_) rfl rfl; rw [<-hL0] at *; conv=>whnf)
     | (refine ⟨_,_,?_,?_,zzj ⟨rfl,rfl,rfl,trivial⟩ trivial (fun R hR=>?_)⟩
        · assumption
        · assumption
        · rcases zy1.1 hR with rfl | hR
          · exact zxB _ (zxB _ (zxA ..))
          · rw [zyZ.1 hR]; exact zxA ..))
 rintro st ⟨A1,c1,hc1,hfr1,hst⟩;refine zy8 ?_ hst;refine zy9 zab mixed ?_;conv=>whnf
 refine zAl ?_;refine zAm (ι:=Nat×Option Addr×Nat) (fun ⟨k,A,c⟩=>⟨[(1,.o (.v (.slice (some ⟨bB,oB,none⟩) n cB))),(5,.o (.v (.slice A (absJ P e L0 k).length c))),(6,.o (.v (.int .i64 i))),(7,.o (.v (.int .i64 k)))],[],[zai (some ⟨bB,oB,none⟩) (rowV sgq P),zai A (rowV ratQ (absJ P e L0 k))]⟩)
   (fun ⟨k,A,c⟩=>k<=i/\(absJ P e L0 k).length<=c/\Fr w A) (fun ⟨k,_⟩=>i-k) (0,A1,c1) ⟨zyD _,hc1,hfr1⟩
   (zzj ⟨rfl,rfl,rfl,rfl,trivial⟩ trivial (fun R hR=>hR)) ?_
 rintro ⟨k,A2,c2⟩ ⟨hk0,hc2,hfr2⟩;have zJ:=zuS hP heo zL0 k;have aJ:=zg4 (P:=P) (s:=e) aL0 k;have lJ:=zjf P e L0 k;refine zy9 zab mixed ?_;conv=>whnf
 by_cases hki : k<i;rotate_left
 · refine zac (zz9 (show ¬(k : Int)<(i : Int) by omega)) ?_;obtain rfl : k=i:=by omega
   conv=>whnf
   refine zy7 zab mixed ?_;conv=>whnf
   exact ⟨(k+1,A2,c2),⟨by omega,by rw [hI]; exact hc2,hfr2⟩,by show n-(k+1)<n-k; omega,zzj ⟨rfl,by rw [hI]; rfl,wi,trivial⟩ trivial (fun R hR=>by change R∈[_,zai _ (rowV ratQ (absI lo hi P (k+1)))] at hR; rw [hI] at hR; exact hR)⟩
 refine zag (zz8 (show (k : Int)<(i : Int) by omega)) ?_;conv=>whnf
 obtain ⟨t,ht⟩ : ∃ t,P[k]?=some t:=⟨_,zyy (by omega)⟩;have hto:=hP t (zyq ht);have wk : some (SV.o (.v (.int .i64 (IntKind.i64.wrap ((k : Int)+1)))))=some (SV.o (.v (.int .i64 ((k+1 : Nat) : Int)))):=zaq hki (by omega);refine zAk ?_;refine zAl ?_;refine zy9 zab mixed ?_;conv=>whnf
 refine ⟨⟨by omega,by omega,rfl⟩,?_⟩;rw [zxp,zxK];conv=>whnf
 refine zBM (o:=0) sgq zaT (zxA ..) ht (by first | exact za3 rfl | exact zaW rfl) (by decide) (by decide) (fun h=>by cases h) ?_;conv=>whnf
 refine cf (zlg t.1 t.2) ?_;conv=>whnf
 have hJ : absJ P e L0 (k+1)=absK e t (absJ P e L0 k):=by rw [absJ,ht]
 by_cases htn : t.1=t.2
 · refine zag (zz8 htn) ?_;conv=>whnf
   have hJ' : absJ P e L0 (k+1)=absJ P e L0 k:=by rw [hJ]; exact zxJ htn
   refine zy7 zab mixed ?_;conv=>whnf
   exact ⟨(k+1,A2,c2),⟨by omega,by rw [hJ']; exact hc2,hfr2⟩,by show i-(k+1)<i-k; omega,zzj ⟨rfl,by rw [hJ']; rfl,rfl,wk,trivial⟩ trivial (fun R hR=>by change R∈[_,zai _ (rowV ratQ (absJ P e L0 (k+1)))] at hR; rw [hJ'] at hR; exact hR)⟩
 refine zac (zz9 htn) ?_;conv=>whnf
 refine zy9 zab mixed ?_;conv=>whnf
 refine zak.lateAt 17 [(14,8,[11,12])] (by kernel_rfl) ?_;conv=>whnf
 refine ⟨⟨by omega,by omega,rfl⟩,?_⟩;rw [zxp,zxK];conv=>whnf
 refine zBM (o:=0) sgq zaT (zxA ..) ht (by first | exact za3 rfl | exact zaW rfl) (by decide) (by decide) (fun h=>by cases h) ?_;conv=>whnf
 refine ⟨⟨by omega,by omega,rfl⟩,?_⟩;rw [zxp,zxK];conv=>whnf
 refine zBM (o:=0) sgq zaT (zxA ..) he (by first | exact za3 rfl | exact zaW rfl) (by decide) (by decide) (fun h=>by cases h) ?_;conv=>whnf
 have hdt : ¬zb3 ⟨PQ t.1,PQ t.2⟩:=fun h=>htn (by have:=zaI.1 h; simpa using this)
 have hde : ¬zb3 ⟨PQ e.1,PQ e.2⟩:=fun h=>hne (by have:=zaI.1 h; simpa using this)
 refine cd (zwc ⟨PQ t.1,PQ t.2⟩ ⟨PQ e.1,PQ e.2⟩ ⟨hto.1.q.le (by decide),hto.2.q.le (by decide)⟩ ⟨heo.1.q.le (by decide),heo.2.q.le (by decide)⟩) ?_;rw [zji,zxI (fun h=>h.elim hdt hde),show (⟨PQ t.1,PQ t.2⟩ : Sg).A.v=t.1 from PQ_v _,show (⟨PQ t.1,PQ t.2⟩ : Sg).B.v=t.2 from PQ_v _,show (⟨PQ e.1,PQ e.2⟩ : Sg).A.v=e.1 from PQ_v _,show (⟨PQ e.1,PQ e.2⟩ : Sg).B.v=e.2 from PQ_v _]
 cases hm : zbV t.1 t.2 e.1 e.2 with
 | none =>
   have hJ' : absJ P e L0 (k+1)=absJ P e L0 k:=by rw [hJ,absK,zxI htn,hm]
   conv=>whnf
   refine zy7 zab mixed ?_;conv=>whnf
   refine zy7 zab mixed ?_;conv=>whnf
   exact ⟨(k+1,A2,c2),⟨by omega,by rw [hJ']; exact hc2,hfr2⟩,by show i-(k+1)<i-k; omega,zzj ⟨rfl,by rw [hJ']; rfl,rfl,wk,trivial⟩ trivial (fun R hR=>by change R∈[_,zai _ (rowV ratQ (absJ P e L0 (k+1)))] at hR; rw [hJ'] at hR; exact hR)⟩
 | some mn =>
   obtain ⟨m1,m2⟩:=mn;obtain ⟨L1,hL1⟩ : ∃ L1,L1=insU m2.x (insU m1.x (absJ P e L0 k)):=⟨_,rfl⟩;have hJ' : absJ P e L0 (k+1)=L1:=by rw [hJ,absK,zxI htn,hm,hL1]
   have hmx:=zii heo hto;have y1 : Sz KX m1.x:=hmx _ (by unfold zce; rw [hm]; exact zxA ..);have y2 : Sz KX m2.x:=hmx _ (by unfold zce; rw [hm]; exact zxB _ (zyZ.2 rfl));have zJ1:=zj9 y1 zJ;have aJ1 : Asc (insU m1.x (absJ P e L0 k)):=zcb aJ;have lJ1:=zcu m1.x (absJ P e L0 k);conv=>whnf
   refine zy9 zab mixed ?_;conv=>whnf
   refine WPS.cond rfl (fun _=>?_) (fun h=>by cases h);refine zB9 zab mixed [] (8+4294967296*5) zrM (K:=fun st=>∃ A c,L1.length<=c/\Fr w A/\SLe ⟨w,[],Tryz.f47.ntmps⟩ st ⟨[(1,.o (.v (.slice (some ⟨bB,oB,none⟩) n cB))),(5,.o (.v (.slice A L1.length c))),(6,.o (.v (.int .i64 i))),(7,.o (.v (.int .i64 k)))],[],[zai (some ⟨bB,oB,none⟩) (rowV sgq P),zai A (rowV ratQ L1)]⟩) (by kernel_rfl) ?_ ?_
   · conv=>whnf
     repeat' (first
       | exact True.intro
       | (refine And.intro ?_ ?_ <;> (conv=>whnf))
       | (refine zCc (l:=absJ P e L0 k) (x:=m1.x) aJ (y1.le (by decide)) (up zJ) (by omega) hc2 (zxB _ (zxA ..)) hfr2 (fun A' c' hc' hfr'=>?_) rfl rfl; conv=>whnf)
       | (refine zCc (l:=insU m1.x (absJ P e L0 k)) (x:=m2.x) aJ1 (y2.le (by decide)) (up zJ1) (by omega) (by assumption) (zxA ..) (by assumption) (fun A' c' hc' hfr'=>?_) rfl rfl; rw [<-hL1] at *; conv=>whnf)
       | (refine ⟨_,_,?_,?_,zzj ⟨rfl,rfl,rfl,rfl,trivial⟩ trivial (fun R hR=>?_)⟩
          · assumption
          · assumption
          · rcases zy1.1 hR with rfl | hR
            · exact zxB _ (zxB _ (zxA ..))
            · rw [zyZ.1 hR]; exact zxA ..))
   rintro st ⟨A3,c3,hc3,hfr3,hst⟩;refine zy8 ?_ hst;refine zy7 zab mixed ?_;conv=>whnf
   exact ⟨(k+1,A3,c3),⟨by omega,by rw [hJ']; exact hc3,hfr3⟩,by show i-(k+1)<i-k; omega,zzj ⟨rfl,by rw [hJ']; rfl,rfl,wk,trivial⟩ trivial (fun R hR=>by change R∈[_,zai _ (rowV ratQ (absJ P e L0 (k+1)))] at hR; rw [hJ'] at hR; exact hR)⟩
theorem zdG {b o X j y z : Nat} (h : X=j*12) : (some ⟨b,o+X+y+z,none⟩ : Option Addr)=(some (⟨b,o,none⟩ : Addr)).map (fun a=>a.add (j*12+(y+z))):=by
 subst h; rw [zxp,zxK,zxS,zxS]
theorem zuQ {lo hi : V} {P : List (V×V)} {x : Rat} (hlo : SzV K0 lo) (hhi : SzV K0 hi) (hP : ∀ e∈P,SzV KP e.1/\SzV KP e.2) (hx : Sz KX x) (n : Nat) : ∀ y∈ordI lo hi P x n,Sz 200000 y:=fun y hy=>by
 rcases zjQ.1 hy with h | h | ⟨i,s,_,h2,_,h4⟩
 ·rw [h]; exact hlo.2.le (by decide)
 ·rw [h]; exact hhi.2.le (by decide)
 ·exact zl9 (p:=⟨s.1,s.2,0⟩) (hP s (zyq h2)) hx y h4
theorem zib {e : V×V} (h : e.1≠e.2) (x : Rat) : zcV ⟨PQ e.1,PQ e.2⟩ (Q x).v=hgtE e.1 e.2 x:=by
 have hd : ¬zb3 ⟨PQ e.1,PQ e.2⟩:=fun k=>h (by have:=zaI.1 k; simpa using this)
 rw [zcV,zxI hd,Q_v,show (⟨PQ e.1,PQ e.2⟩ : Sg).A.v=e.1 from PQ_v _,show (⟨PQ e.1,PQ e.2⟩ : Sg).B.v=e.2 from PQ_v _]
theorem zhp (lo hi : V) (B : Option Addr) (cB : Nat) (P : List (V×V)) (x : Rat) (hlo : SzV K0 lo) (hhi : SzV K0 hi) (hy : lo.y<hi.y) (hP : ∀ e∈P,SzV KP e.1/\SzV KP e.2) (hzx : Sz KX x) (hl : P.length<=400) :
   FnM PP 48 [bxV ⟨PQ lo,PQ hi⟩,.slice B P.length cB,qV x] (facts [zai B (rowV sgq P)]) (zea (ι:=SlI (ordI lo hi P x P.length).length) slIV (slIR (rowV ratQ (ordI lo hi P x P.length)))):=by
 refine FnE.ofS zab mixed Tryz.func48 rfl rfl (zxW rfl) (by simp [zzk]) ?_;intro w hw;obtain ⟨n,hn⟩ : ∃ n,n=P.length:=⟨_,rfl⟩;have hB : 0<n->∃ b o,B=some ⟨b,o,none⟩:=fun h=>zhH (zaK hw) (by rw [zad zaT]; omega)
 rw [<-hn] at hl ⊢;refine zy9 zab mixed ?_;conv=>whnf
 refine zy9 zab mixed ?_;conv=>whnf
 refine zAk ?_;refine zy9 zab mixed ?_;conv=>whnf
 refine zAl ?_;refine zy8 ?_ (SLe.own 7 17 4 zat 3 2 rfl rfl rfl rfl (by decide) rfl rfl);refine WPS.ofX (zBJ 4 rfl (fun A0 c0 hc0 hf0=>zBK ?_));refine zAm (ι:=Nat×Option Addr×Nat) (fun ⟨i,A,c⟩=>⟨[(1,.o (.v (.slice B n cB))),(5,.o (.p 5 0)),(7,.o (.v (.slice A (ordI lo hi P x i).length c))),(8,.o (.v (.int .i64 i)))],[(5,ratM (Q x))],[zai B (rowV sgq P),zai A (rowV ratQ (ordI lo hi P x i))]⟩)
   (fun ⟨i,A,c⟩=>i<=n/\(ordI lo hi P x i).length<=c/\Fr w A) (fun ⟨i,_⟩=>n-i) (0,A0,c0) ⟨zyD _,hc0,hf0⟩
   (zzj ⟨rfl,rfl,rfl,rfl,trivial⟩ ⟨mrf rfl,trivial⟩ (fun R hR=>by
     rcases zy1.1 hR with rfl | hR
     · exact zxB _ (zxA ..)
     · rw [zyZ.1 hR]; exact zxA ..)) ?_
 rintro ⟨i,A,c⟩ ⟨hi0,hc,hfr⟩;have zI:=zuQ hlo hhi hP hzx i;have aI:=zhb hy P x i;have lI:=znz lo hi P x i;refine zy9 zab mixed ?_;conv=>whnf
 by_cases hin : i<n;rotate_left
 · refine zac (zz9 (show ¬(i : Int)<(n : Int) by omega)) ?_;obtain rfl : i=n:=by omega
   refine zy7 zab mixed ?_;conv=>whnf
   intro N E w' hm;refine ⟨⟨(A,c),hc⟩,rfl,fun R hR=>?_,fun R hR b hb=>?_⟩
   · rw [zyZ.1 hR]; exact (hm.res _ (zxB _ (zxA ..))).2.1
   · rw [zyZ.1 hR] at hb; exact hfr.bs b hb
 refine zag (zz8 (show (i : Int)<(n : Int) by omega)) ?_;conv=>whnf
 obtain ⟨e,he⟩ : ∃ e,P[i]?=some e:=⟨_,zyy (by omega)⟩;have heo:=hP e (zyq he);obtain ⟨bB,oB,rfl⟩:=hB (by omega);have wi : some (SV.o (.v (.int .i64 (IntKind.i64.wrap ((i : Int)+1)))))=some (SV.o (.v (.int .i64 ((i+1 : Nat) : Int)))):=zaq hin (by omega);have hI : ordI lo hi P x (i+1)=ordK x e (ordI lo hi P x i):=by rw [ordI,he]
 have up : ∀ {l : List Rat},(∀ y∈l,Sz 200000 y)->∀ y∈l,Sz KV y:=fun h y hy=>(h y hy).le (by decide)
 refine zAk ?_;refine zAl ?_;refine zy9 zab mixed ?_;conv=>whnf
 refine ⟨⟨by omega,by omega,rfl⟩,?_⟩;rw [zxp,zxK];conv=>whnf
 refine zBM (o:=0) sgq zaT (zxA ..) he (by first | exact za3 rfl | exact zaW rfl | exact zdG rfl) (by decide) (by decide) (fun h=>by cases h) ?_;conv=>whnf
 refine cf (zlg e.1 e.2) ?_;conv=>whnf
 by_cases hne : e.1=e.2
 · refine zag (zz8 hne) ?_;conv=>whnf
   have hI' : ordI lo hi P x (i+1)=ordI lo hi P x i:=by rw [hI]; exact zxJ hne
   refine zy7 zab mixed ?_;conv=>whnf
   exact ⟨(i+1,A,c),⟨by omega,by rw [hI']; exact hc,hfr⟩,by show n-(i+1)<n-i; omega,zzj ⟨rfl,rfl,by rw [hI']; rfl,wi,trivial⟩ ⟨mrf rfl,trivial⟩ (fun R hR=>by change R∈[_,zai _ (rowV ratQ (ordI lo hi P x (i+1)))] at hR; rw [hI'] at hR; exact hR)⟩
 refine zac (zz9 hne) ?_;conv=>whnf
 refine zAk ?_;refine zy9 zab mixed ?_;conv=>whnf
 refine ⟨⟨by omega,by omega,rfl⟩,?_⟩;rw [zxp,zxK];conv=>whnf
 refine zBM (o:=0) sgq zaT (zxA ..) he (by first | exact za3 rfl | exact zaW rfl | exact zdG rfl) (by decide) (by decide) (fun h=>by cases h) ?_;conv=>whnf
 refine cf (zqb e.1 e.2) ?_;conv=>whnf
 refine WPS.cond rfl (fun hv=>?_) (fun hv=>?_)
 · have hv : e.1.x=e.2.x:=zA0 hv;refine zAk ?_;refine zy9 zab mixed ?_;conv=>whnf
   refine zak.qk ?_;conv=>whnf
   refine ⟨⟨by omega,by omega,rfl⟩,?_⟩;rw [zxp,zxK];conv=>whnf
   refine zBM (o:=0) sgq zaT (zxA ..) he (by first | exact za3 rfl | exact zaW rfl | exact zdG rfl) (by decide) (by decide) (fun h=>by cases h) ?_;conv=>whnf
   refine WPS.cond rfl (fun hx=>?_) (fun hx=>?_)
   · have hx : e.1.x=x:=zA0 ((eqRV e.1.x x).symm.trans hx);obtain ⟨L1,hL1⟩ : ∃ L1,L1=insU e.2.y (insU e.1.y (ordI lo hi P x i)):=⟨_,rfl⟩;have hI' : ordI lo hi P x (i+1)=L1:=by rw [hI,ordK,zxI hne,zxJ hv,zxJ hx,hL1]
     have y1 : Sz 200000 e.1.y:=heo.1.2.le (by decide);have y2 : Sz 200000 e.2.y:=heo.2.2.le (by decide);have zI1:=zj9 y1 zI;have aI1 : Asc (insU e.1.y (ordI lo hi P x i)):=zcb aI;have lI1:=zcu e.1.y (ordI lo hi P x i);refine zB9 zab mixed [] (14+4294967296*8) zuJ (K:=fun st=>∃ A c,L1.length<=c/\Fr w A/\SLe ⟨w,[],Tryz.f48.ntmps⟩ st ⟨[(1,.o (.v (.slice (some ⟨bB,oB,none⟩) n cB))),(5,.o (.p 5 0)),(7,.o (.v (.slice A L1.length c))),(8,.o (.v (.int .i64 i)))],[(5,ratM (Q x))],[zai (some ⟨bB,oB,none⟩) (rowV sgq P),zai A (rowV ratQ L1)]⟩) (by kernel_rfl) ?_ ?_
     · have hix : (0 : Int)<=(i : Int)/\(i : Int)<(n : Int)/\(some (⟨bB,oB,none⟩ : Addr)).isSome=true:=⟨by omega,by omega,rfl⟩;conv=>whnf
       repeat' (first
         | exact True.intro
         | (refine And.intro ?_ ?_ <;> (conv=>whnf))
         | (refine ⟨hix,?_⟩; rw [zxp,zxK]; conv=>whnf)
         | (refine zBM (o:=3) sgq zaT (by first | exact zxA .. | exact zxB _ (zxA ..)) he (by first | exact za3 rfl | exact zaW rfl | exact zdG rfl) (by decide) (by decide) (fun h=>by cases h) ?_; conv=>whnf)
         | (refine zBM (o:=9) sgq zaT (by first | exact zxA .. | exact zxB _ (zxA ..)) he (by first | exact za3 rfl | exact zaW rfl | exact zdG rfl) (by decide) (by decide) (fun h=>by cases h) ?_; conv=>whnf)
         | (refine zCc (l:=ordI lo hi P x i) (x:=e.1.y) aI (y1.le (by decide)) (up zI) (by omega) hc (zxB _ (zxA ..)) hfr (fun A' c' hc' hfr'=>?_) rfl rfl; conv=>whnf)
         | (refine zCc (l:=insU e.1.y (ordI lo hi P x i)) (x:=e.2.y) aI1 (y2.le (by decide)) (up zI1) (by omega) (by assumption) (zxA ..) (by assumption) (fun A' c' hc' hfr'=>?_) rfl rfl; rw [<-hL1] at *; conv=>whnf)
         | (refine ⟨_,_,?_,?_,zzj ⟨rfl,rfl,rfl,rfl,trivial⟩ ⟨mrf rfl,trivial⟩ (fun R hR=>?_)⟩
            · assumption
            · assumption
            · rcases zy1.1 hR with rfl | hR
              · exact zxB _ (zxB _ (zxA ..))
              · rw [zyZ.1 hR]; exact zxA ..))
     rintro st ⟨A1,c1,hc1,hfr1,hst⟩;refine zy8 ?_ hst;refine zy7 zab mixed ?_;conv=>whnf
     refine zy7 zab mixed ?_;conv=>whnf
     exact ⟨(i+1,A1,c1),⟨by omega,by rw [hI']; exact hc1,hfr1⟩,by show n-(i+1)<n-i; omega,zzj ⟨rfl,rfl,by rw [hI']; rfl,wi,trivial⟩ ⟨mrf rfl,trivial⟩ (fun R hR=>by change R∈[_,zai _ (rowV ratQ (ordI lo hi P x (i+1)))] at hR; rw [hI'] at hR; exact hR)⟩
   · have hx : ¬e.1.x=x:=zA1 ((eqRV e.1.x x).symm.trans hx);have hI' : ordI lo hi P x (i+1)=ordI lo hi P x i:=by rw [hI,ordK,zxI hne,zxJ hv,zxI hx]
     refine zy7 zab mixed ?_;conv=>whnf
     refine zy7 zab mixed ?_;conv=>whnf
     refine zy7 zab mixed ?_;conv=>whnf
     exact ⟨(i+1,A,c),⟨by omega,by rw [hI']; exact hc,hfr⟩,by show n-(i+1)<n-i; omega,zzj ⟨rfl,rfl,by rw [hI']; rfl,wi,trivial⟩ ⟨mrf rfl,trivial⟩ (fun R hR=>by change R∈[_,zai _ (rowV ratQ (ordI lo hi P x (i+1)))] at hR; rw [hI'] at hR; exact hR)⟩
 · have hv : ¬e.1.x=e.2.x:=zA1 hv;refine zy7 zab mixed ?_;conv=>whnf
   refine zy9 zab mixed ?_;conv=>whnf
   refine zy4 [(10,9,[8])] (by kernel_rfl) ?_;conv=>whnf
   refine ⟨⟨by omega,by omega,rfl⟩,?_⟩;rw [zxp,zxK];conv=>whnf
   refine zBM (o:=0) sgq zaT (zxA ..) he (by first | exact za3 rfl | exact zaW rfl | exact zdG rfl) (by decide) (by decide) (fun h=>by cases h) ?_;conv=>whnf
   refine cd (zjZ ⟨PQ e.1,PQ e.2⟩ (Q x) ⟨heo.1.q.le (by decide),heo.2.q.le (by decide)⟩ (hzx.q.le (by decide))) ?_;rw [zib hne];have hO : hgtO ⟨e.1,e.2,0⟩ x=if (hgtE e.1 e.2 x).2=0 then some (hgtE e.1 e.2 x).1 else none:=rfl
   have hzy : ∀ y,hgtO ⟨e.1,e.2,0⟩ x=some y->Sz 200000 y:=fun y hy=>ziP (p:=⟨e.1,e.2,0⟩) heo hzx hy
   generalize hgtE e.1 e.2 x=r at hO ⊢;obtain ⟨y,k⟩:=r;conv=>whnf
   refine zy9 zab mixed ?_;conv=>whnf
   refine WPS.cond rfl (fun hk=>?_) (fun hk=>?_)
   · have hk : k=0:=by simpa using hk
     have hO' : hgtO ⟨e.1,e.2,0⟩ x=some y:=by rw [hO]; exact zxJ hk
     have y1:=hzy y hO';have hI' : ordI lo hi P x (i+1)=insU y (ordI lo hi P x i):=by rw [hI,ordK,zxI hne,zxI hv,hO']
     refine zy7 zab mixed ?_;conv=>whnf
     refine zCc (l:=ordI lo hi P x i) (x:=y) aI (y1.le (by decide)) (up zI) (by omega) hc (zxB _ (zxA ..)) hfr (fun A' c' hc' hfr'=>?_) rfl rfl;conv=>whnf
     refine zy7 zab mixed ?_;conv=>whnf
     exact ⟨(i+1,A',c'),⟨by omega,by rw [hI']; exact hc',hfr'⟩,by show n-(i+1)<n-i; omega,zzj ⟨rfl,rfl,by rw [hI']; rfl,wi,trivial⟩ ⟨mrf rfl,trivial⟩ (fun R hR=>by
       change R∈[_,zai _ (rowV ratQ (ordI lo hi P x (i+1)))] at hR;rw [hI'] at hR;rcases zy1.1 hR with rfl | hR
       · exact zxB _ (zxA ..)
       · rw [zyZ.1 hR]; exact zxA ..)⟩
   · have hk : ¬k=0:=by simpa using hk
     have hO' : hgtO ⟨e.1,e.2,0⟩ x=none:=by rw [hO]; exact zxI hk
     have hI' : ordI lo hi P x (i+1)=ordI lo hi P x i:=by rw [hI,ordK,zxI hne,zxI hv,hO']
     refine zy7 zab mixed ?_;conv=>whnf
     refine zy7 zab mixed ?_;conv=>whnf
     exact ⟨(i+1,A,c),⟨by omega,by rw [hI']; exact hc,hfr⟩,by show n-(i+1)<n-i; omega,zzj ⟨rfl,rfl,by rw [hI']; rfl,wi,trivial⟩ ⟨mrf rfl,trivial⟩ (fun R hR=>by change R∈[_,zai _ (rowV ratQ (ordI lo hi P x (i+1)))] at hR; rw [hI'] at hR; exact hR)⟩
theorem WPS.cutN {P : Program} {C : Cx} {st : SS} {x y : Code} {Q : Exit->SS->Prop} (J : SS->Prop) (h1 : WPS P C x st (fun e s=>e=.normal/\J s)) (h2 : ∀ s,J s->WPS P C y s Q) : WPS P C (.seq x y) st Q :=
 zAk (h1.mono fun e s ⟨he,hJ⟩=>by subst he; exact h2 s hJ)
theorem zpv {y : Rat} {i : Nat} : ∀ {M : List (Rat×Nat)} {k : Nat},(∀ j z,M[j]?=some z->j<k->z.1<y)->(∀ z,M[k]?=some z->y<z.1)->k<=M.length->insY y i M=M.take k++(y,i)::M.drop k
 | [],k,_,_,hk=>by
  obtain rfl : k=0:=by simpa using hk
  rfl
 | z::M,0,_,h,_=>by
  have:=h z rfl;unfold insY;rw [zxI (by grind),zxI (by grind)]; rfl
 | z::M,k+1,h1,h2,hk=>by
  have:=h1 0 z rfl (by omega);unfold insY;rw [zxJ this,zpv (k:=k) (fun j u hj hl=>h1 (j+1) u hj (by omega)) (fun u hu=>h2 u hu) (by simpa using hk)];rfl
theorem zpY {y : Rat} {i : Nat} {z : Rat×Nat} : ∀ {M : List (Rat×Nat)} {k : Nat},(∀ j z,M[j]?=some z->j<k->z.1<y)->M[k]?=some z->z.1=y->insY y i M=M
 | [],k,_,h,_=>by simp at h
 | u::M,0,_,h,e=>by
  cases h
  unfold insY;rw [zxI (by grind),zxJ e]
 | u::M,k+1,h1,h2,e=>by
  have:=h1 0 u rfl (by omega);unfold insY;rw [zxJ this,zpY (k:=k) (fun j v hj hl=>h1 (j+1) v hj (by omega)) h2 e]
theorem zmI {A B : V} {x : Rat} (hA : SzV KP A) (hB : SzV KP B) (hx : Sz KY x) : Sz 400000 (hgtE A B x).1:=by
 have z0 : Sz 400000 (0 : Rat):=(show Sz 1 (0 : Rat) from ⟨by decide,by decide⟩).le (by decide);unfold hgtE;split
 ·exact z0
 ·split
  ·exact (hA.2.add (((hx.sub hA.1).div (hB.sub hA).1).mul (hB.sub hA).2)).le (by decide)
  ·exact z0
theorem zuI {lo hi : V} {P : List (V×V)} {x : Rat} (hP : ∀ e∈P,SzV KP e.1/\SzV KP e.2) (hx : Sz KY x) (n : Nat) : ∀ z∈strI lo hi P x n,Sz 400000 z.1:=fun z hz=>by
 obtain ⟨y,i⟩:=z;obtain ⟨_,h2,_⟩:=zi6.1 hz
 cases hp : P[i]? with
 | none=>rw [hp] at h2; cases h2
 | some s =>
  rw [hp] at h2;have h2 : rcO lo hi x s=some y:=h2;unfold rcO at h2;split at h2
  ·cases h2
  ·split at h2
   ·cases h2
   ·cases h2
    have:=hP s (zyq hp);exact zmI this.1 this.2 hx
theorem zno (k : Nat) : ∀ v∈intC k,v.oneCell'=true:=fun v hv=>by
 rw [zyZ.1 hv]; rfl
def zlD (n : Nat) : Code->Option Code
 | .region id ops b=>if Nat.beq id n=true then some (.region id ops b) else none
 | .seq a b=>(zlD n a).or (zlD n b)
 | .block _ a=>zlD n a
 | .loop a=>zlD n a
 | .cond _ a b=>(zlD n a).or (zlD n b)
 | _=>none
noncomputable def zsZ (f : Func) : Code:=f.body.getD .skip
theorem zrw (bB oB cB n : Nat) (A A' : Option Addr) (c c' m k i : Nat) (x y : Rat) (lo hi : V) (P : List (V×V)) (M : List (Rat×Nat)) (w : World) (hm : m=M.length) (hk : k<=m) (hc : m<=c) (hc' : m<=c') (lI : m<=400) (hins : insY y i M=M.take k++(y,i)::M.drop k) :
   WPS PP ⟨w,[],Tryz.f49.ntmps⟩ ((zlD 14 (zsZ Tryz.f49)).getD .skip) ⟨[(1,.o (.v (.slice (some ⟨bB,oB,none⟩) n cB))),(4,.o (.p 4 0)),(9,.o (.v (.slice A' m c'))),(10,.o (.v (.slice A m c))),(11,.o (.p 11 0)),(12,.o (.v (.int .i64 i))),(13,.o (.p 13 0)),(15,.o (.v (.int .i64 k)))],[(4,.box ((boxC ⟨PQ lo,PQ hi⟩).map AV.v) zaM),(11,ratM (Q x)),(13,ratM (Q y))],[zai (some ⟨bB,oB,none⟩) (rowV sgq P),zai A (rowV ratQ (M.map (·.1))),zai A' (rowV intC (M.map (·.2)))]⟩ (fun e st=>e=.normal/\SLe ⟨w,[],Tryz.f49.ntmps⟩ st ⟨[(1,.o (.v (.slice (some ⟨bB,oB,none⟩) n cB))),(4,.o (.p 4 0)),(9,.o (.v (.slice A' m c'))),(10,.o (.w 137)),(11,.o (.p 11 0)),(12,.o (.v (.int .i64 i))),(15,.o (.v (.int .i64 k)))],[(4,.box ((boxC ⟨PQ lo,PQ hi⟩).map AV.v) zaM),(11,ratM (Q x)),(137,.own zat 3 (m+1) (rowV ratQ ((insY y i M).map (·.1))))],[zai (some ⟨bB,oB,none⟩) (rowV sgq P),zai A' (rowV intC (M.map (·.2)))]⟩):=by
 have hm1 : (M.map (·.1)).length=m:=by rw [zyA,hm]
 have hm2 : (M.map (·.2)).length=m:=by rw [zyA,hm]
 have hsl0 : (0 : Int)<=0/\(0 : Int)<=(k : Int)/\(k : Int)<=(c : Int):=by omega
 have hsl1 : 0<=(k : Int)/\(k : Int)<=(m : Int)/\(m : Int)<=(c : Int):=by omega
 have hsl0' : (0 : Int)<=0/\(0 : Int)<=(k : Int)/\(k : Int)<=(c' : Int):=by omega
 have hsl1' : 0<=(k : Int)/\(k : Int)<=(m : Int)/\(m : Int)<=(c' : Int):=by omega
 have hb0 : 0+k<=9223372036854775807/\(0+k)*40<=140737488355328:=by omega
 have hb1 : (0+k)+1<=9223372036854775807/\((0+k)+1)*40<=140737488355328:=by omega
 have hb2 : ((0+k)+1)+(m-k)<=9223372036854775807/\(((0+k)+1)+(m-k))*40<=140737488355328:=by omega
 have hb0' : 0+k<=9223372036854775807/\(0+k)*8<=140737488355328:=by omega
 have hb1' : (0+k)+1<=9223372036854775807/\((0+k)+1)*8<=140737488355328:=by omega
 have hb2' : ((0+k)+1)+(m-k)<=9223372036854775807/\(((0+k)+1)+(m-k))*8<=140737488355328:=by omega
 have hs0 : k=0\/(if c=0 then A else A.map (fun a=>a.add (0*3)))=A.map (fun a=>a.add (0*3)):=by
   by_cases hc0 : c=0
   · exact .inl (by omega)
   · exact .inr (zxI hc0)
 have hs1 : m-k=0\/(if c=k then A else A.map (fun a=>a.add (k*3)))=A.map (fun a=>a.add (k*3)):=by
   by_cases hci : c=k
   · exact .inl (by omega)
   · exact .inr (zxI hci)
 have hs0' : k=0\/(if c'=0 then A' else A'.map (fun a=>a.add (0*1)))=A'.map (fun a=>a.add (0*1)):=by
   by_cases hc0 : c'=0
   · exact .inl (by omega)
   · exact .inr (zxI hc0)
 have hs1' : m-k=0\/(if c'=k then A' else A'.map (fun a=>a.add (k*1)))=A'.map (fun a=>a.add (k*1)):=by
   by_cases hci : c'=k
   · exact .inl (by omega)
   · exact .inr (zxI hci)
 have hfin : app (app (app [] (rowV ratQ (((M.map (·.1)).drop 0).take k))) (ratC (Q y))) (rowV ratQ (((M.map (·.1)).drop k).take (m-k)))=rowV ratQ ((insY y i M).map (·.1)):=by
   have e : ((M.map (·.1)).drop k).take (m-k)=(M.map (·.1)).drop k:=zyJ (by rw [zzw,hm1]; omega);rw [hins,za4,za4,za4,e,zAJ,zzJ,zzL,zxT,zyB,zyC,zaE,zyF];rfl
 have hfin' : app (app (app [] (rowV intC (((M.map (·.2)).drop 0).take k))) [.int .i64 (i : Int)]) (rowV intC (((M.map (·.2)).drop k).take (m-k)))=rowV intC ((insY y i M).map (·.2)):=by
   have e : ((M.map (·.2)).drop k).take (m-k)=(M.map (·.2)).drop k:=zyJ (by rw [zzw,hm2]; omega);rw [hins,za4,za4,za4,e,zAJ,zzJ,zzL,zxT,zyB,zyC,zaE,zyF];rfl
 have hle : ((0+k)+1)+(m-k)=m+1:=by omega
 have hme : MEle (ME.own zat 3 (((0+k)+1)+(m-k)) (app (app (app [] (rowV ratQ (((M.map (·.1)).drop 0).take k))) (ratC (Q y))) (rowV ratQ (((M.map (·.1)).drop k).take (m-k))))) (ME.own zat 3 (m+1) (rowV ratQ ((insY y i M).map (·.1)))):=by
   rw [hfin,hle]; exact .refl _
 have hme' : MEle (ME.own zbw 1 (((0+k)+1)+(m-k)) (app (app (app [] (rowV intC (((M.map (·.2)).drop 0).take k))) [.int .i64 (i : Int)]) (rowV intC (((M.map (·.2)).drop k).take (m-k))))) (ME.own zbw 1 (m+1) (rowV intC ((insY y i M).map (·.2)))):=by
   rw [hfin',hle]; exact .refl _
 clear hfin hfin';refine zB9 zab mixed [] (11+4294967296*(5+65536*8)) ziY (K:=fun st=>SLe ⟨w,[],Tryz.f49.ntmps⟩ st ⟨[(1,.o (.v (.slice (some ⟨bB,oB,none⟩) n cB))),(4,.o (.p 4 0)),(9,.o (.v (.slice A' m c'))),(10,.o (.w 137)),(11,.o (.p 11 0)),(12,.o (.v (.int .i64 i))),(15,.o (.v (.int .i64 k)))],[(4,.box ((boxC ⟨PQ lo,PQ hi⟩).map AV.v) zaM),(11,ratM (Q x)),(137,.own zat 3 (m+1) (rowV ratQ ((insY y i M).map (·.1))))],[zai (some ⟨bB,oB,none⟩) (rowV sgq P),zai A' (rowV intC (M.map (·.2)))]⟩) (by kernel_rfl) ?_ ?_
 · conv=>whnf
   repeat' (first
     | exact True.intro
     | (refine And.intro ?_ ?_ <;> (conv=>whnf))
     | (refine ⟨hsl0,?_⟩; conv=>whnf)
     | (refine ⟨hsl1,?_⟩; conv=>whnf)
     | (refine zgI.of (SLX.of (zCa 109 109 138 zat 3 rfl rfl rfl) ?_); conv=>whnf)
     | (refine zCb (A:=A) (l:=M.map (·.1)) (k:=0) (m:=k) (n:=3) ratQ zas zhn (zxB _ (zxA ..)) hs0 (by omega) (by decide) ?_; conv=>whnf)
     | (refine zCb (A:=A) (l:=M.map (·.1)) (k:=k) (m:=m-k) (n:=3) ratQ zas zhn (zxB _ (zxA ..)) hs1 (by omega) (by decide) ?_; conv=>whnf)
     | (refine ⟨hb0,?_⟩; conv=>whnf)
     | (refine ⟨hb1,?_⟩; conv=>whnf)
     | (refine ⟨hb2,?_⟩; conv=>whnf)
     | (refine zzi (fun k=>bif Nat.beq k 137 then 120 else k) ⟨rfl,rfl,rfl,rfl,rfl,rfl,rfl,trivial⟩ ⟨mrf rfl,mrf rfl,⟨_,rfl,hme⟩,trivial⟩ rfl (fun R hR=>?_)
        rcases zy1.1 hR with rfl | hR
        · exact zxA ..
        · rw [zyZ.1 hR]; exact zxB _ (zxB _ (zxA ..))))
 exact fun st hst=>⟨rfl,hst⟩
theorem zrp (bB oB cB n : Nat) (A A' : Option Addr) (c c' m k i : Nat) (x y : Rat) (lo hi : V) (P : List (V×V)) (M : List (Rat×Nat)) (w : World) (hm : m=M.length) (hk : k<=m) (hc : m<=c) (hc' : m<=c') (lI : m<=400) (hins : insY y i M=M.take k++(y,i)::M.drop k) :
   WPS PP ⟨w,[],Tryz.f49.ntmps⟩ ((zlD 15 (zsZ Tryz.f49)).getD .skip) ⟨[(1,.o (.v (.slice (some ⟨bB,oB,none⟩) n cB))),(4,.o (.p 4 0)),(9,.o (.v (.slice A' m c'))),(10,.o (.w 137)),(11,.o (.p 11 0)),(12,.o (.v (.int .i64 i))),(15,.o (.v (.int .i64 k)))],[(4,.box ((boxC ⟨PQ lo,PQ hi⟩).map AV.v) zaM),(11,ratM (Q x)),(137,.own zat 3 (m+1) (rowV ratQ ((insY y i M).map (·.1))))],[zai (some ⟨bB,oB,none⟩) (rowV sgq P),zai A' (rowV intC (M.map (·.2)))]⟩ (fun e st=>e=.normal/\SLe ⟨w,[],Tryz.f49.ntmps⟩ st ⟨[(1,.o (.v (.slice (some ⟨bB,oB,none⟩) n cB))),(4,.o (.p 4 0)),(9,.o (.w 139)),(10,.o (.w 137)),(11,.o (.p 11 0)),(12,.o (.v (.int .i64 i)))],[(4,.box ((boxC ⟨PQ lo,PQ hi⟩).map AV.v) zaM),(11,ratM (Q x)),(137,.own zat 3 (m+1) (rowV ratQ ((insY y i M).map (·.1)))),(139,.own zbw 1 (m+1) (rowV intC ((insY y i M).map (·.2))))],[zai (some ⟨bB,oB,none⟩) (rowV sgq P)]⟩):=by
 have hm1 : (M.map (·.1)).length=m:=by rw [zyA,hm]
 have hm2 : (M.map (·.2)).length=m:=by rw [zyA,hm]
 have hsl0 : (0 : Int)<=0/\(0 : Int)<=(k : Int)/\(k : Int)<=(c : Int):=by omega
 have hsl1 : 0<=(k : Int)/\(k : Int)<=(m : Int)/\(m : Int)<=(c : Int):=by omega
 have hsl0' : (0 : Int)<=0/\(0 : Int)<=(k : Int)/\(k : Int)<=(c' : Int):=by omega
 have hsl1' : 0<=(k : Int)/\(k : Int)<=(m : Int)/\(m : Int)<=(c' : Int):=by omega
 have hb0 : 0+k<=9223372036854775807/\(0+k)*40<=140737488355328:=by omega
 have hb1 : (0+k)+1<=9223372036854775807/\((0+k)+1)*40<=140737488355328:=by omega
 have hb2 : ((0+k)+1)+(m-k)<=9223372036854775807/\(((0+k)+1)+(m-k))*40<=140737488355328:=by omega
 have hb0' : 0+k<=9223372036854775807/\(0+k)*8<=140737488355328:=by omega
 have hb1' : (0+k)+1<=9223372036854775807/\((0+k)+1)*8<=140737488355328:=by omega
 have hb2' : ((0+k)+1)+(m-k)<=9223372036854775807/\(((0+k)+1)+(m-k))*8<=140737488355328:=by omega
 have hs0 : k=0\/(if c=0 then A else A.map (fun a=>a.add (0*3)))=A.map (fun a=>a.add (0*3)):=by
   by_cases hc0 : c=0
   · exact .inl (by omega)
   · exact .inr (zxI hc0)
 have hs1 : m-k=0\/(if c=k then A else A.map (fun a=>a.add (k*3)))=A.map (fun a=>a.add (k*3)):=by
   by_cases hci : c=k
   · exact .inl (by omega)
   · exact .inr (zxI hci)
 have hs0' : k=0\/(if c'=0 then A' else A'.map (fun a=>a.add (0*1)))=A'.map (fun a=>a.add (0*1)):=by
   by_cases hc0 : c'=0
   · exact .inl (by omega)
   · exact .inr (zxI hc0)
 have hs1' : m-k=0\/(if c'=k then A' else A'.map (fun a=>a.add (k*1)))=A'.map (fun a=>a.add (k*1)):=by
   by_cases hci : c'=k
   · exact .inl (by omega)
   · exact .inr (zxI hci)
 have hfin : app (app (app [] (rowV ratQ (((M.map (·.1)).drop 0).take k))) (ratC (Q y))) (rowV ratQ (((M.map (·.1)).drop k).take (m-k)))=rowV ratQ ((insY y i M).map (·.1)):=by
   have e : ((M.map (·.1)).drop k).take (m-k)=(M.map (·.1)).drop k:=zyJ (by rw [zzw,hm1]; omega);rw [hins,za4,za4,za4,e,zAJ,zzJ,zzL,zxT,zyB,zyC,zaE,zyF];rfl
 have hfin' : app (app (app [] (rowV intC (((M.map (·.2)).drop 0).take k))) [.int .i64 (i : Int)]) (rowV intC (((M.map (·.2)).drop k).take (m-k)))=rowV intC ((insY y i M).map (·.2)):=by
   have e : ((M.map (·.2)).drop k).take (m-k)=(M.map (·.2)).drop k:=zyJ (by rw [zzw,hm2]; omega);rw [hins,za4,za4,za4,e,zAJ,zzJ,zzL,zxT,zyB,zyC,zaE,zyF];rfl
 have hle : ((0+k)+1)+(m-k)=m+1:=by omega
 have hme : MEle (ME.own zat 3 (((0+k)+1)+(m-k)) (app (app (app [] (rowV ratQ (((M.map (·.1)).drop 0).take k))) (ratC (Q y))) (rowV ratQ (((M.map (·.1)).drop k).take (m-k))))) (ME.own zat 3 (m+1) (rowV ratQ ((insY y i M).map (·.1)))):=by
   rw [hfin,hle]; exact .refl _
 have hme' : MEle (ME.own zbw 1 (((0+k)+1)+(m-k)) (app (app (app [] (rowV intC (((M.map (·.2)).drop 0).take k))) [.int .i64 (i : Int)]) (rowV intC (((M.map (·.2)).drop k).take (m-k))))) (ME.own zbw 1 (m+1) (rowV intC ((insY y i M).map (·.2)))):=by
   rw [hfin',hle]; exact .refl _
 clear hfin hfin';refine zB9 zab mixed [] (11+4294967296*(5+65536*8)) zoy (K:=fun st=>SLe ⟨w,[],Tryz.f49.ntmps⟩ st ⟨[(1,.o (.v (.slice (some ⟨bB,oB,none⟩) n cB))),(4,.o (.p 4 0)),(9,.o (.w 139)),(10,.o (.w 137)),(11,.o (.p 11 0)),(12,.o (.v (.int .i64 i)))],[(4,.box ((boxC ⟨PQ lo,PQ hi⟩).map AV.v) zaM),(11,ratM (Q x)),(137,.own zat 3 (m+1) (rowV ratQ ((insY y i M).map (·.1)))),(139,.own zbw 1 (m+1) (rowV intC ((insY y i M).map (·.2))))],[zai (some ⟨bB,oB,none⟩) (rowV sgq P)]⟩) (by kernel_rfl) ?_ ?_
 · conv=>whnf
   repeat' (first
     | exact True.intro
     | (refine And.intro ?_ ?_ <;> (conv=>whnf))
     | (refine ⟨hsl0',?_⟩; conv=>whnf)
     | (refine ⟨hsl1',?_⟩; conv=>whnf)
     | (refine zgI.of (SLX.of (zCa 121 121 138 zbw 1 rfl rfl rfl) ?_); conv=>whnf)
     | (refine zCb (A:=A') (l:=M.map (·.2)) (k:=0) (m:=k) (n:=1) intC zfx zno (zxB _ (zxA ..)) hs0' (by omega) (by decide) ?_; conv=>whnf)
     | (refine zCb (A:=A') (l:=M.map (·.2)) (k:=k) (m:=m-k) (n:=1) intC zfx zno (zxB _ (zxA ..)) hs1' (by omega) (by decide) ?_; conv=>whnf)
     | (refine ⟨hb0',?_⟩; conv=>whnf)
     | (refine ⟨hb1',?_⟩; conv=>whnf)
     | (refine ⟨hb2',?_⟩; conv=>whnf)
     | (refine zzi (fun k=>bif Nat.beq k 139 then 132 else k) ⟨rfl,rfl,rfl,rfl,rfl,rfl,trivial⟩ ⟨mrf rfl,mrf rfl,mrf rfl,⟨_,rfl,hme'⟩,trivial⟩ rfl (fun R hR=>?_)
        rw [zyZ.1 hR]; exact zxA ..))
 exact fun st hst=>⟨rfl,hst⟩
theorem zub (lo hi : V) (B : Option Addr) (cB : Nat) (P : List (V×V)) (l r : Rat) (hlo : SzV K0 lo) (hhi : SzV K0 hi) (hP : ∀ e∈P,SzV KP e.1/\SzV KP e.2) (hzl : Sz KX l) (hzr : Sz KX r) (hl : P.length<=400) :
   FnM PP 49 [bxV ⟨PQ lo,PQ hi⟩,.slice B P.length cB,qV l,qV r] (facts [zai B (rowV sgq P)]) (zea (ι:=SlI (strI lo hi P ((l+r)/2) P.length).length) slIV (slIR (rowV intC ((strI lo hi P ((l+r)/2) P.length).map (·.2))))):=by
 refine FnE.ofS zab mixed Tryz.func49 rfl rfl (zxW rfl) (by simp [zzk]) ?_;intro w hw;obtain ⟨n,hn⟩ : ∃ n,n=P.length:=⟨_,rfl⟩;have hB : 0<n->∃ b o,B=some ⟨b,o,none⟩:=fun h=>zhH (zaK hw) (by rw [zad zaT]; omega)
 have zm : Sz KY ((l+r)/2):=((hzl.add hzr).div (show Sz 2 (2 : Rat) from ⟨by decide,by decide⟩)).le (by decide);have hmid:=zf3 l r (hzl.le (by decide)) (hzr.le (by decide));rw [<-hn] at hl ⊢;refine zy9 zab mixed ?_;conv=>whnf
 refine zy9 zab mixed ?_;conv=>whnf
 refine zy9 zab mixed ?_;conv=>whnf
 refine zy9 zab mixed ?_;conv=>whnf
 refine cf hmid ?_;generalize (l+r)/2=x at zm ⊢;conv=>whnf
 refine zAk ?_;refine zy9 zab mixed ?_;conv=>whnf
 refine zAl ?_;refine zy8 ?_ ((zCa 9 16 135 zbw 1 rfl rfl rfl).trans (zCa 10 17 136 zat 3 rfl rfl rfl));refine WPS.ofX (zBJ 135 rfl (fun A1 c1 hc1 hf1=>zBJ 136 rfl (fun A0 c0 hc0 hf0=>zBK ?_)));refine zAm (ι:=Nat×Option Addr×Nat×Option Addr×Nat) (fun ⟨i,A,c,A',c'⟩=>⟨[(1,.o (.v (.slice B n cB))),(4,.o (.p 4 0)),(9,.o (.v (.slice A' (strI lo hi P x i).length c'))),(10,.o (.v (.slice A (strI lo hi P x i).length c))),(11,.o (.p 11 0)),(12,.o (.v (.int .i64 i)))],[(4,.box ((boxC ⟨PQ lo,PQ hi⟩).map AV.v) zaM),(11,ratM (Q x))],[zai B (rowV sgq P),zai A (rowV ratQ ((strI lo hi P x i).map (·.1))),zai A' (rowV intC ((strI lo hi P x i).map (·.2)))]⟩)
   (fun ⟨i,A,c,A',c'⟩=>i<=n/\(strI lo hi P x i).length<=c/\(strI lo hi P x i).length<=c'/\Fr w A') (fun ⟨i,_⟩=>n-i) (0,A0,c0,A1,c1) ⟨zyD _,hc0,hc1,hf1⟩
   (zzj ⟨rfl,rfl,rfl,rfl,rfl,rfl,trivial⟩ ⟨mrf rfl,mrf rfl,trivial⟩ (fun R hR=>by
     rcases zy1.1 hR with rfl | hR
     · exact zxB _ (zxB _ (zxA ..))
     · rcases zy1.1 hR with rfl | hR
       · exact zxA ..
       · rw [zyZ.1 hR]; exact zxB _ (zxA ..))) ?_
 rintro ⟨i,A,c,A',c'⟩ ⟨hi0,hc,hc',hfr'⟩;have zI:=zuI (lo:=lo) (hi:=hi) hP zm i;have lI:=zjU lo hi P x i;refine zy9 zab mixed ?_;conv=>whnf
 by_cases hin : i<n;rotate_left
 · refine zac (zz9 (show ¬(i : Int)<(n : Int) by omega)) ?_;obtain rfl : i=n:=by omega
   refine zy7 zab mixed ?_;conv=>whnf
   intro N E w' hm;refine ⟨⟨(A',c'),hc'⟩,rfl,fun R hR=>?_,fun R hR b hb=>?_⟩
   · rw [zyZ.1 hR]; exact (hm.res _ (zxB _ (zxB _ (zxA ..)))).2.1
   · rw [zyZ.1 hR] at hb; exact hfr'.bs b hb
 refine zag (zz8 (show (i : Int)<(n : Int) by omega)) ?_;conv=>whnf
 obtain ⟨e,he⟩ : ∃ e,P[i]?=some e:=⟨_,zyy (by omega)⟩;have heo:=hP e (zyq he);obtain ⟨bB,oB,rfl⟩:=hB (by omega);have wi : some (SV.o (.v (.int .i64 (IntKind.i64.wrap ((i : Int)+1)))))=some (SV.o (.v (.int .i64 ((i+1 : Nat) : Int)))):=zaq hin (by omega);have hno : rcO lo hi x e=none->strI lo hi P x (i+1)=strI lo hi P x i:=fun h=>by
   rw [strI,he];show (match rcO lo hi x e with | none=>strI lo hi P x i | some y=>insY y i (strI lo hi P x i))=_;rw [h]
 have hyes : ∀ y,rcO lo hi x e=some y->strI lo hi P x (i+1)=insY y i (strI lo hi P x i):=fun y h=>by
   rw [strI,he];show (match rcO lo hi x e with | none=>strI lo hi P x i | some y=>insY y i (strI lo hi P x i))=_;rw [h]
 refine zAk ?_;refine zAl ?_;refine zy9 zab mixed ?_;conv=>whnf
 refine zak.qk ?_;conv=>whnf
 refine ⟨⟨by omega,by omega,rfl⟩,?_⟩;rw [zxp,zxK];conv=>whnf
 refine zBM (o:=0) sgq zaT (zxA ..) he (by first | exact za3 rfl | exact zaW rfl) (by decide) (by decide) (fun h=>by cases h) ?_;conv=>whnf
 refine cd (zlg e.1 e.2) ?_;conv=>whnf
 by_cases hne : e.1=e.2
 · refine zag (zz8 hne) ?_;conv=>whnf
   have hI:=hno (zxJ (.inl hne));refine zy7 zab mixed ?_;conv=>whnf
   exact ⟨(i+1,A,c,A',c'),⟨by omega,by rw [hI]; exact hc,by rw [hI]; exact hc',hfr'⟩,by show n-(i+1)<n-i; omega,zzj ⟨rfl,rfl,by rw [hI]; rfl,by rw [hI]; rfl,rfl,wi,trivial⟩ ⟨mrf rfl,mrf rfl,trivial⟩ (fun R hR=>by change R∈[_,zai _ (rowV ratQ ((strI lo hi P x (i+1)).map (·.1))),zai _ (rowV intC ((strI lo hi P x (i+1)).map (·.2)))] at hR; rw [hI] at hR; exact hR)⟩
 refine zac (zz9 hne) ?_;conv=>whnf
 refine ⟨⟨by omega,by omega,rfl⟩,?_⟩;rw [zxp,zxK];conv=>whnf
 refine zBM (o:=0) sgq zaT (zxA ..) he (by first | exact za3 rfl | exact zaW rfl) (by decide) (by decide) (fun h=>by cases h) ?_;conv=>whnf
 refine cd (zqb e.1 e.2) ?_;conv=>whnf
 by_cases hv : e.1.x=e.2.x
 · refine zag (zz8 hv) ?_;conv=>whnf
   have hI:=hno (zxJ (.inr (.inl hv)));refine zy7 zab mixed ?_;conv=>whnf
   exact ⟨(i+1,A,c,A',c'),⟨by omega,by rw [hI]; exact hc,by rw [hI]; exact hc',hfr'⟩,by show n-(i+1)<n-i; omega,zzj ⟨rfl,rfl,by rw [hI]; rfl,by rw [hI]; rfl,rfl,wi,trivial⟩ ⟨mrf rfl,mrf rfl,trivial⟩ (fun R hR=>by change R∈[_,zai _ (rowV ratQ ((strI lo hi P x (i+1)).map (·.1))),zai _ (rowV intC ((strI lo hi P x (i+1)).map (·.2)))] at hR; rw [hI] at hR; exact hR)⟩
 refine zac (zz9 hv) ?_;conv=>whnf
 refine ⟨⟨by omega,by omega,rfl⟩,?_⟩;rw [zxp,zxK];conv=>whnf
 refine zBM (o:=0) sgq zaT (zxA ..) he (by first | exact za3 rfl | exact zaW rfl) (by decide) (by decide) (fun h=>by cases h) ?_;conv=>whnf
 refine cd (za2 (Q e.1.x) (Q x) (heo.1.1.q.le (by decide)) (zm.q.le (by decide))) ?_;rw [Q_v,Q_v];conv=>whnf
 by_cases h1 : x<e.1.x
 · refine zag (zz8 (zbM.2 h1)) ?_;conv=>whnf
   have hI:=hno (zxJ (.inr (.inr (.inl h1))));refine zy7 zab mixed ?_;conv=>whnf
   exact ⟨(i+1,A,c,A',c'),⟨by omega,by rw [hI]; exact hc,by rw [hI]; exact hc',hfr'⟩,by show n-(i+1)<n-i; omega,zzj ⟨rfl,rfl,by rw [hI]; rfl,by rw [hI]; rfl,rfl,wi,trivial⟩ ⟨mrf rfl,mrf rfl,trivial⟩ (fun R hR=>by change R∈[_,zai _ (rowV ratQ ((strI lo hi P x (i+1)).map (·.1))),zai _ (rowV intC ((strI lo hi P x (i+1)).map (·.2)))] at hR; rw [hI] at hR; exact hR)⟩
 refine zac (zz9 (fun h=>h1 (zbM.1 h))) ?_;conv=>whnf
 refine ⟨⟨by omega,by omega,rfl⟩,?_⟩;rw [zxp,zxK];conv=>whnf
 refine zBM (o:=6) sgq zaT (zxA ..) he (by first | exact za3 rfl | exact zaW rfl) (by decide) (by decide) (fun h=>by cases h) ?_;conv=>whnf
 refine cd (za2 (Q e.2.x) (Q x) (heo.2.1.q.le (by decide)) (zm.q.le (by decide))) ?_;rw [Q_v,Q_v];conv=>whnf
 by_cases h2 : e.2.x<x
 · refine zag (zz8 (zbj.2 h2)) ?_;conv=>whnf
   have hI:=hno (zxJ (.inr (.inr (.inr h2))));refine zy7 zab mixed ?_;conv=>whnf
   exact ⟨(i+1,A,c,A',c'),⟨by omega,by rw [hI]; exact hc,by rw [hI]; exact hc',hfr'⟩,by show n-(i+1)<n-i; omega,zzj ⟨rfl,rfl,by rw [hI]; rfl,by rw [hI]; rfl,rfl,wi,trivial⟩ ⟨mrf rfl,mrf rfl,trivial⟩ (fun R hR=>by change R∈[_,zai _ (rowV ratQ ((strI lo hi P x (i+1)).map (·.1))),zai _ (rowV intC ((strI lo hi P x (i+1)).map (·.2)))] at hR; rw [hI] at hR; exact hR)⟩
 refine zac (zz9 (fun h=>h2 (zbj.1 h))) ?_;conv=>whnf
 have hrc : rcO lo hi x e=if (hgtE e.1 e.2 x).1=lo.y\/(hgtE e.1 e.2 x).1=hi.y then none else some (hgtE e.1 e.2 x).1:=zxI (fun h=>h.elim hne (fun h=>h.elim hv (fun h=>h.elim h1 h2)))
 have zy:=zmI heo.1 heo.2 zm;refine zy9 zab mixed ?_;conv=>whnf
 refine zy4 [(10,13,[8])] (by kernel_rfl) ?_;conv=>whnf
 refine ⟨⟨by omega,by omega,rfl⟩,?_⟩;rw [zxp,zxK];conv=>whnf
 refine zBM (o:=0) sgq zaT (zxA ..) he (by first | exact za3 rfl | exact zaW rfl) (by decide) (by decide) (fun h=>by cases h) ?_;conv=>whnf
 refine cd (zjZ ⟨PQ e.1,PQ e.2⟩ (Q x) ⟨heo.1.q.le (by decide),heo.2.q.le (by decide)⟩ (zm.q.le (by decide))) ?_;rw [zib hne];obtain ⟨y,hyd⟩ : ∃ y,y=(hgtE e.1 e.2 x).1:=⟨_,rfl⟩;obtain ⟨ec,hec⟩ : ∃ ec,ec=(hgtE e.1 e.2 x).2:=⟨_,rfl⟩;rw [<-hyd] at hrc zy ⊢;rw [<-hec];conv=>whnf
 refine zy9 zab mixed ?_;conv=>whnf
 by_cases hy1 : y=lo.y
 · refine zag ((eqRV y lo.y).trans (zz8 hy1)) ?_;conv=>whnf
   have hI:=hno (by rw [hrc]; exact zxJ (.inl hy1));refine zy7 zab mixed ?_;conv=>whnf
   exact ⟨(i+1,A,c,A',c'),⟨by omega,by rw [hI]; exact hc,by rw [hI]; exact hc',hfr'⟩,by show n-(i+1)<n-i; omega,zzj ⟨rfl,rfl,by rw [hI]; rfl,by rw [hI]; rfl,rfl,wi,trivial⟩ ⟨mrf rfl,mrf rfl,trivial⟩ (fun R hR=>by change R∈[_,zai _ (rowV ratQ ((strI lo hi P x (i+1)).map (·.1))),zai _ (rowV intC ((strI lo hi P x (i+1)).map (·.2)))] at hR; rw [hI] at hR; exact hR)⟩
 refine zac ((eqRV y lo.y).trans (zz9 hy1)) ?_;conv=>whnf
 by_cases hy2 : y=hi.y
 · refine zag ((eqRV y hi.y).trans (zz8 hy2)) ?_;conv=>whnf
   have hI:=hno (by rw [hrc]; exact zxJ (.inr hy2));refine zy7 zab mixed ?_;conv=>whnf
   exact ⟨(i+1,A,c,A',c'),⟨by omega,by rw [hI]; exact hc,by rw [hI]; exact hc',hfr'⟩,by show n-(i+1)<n-i; omega,zzj ⟨rfl,rfl,by rw [hI]; rfl,by rw [hI]; rfl,rfl,wi,trivial⟩ ⟨mrf rfl,mrf rfl,trivial⟩ (fun R hR=>by change R∈[_,zai _ (rowV ratQ ((strI lo hi P x (i+1)).map (·.1))),zai _ (rowV intC ((strI lo hi P x (i+1)).map (·.2)))] at hR; rw [hI] at hR; exact hR)⟩
 refine zac ((eqRV y hi.y).trans (zz9 hy2)) ?_;conv=>whnf
 have hI:=hyes y (by rw [hrc]; exact zxI (fun h=>h.elim hy1 hy2));refine zy8 (st':=⟨[(1,.o (.v (.slice (some ⟨bB,oB,none⟩) n cB))),(4,.o (.p 4 0)),(9,.o (.v (.slice A' (strI lo hi P x i).length c'))),(10,.o (.v (.slice A (strI lo hi P x i).length c))),(11,.o (.p 11 0)),(12,.o (.v (.int .i64 i))),(13,.o (.p 13 0))],[(4,.box ((boxC ⟨PQ lo,PQ hi⟩).map AV.v) zaM),(11,ratM (Q x)),(13,ratM (Q y))],[zai (some ⟨bB,oB,none⟩) (rowV sgq P),zai A (rowV ratQ ((strI lo hi P x i).map (·.1))),zai A' (rowV intC ((strI lo hi P x i).map (·.2)))]⟩) ?_ (zzj ⟨rfl,rfl,rfl,rfl,rfl,rfl,rfl,trivial⟩ ⟨mrf rfl,mrf rfl,mrf rfl,trivial⟩ (fun R hR=>by exact hR))
 obtain ⟨M,hM⟩ : ∃ M,M=strI lo hi P x i:=⟨_,rfl⟩;obtain ⟨m,hm⟩ : ∃ m,m=M.length:=⟨_,rfl⟩;rw [<-hM] at hI hc hc' zI lI ⊢;rw [<-hm] at hc hc' lI ⊢;refine WPS.pure (p:=0<m->A.isSome=true) (fun w' hR h=>zam (hR (zai A (rowV ratQ (M.map (·.1)))) (zxB _ (zxA ..))) (by rw [zad zas,zyA]; omega)) (fun hAs=>?_);refine zy9 zab mixed ?_;conv=>whnf
 refine WPS.cutN (J:=fun s=>∃ k,k<=m/\(∀ j z,M[j]?=some z->j<k->z.1<y)/\(∀ z,M[k]?=some z->¬z.1<y)/\SLe ⟨w,[],Tryz.f49.ntmps⟩ s ⟨[(1,.o (.v (.slice (some ⟨bB,oB,none⟩) n cB))),(4,.o (.p 4 0)),(9,.o (.v (.slice A' m c'))),(10,.o (.v (.slice A m c))),(11,.o (.p 11 0)),(12,.o (.v (.int .i64 i))),(13,.o (.p 13 0)),(15,.o (.v (.int .i64 k)))],[(4,.box ((boxC ⟨PQ lo,PQ hi⟩).map AV.v) zaM),(11,ratM (Q x)),(13,ratM (Q y))],[zai (some ⟨bB,oB,none⟩) (rowV sgq P),zai A (rowV ratQ (M.map (·.1))),zai A' (rowV intC (M.map (·.2)))]⟩) ?_ ?_
 · refine zAl ?_;refine zAm (ι:=Nat) (fun k=>⟨[(1,.o (.v (.slice (some ⟨bB,oB,none⟩) n cB))),(4,.o (.p 4 0)),(9,.o (.v (.slice A' m c'))),(10,.o (.v (.slice A m c))),(11,.o (.p 11 0)),(12,.o (.v (.int .i64 i))),(13,.o (.p 13 0)),(15,.o (.v (.int .i64 k)))],[(4,.box ((boxC ⟨PQ lo,PQ hi⟩).map AV.v) zaM),(11,ratM (Q x)),(13,ratM (Q y))],[zai (some ⟨bB,oB,none⟩) (rowV sgq P),zai A (rowV ratQ (M.map (·.1))),zai A' (rowV intC (M.map (·.2)))]⟩)
     (fun k=>k<=m/\(∀ j z,M[j]?=some z->j<k->z.1<y)) (fun k=>m-k) 0 ⟨zyD _,fun j z _ h=>absurd h (zB7 j)⟩
     (zzj ⟨rfl,rfl,rfl,rfl,rfl,rfl,rfl,rfl,trivial⟩ ⟨mrf rfl,mrf rfl,mrf rfl,trivial⟩ (fun R hR=>hR)) ?_
   intro k ⟨hk,hlt⟩;refine zy9 zab mixed ?_;conv=>whnf
   refine zak.qk ?_;conv=>whnf
   by_cases hkm : k<m
   · refine zag (zz8 (show (k : Int)<(m : Int) by omega)) ?_;obtain ⟨z,hz⟩ : ∃ z,M[k]?=some z:=⟨_,zyy (by omega)⟩;have hz1 : (M.map (·.1))[k]?=some z.1:=by rw [zx4,hz]; rfl
     conv=>whnf
     refine ⟨⟨by omega,by omega,hAs (by omega)⟩,?_⟩;conv=>whnf
     refine zzR (A:=A) (xs:=M.map (·.1)) (j:=(k : Int)) ratQ zas (zxB _ (zxA ..)) rfl (by rw [zzS,zyA]; omega) (by decide) (fun h=>by cases h) ?_;intro z' hz';obtain rfl : z'=z.1:=by rw [zzS,hz1] at hz'; exact (zz1 hz').symm
     conv=>whnf
     refine cd (za2 (Q z.1) (Q y) ((zI z (zyq hz)).q.le (by decide)) (zy.q.le (by decide))) ?_;rw [Q_v,Q_v];conv=>whnf
     refine zaj ?_ ?_ <;> intro h
     · have hzy : z.1<y:=zbj.1 (zA0 h);conv=>whnf
       refine zy7 zab mixed ?_;conv=>whnf
       refine ⟨k+1,⟨by omega,fun j u hu hj=>?_⟩,by show m-(k+1)<m-k; omega,zzj ⟨rfl,rfl,rfl,rfl,rfl,rfl,rfl,zaq hkm (by omega),trivial⟩ ⟨mrf rfl,mrf rfl,mrf rfl,trivial⟩ (fun R hR=>hR)⟩;by_cases hjk : j=k
       · subst hjk; rw [hz] at hu; cases hu; exact hzy
       · exact hlt j u hu (by omega)
     · conv=>whnf
       exact ⟨rfl,k,by omega,hlt,fun u hu hlu=>by
         rw [hz] at hu; cases hu;exact zA1 h (zbj.2 hlu),zzj ⟨rfl,rfl,rfl,rfl,rfl,rfl,rfl,rfl,trivial⟩ ⟨mrf rfl,mrf rfl,mrf rfl,trivial⟩ (fun R hR=>hR)⟩
   · refine zac (zz9 (show ¬(k : Int)<(m : Int) by omega)) ?_;conv=>whnf
     exact ⟨rfl,k,by omega,hlt,fun u hu _=>by have:=(zyz.1 hu).1; omega,zzj ⟨rfl,rfl,rfl,rfl,rfl,rfl,rfl,rfl,trivial⟩ ⟨mrf rfl,mrf rfl,mrf rfl,trivial⟩ (fun R hR=>hR)⟩
 rintro s ⟨k,hk,hlt,hge,hs⟩;refine zy8 ?_ hs;by_cases hsame : ∃ z,M[k]?=some z/\z.1=y
 · obtain ⟨z,hz,hzy⟩:=hsame;have hkm : k<m:=by have:=(zyz.1 hz).1; omega
   have hI2 : strI lo hi P x (i+1)=M:=by rw [hI]; exact zpY hlt hz hzy
   have hz1 : (M.map (·.1))[k]?=some z.1:=by rw [zx4,hz]; rfl
   refine zy9 zab mixed ?_;conv=>whnf
   refine zak.qk ?_;conv=>whnf
   refine zag (zz8 (show (k : Int)<(m : Int) by omega)) ?_;conv=>whnf
   refine ⟨⟨by omega,by omega,hAs (by omega)⟩,?_⟩;conv=>whnf
   refine zzR (A:=A) (xs:=M.map (·.1)) (j:=(k : Int)) ratQ zas (zxB _ (zxA ..)) rfl (by rw [zzS,zyA]; omega) (by decide) (fun h=>by cases h) ?_;intro z' hz';obtain rfl : z'=z.1:=by rw [zzS,hz1] at hz'; exact (zz1 hz').symm
   conv=>whnf
   refine zag ((eqRV z.1 y).trans (zz8 hzy)) ?_;conv=>whnf
   refine zy7 zab mixed ?_;conv=>whnf
   exact ⟨(i+1,A,c,A',c'),⟨by omega,by rw [hI2,<-hm]; exact hc,by rw [hI2,<-hm]; exact hc',hfr'⟩,by show n-(i+1)<n-i; omega,zzj ⟨rfl,rfl,by rw [hI2,<-hm]; rfl,by rw [hI2,<-hm]; rfl,rfl,wi,trivial⟩ ⟨mrf rfl,mrf rfl,trivial⟩ (fun R hR=>by change R∈[_,zai _ (rowV ratQ ((strI lo hi P x (i+1)).map (·.1))),zai _ (rowV intC ((strI lo hi P x (i+1)).map (·.2)))] at hR; rw [hI2] at hR; exact hR)⟩
 have hgt : ∀ z,M[k]?=some z->y<z.1:=fun z hz=>by
   have h1:=hge z hz;have h2 : ¬z.1=y:=fun e=>hsame ⟨z,hz,e⟩
   grind
 have hins : insY y i M=M.take k++(y,i)::M.drop k:=zpv hlt hgt (by omega);have hlen : (insY y i M).length=m+1:=by
   rw [hins,zz2,zxR,zyI,zzw]; omega
 refine WPS.cutN (J:=fun s=>SLe ⟨w,[],Tryz.f49.ntmps⟩ s ⟨[(1,.o (.v (.slice (some ⟨bB,oB,none⟩) n cB))),(4,.o (.p 4 0)),(9,.o (.v (.slice A' m c'))),(10,.o (.v (.slice A m c))),(11,.o (.p 11 0)),(12,.o (.v (.int .i64 i))),(13,.o (.p 13 0)),(15,.o (.v (.int .i64 k)))],[(4,.box ((boxC ⟨PQ lo,PQ hi⟩).map AV.v) zaM),(11,ratM (Q x)),(13,ratM (Q y))],[zai (some ⟨bB,oB,none⟩) (rowV sgq P),zai A (rowV ratQ (M.map (·.1))),zai A' (rowV intC (M.map (·.2)))]⟩) ?_ ?_
 · refine zy7 zab mixed ?_;conv=>whnf
   refine zak.qk ?_;conv=>whnf
   by_cases hkm : k<m
   · refine zag (zz8 (show (k : Int)<(m : Int) by omega)) ?_;obtain ⟨z,hz⟩ : ∃ z,M[k]?=some z:=⟨_,zyy (by omega)⟩;have hz1 : (M.map (·.1))[k]?=some z.1:=by rw [zx4,hz]; rfl
     conv=>whnf
     refine ⟨⟨by omega,by omega,hAs (by omega)⟩,?_⟩;conv=>whnf
     refine zzR (A:=A) (xs:=M.map (·.1)) (j:=(k : Int)) ratQ zas (zxB _ (zxA ..)) rfl (by rw [zzS,zyA]; omega) (by decide) (fun h=>by cases h) ?_;intro z' hz';obtain rfl : z'=z.1:=by rw [zzS,hz1] at hz'; exact (zz1 hz').symm
     conv=>whnf
     refine zac ((eqRV z.1 y).trans (zz9 (fun e=>hsame ⟨z,hz,e⟩))) ?_;conv=>whnf
     exact ⟨rfl,zzj ⟨rfl,rfl,rfl,rfl,rfl,rfl,rfl,rfl,trivial⟩ ⟨mrf rfl,mrf rfl,mrf rfl,trivial⟩ (fun R hR=>hR)⟩
   · refine zac (zz9 (show ¬(k : Int)<(m : Int) by omega)) ?_;conv=>whnf
     exact ⟨rfl,zzj ⟨rfl,rfl,rfl,rfl,rfl,rfl,rfl,rfl,trivial⟩ ⟨mrf rfl,mrf rfl,mrf rfl,trivial⟩ (fun R hR=>hR)⟩
 intro s hs;refine zy8 ?_ hs;refine WPS.cutN (J:=fun st=>SLe ⟨w,[],Tryz.f49.ntmps⟩ st ⟨[(1,.o (.v (.slice (some ⟨bB,oB,none⟩) n cB))),(4,.o (.p 4 0)),(9,.o (.v (.slice A' m c'))),(10,.o (.w 137)),(11,.o (.p 11 0)),(12,.o (.v (.int .i64 i))),(15,.o (.v (.int .i64 k)))],[(4,.box ((boxC ⟨PQ lo,PQ hi⟩).map AV.v) zaM),(11,ratM (Q x)),(137,.own zat 3 (m+1) (rowV ratQ ((insY y i M).map (·.1))))],[zai (some ⟨bB,oB,none⟩) (rowV sgq P),zai A' (rowV intC (M.map (·.2)))]⟩) ?_ ?_
 · exact zrw bB oB cB n A A' c c' m k i x y lo hi P M w hm hk hc hc' (by omega) hins
 intro st hst;refine zy8 ?_ hst;refine (zrp bB oB cB n A A' c c' m k i x y lo hi P M w hm hk hc hc' (by omega) hins).mono ?_;rintro e0 st ⟨rfl,hst⟩;refine zy8 ?_ hst;refine WPS.ofX (zBJ 137 rfl (fun A2 c2 hc2 hf2=>zBJ 139 rfl (fun A3 c3 hc3 hf3=>zBK ?_)));refine zy7 zab mixed ?_;conv=>whnf
 rw [<-hlen] at hc2 hc3;exact ⟨(i+1,A2,c2,A3,c3),⟨by omega,by rw [hI]; exact hc2,by rw [hI]; exact hc3,hf3⟩,by show n-(i+1)<n-i; omega,zzj ⟨rfl,rfl,by rw [hI,hlen]; rfl,by rw [hI,hlen]; rfl,rfl,wi,trivial⟩ ⟨mrf rfl,mrf rfl,trivial⟩ (fun R hR=>by
   change R∈[_,zai _ (rowV ratQ ((strI lo hi P x (i+1)).map (·.1))),zai _ (rowV intC ((strI lo hi P x (i+1)).map (·.2)))] at hR;rw [hI] at hR;rcases zy1.1 hR with rfl | hR
   · exact zxB _ (zxB _ (zxA ..))
   · rcases zy1.1 hR with rfl | hR
     · exact zxB _ (zxA ..)
     · rw [zyZ.1 hR]; exact zxA ..)⟩
def zpG : OT:=.q 2 (.q 3 (.fork (.alt 4 (.walk [0,1,5,6,7]) (.alt 0 (.fork (.alt 4 (.walk [1,5,6,7]) (.alt 1 (.fork (.alt 4 (.walk [5,6,7]) (.alt 6 (.walk [4,5,7]) .nil))) (.alt 6 (.fork (.alt 4 (.walk [1,5,7]) (.alt 1 (.walk [4,5,7]) .nil))) .nil)))) (.alt 1 (.fork (.alt 4 (.walk [0,5,6,7]) (.alt 0 (.fork (.alt 4 (.walk [5,6,7]) (.alt 6 (.walk [4,5,7]) .nil))) (.alt 6 (.fork (.alt 4 (.walk [0,5,7]) (.alt 0 (.walk [4,5,7]) .nil))) .nil)))) (.alt 6 (.fork (.alt 4 (.walk [0,1,5,7]) (.alt 0 (.fork (.alt 4 (.walk [1,5,7]) (.alt 1 (.walk [4,5,7]) .nil))) (.alt 1 (.fork (.alt 4 (.walk [0,5,7]) (.alt 0 (.walk [4,5,7]) .nil))) .nil)))) .nil))))))
def zo2 : OT:=.q 2 (.q 3 (.q 4 (.q 5 (.q 6 (.q 7 (.q 8 (.fork (.alt 9 (.walk [0,1,10,11,12,13]) (.alt 0 (.fork (.alt 9 (.walk [1,10,11,12,13]) (.alt 1 (.walk [9,10,11,12,13]) .nil))) .nil)))))))))
def zp6 : OT:=.q 2 (.q 3 (.q 4 (.q 5 (.q 6 (.q 7 (.q 8 (.q 9 (.q 10 (.q 11 (.q 12 (.q 13 (.q 14 (.fork (.alt 15 (.walk [0,1,16,17,18,19]) (.alt 0 (.fork (.alt 15 (.walk [1,16,17,18,19]) (.alt 1 (.walk [15,16,17,18,19]) .nil))) .nil)))))))))))))))
theorem zvR {lo hi : V} {e : V×V} (hlo : SzV K0 lo) (hhi : SzV K0 hi) (he : SzV K0 e.1/\SzV K0 e.2) : SzV KP (clE lo hi e).1/\SzV KP (clE lo hi e).2:=by
 have z0 : SzV KP V0:=⟨(show Sz 1 (0 : Rat) from ⟨by decide,by decide⟩).le (by decide),(show Sz 1 (0 : Rat) from ⟨by decide,by decide⟩).le (by decide)⟩;unfold clE;split
 ·exact ⟨z0,z0⟩
 ·rename_i c d h;split
  ·exact ⟨z0,z0⟩
  ·obtain ⟨z1,z2⟩:=zfs hlo hhi he.1 he.2 h;exact zlV z1 z2
theorem zrx {AY : Option Addr} {cY : Nat} {Y : List Rat} {LS : List (Ln Rat)} {SS : List (Ln Nat)} {rest : List Res} {R : Res} (h : R∈((LS++[(⟨AY,cY,Y⟩ : Ln Rat)]).map (Ln.R ratQ)++SS.map (Ln.R intC))++rest) : R∈zai AY (rowV ratQ Y)::((LS.map (Ln.R ratQ)++SS.map (Ln.R intC))++rest):=by
 rw [zzL] at h;exact zpb h
theorem zpI {AT : Option Addr} {cT : Nat} {T : List Nat} {LS : List (Ln Rat)} {SS : List (Ln Nat)} {rest : List Res} {R : Res} (h : R∈(LS.map (Ln.R ratQ)++(SS++[(⟨AT,cT,T⟩ : Ln Nat)]).map (Ln.R intC))++rest) : R∈zai AT (rowV intC T)::((LS.map (Ln.R ratQ)++SS.map (Ln.R intC))++rest):=by
 rw [zzL] at h;have e : (zai AT (rowV intC T))=Ln.R intC (⟨AT,cT,T⟩ : Ln Nat):=rfl;simp only [zyK,zy1,zxT,zyt,zBL,or_false] at *;rcases h with (h | (h | h)) | h
 ·exact .inr (.inl (.inl h))
 ·exact .inr (.inl (.inr h))
 ·exact .inl (by rw [h,e])
 ·exact .inr (.inr h)
def NewR (w : World) (R : Res) : Prop:=∀ b∈R.bs,w.heap.size<=b
theorem zo5 (lo hi : V) (A : Option Addr) (c : Nat) (E : List (V×V)) (hlo : SzV K0 lo) (hhi : SzV K0 hi) (hx : lo.x<hi.x) (hy : lo.y<hi.y) (hE : ∀ e∈E,(SzV K0 e.1/\SzV K0 e.2)/\e.1≠e.2) (hl : E.length<=400) :
   FnM PP 9 [bxV ⟨PQ lo,PQ hi⟩,.slice A E.length c] (facts [zai A (rowV sgq E)]) (zea (ι:=zjE lo hi E A c) (fun s=>.tuple #[s.1.V,.int .i64 0]) (fun s=>s.1.F')):=by
 refine FnE.ofS zab mixed Tryz.func9 rfl rfl (zxW rfl) (by simp [zzk]) ?_;intro w hw;obtain ⟨n,hn⟩ : ∃ n,n=E.length:=⟨_,rfl⟩;have hA : 0<n->∃ b o,A=some ⟨b,o,none⟩:=fun h=>zhH (zaK hw) (by rw [zad zaT]; omega)
 have hgood : (⟨PQ lo,PQ hi⟩ : Bx).good:=⟨zow _,zow _,by show (Q lo.x).v<(Q hi.x).v; rw [Q_v,Q_v]; exact hx,by show (Q lo.y).v<(Q hi.y).v; rw [Q_v,Q_v]; exact hy⟩;have hvb:=ziA ⟨PQ lo,PQ hi⟩ ⟨hlo.q.le (by decide),hhi.q.le (by decide)⟩;rw [zz8 hgood] at hvb;have hcl:=zkC lo hi A c E hlo hhi (zBU hx) (zBU hy) hE hl;obtain ⟨P,hP⟩ : ∃ P,P=parL lo hi E:=⟨_,rfl⟩;have hPl : P.length=E.length:=by rw [hP,zyA]
 have hPz : ∀ e∈P,SzV KP e.1/\SzV KP e.2:=fun e he=>by
   rw [hP] at he;obtain ⟨e0,he0,rfl⟩:=zx1.1 he;exact zvR hlo hhi (hE e0 he0).1
 rw [show E.map (clE lo hi)=P from hP.symm] at hcl;rw [<-hn] at hcl ⊢;refine zy9 zab mixed ?_;conv=>whnf
 refine zy9 zab mixed ?_;conv=>whnf
 refine cf hvb ?_;conv=>whnf
 refine zy9 zab mixed ?_;conv=>whnf
 refine zac (zz9 (show ¬(n : Int)>(400 : Int) by omega)) ?_;conv=>whnf
 refine zy9 zab mixed ?_;conv=>whnf
 refine zal (ι:=Nat) (fun i=>⟨[(1,.o (.v (.slice A n c))),(2,.o (.p 2 0)),(4,.o (.p 4 0)),(6,.o (.v (.int .i64 i)))],[(2,.box ((boxC ⟨PQ lo,PQ hi⟩).map AV.v) zaM),(4,.box (slZ.map AV.v) zaL)],[zai A (rowV sgq E)]⟩)
   (fun i=>i<=n) (fun i=>n-i) 0 (zyD _)
   (zzj ⟨rfl,rfl,rfl,rfl,trivial⟩ ⟨mrf rfl,mrf rfl,trivial⟩ (fun R hR=>hR)) ?_
 intro i hi0;conv=>whnf
 by_cases hin : i<n
 · refine zag (zz8 (show (i : Int)<(n : Int) by omega)) ?_;obtain ⟨e,he⟩ : ∃ e,E[i]?=some e:=⟨_,zyy (by omega)⟩;have heo:=hE e (zyq he);have hca:=zeK (PQ e.1) (heo.1.1.q.le (by decide));have hcb:=zeK (PQ e.2) (heo.1.2.q.le (by decide));rw [zxJ (zow _)] at hca hcb;obtain ⟨ba,oa,rfl⟩:=hA (by omega);conv=>whnf
   refine ⟨⟨by omega,by omega,rfl⟩,?_⟩;rw [zxp,zxK];conv=>whnf
   refine zBM (o:=0) sgq zaT (zxA ..) he (by first | exact za3 rfl | exact zaW rfl) (by decide) (by decide) (fun h=>by cases h) ?_;conv=>whnf
   refine cf hca ?_;conv=>whnf
   refine ⟨⟨by omega,by omega,rfl⟩,?_⟩;rw [zxp,zxK];conv=>whnf
   refine zBM (o:=6) sgq zaT (zxA ..) he (by first | exact za3 rfl | exact zaW rfl) (by decide) (by decide) (fun h=>by cases h) ?_;conv=>whnf
   refine cf hcb ?_;conv=>whnf
   refine zak.qk ?_;conv=>whnf
   refine ⟨⟨by omega,by omega,rfl⟩,?_⟩;rw [zxp,zxK];conv=>whnf
   refine zBM (o:=0) sgq zaT (zxA ..) he (by first | exact za3 rfl | exact zaW rfl) (by decide) (by decide) (fun h=>by cases h) ?_;conv=>whnf
   refine ⟨⟨by omega,by omega,rfl⟩,?_⟩;rw [zxp,zxK];conv=>whnf
   refine zBM (o:=6) sgq zaT (zxA ..) he (by first | exact za3 rfl | exact zaW rfl) (by decide) (by decide) (fun h=>by cases h) ?_;conv=>whnf
   refine zac ((eqPV e.1 e.2).trans (zz9 heo.2)) ?_;conv=>whnf
   exact ⟨i+1,by show i+1<=n; omega,by show n-(i+1)<n-i; omega,zzj ⟨rfl,rfl,rfl,zaq hin (by omega),trivial⟩ ⟨mrf rfl,mrf rfl,trivial⟩ (fun R hR=>hR)⟩
 refine zac (zz9 (show ¬(i : Int)<(n : Int) by omega)) ?_;conv=>whnf
 refine zy9 zab mixed ?_;conv=>whnf
 refine zzs 3 hcl.enters (zzq hcl rfl (fun R h=>h)) rfl rfl ?_;conv=>whnf
 refine WPS.ofX (zBJ 3 rfl (fun B cB hcB hfB=>zBK ?_));have hab:=zh0 lo hi B cB P hlo hhi hx hPz (by omega);have hor:=fun x hzx=>zhp lo hi B cB P x hlo hhi hy hPz hzx (by omega)
 have hst:=fun l r hzl hzr=>zub lo hi B cB P l r hlo hhi hPz hzl hzr (by omega)
 rw [hPl,<-hn] at hab;have hX0 : absI lo hi P n=xsL lo hi (pcsL lo hi E):=by rw [hP,hn]; exact zvT hx E
 have hXz:=zpn hlo hhi hPz n;have hXl:=zje lo hi P n (by omega);obtain ⟨X,hX⟩ : ∃ X,X=absI lo hi P n:=⟨_,rfl⟩;rw [<-hX] at hab hX0 hXz hXl;obtain ⟨nx,hnx⟩ : ∃ nx,nx=X.length:=⟨_,rfl⟩;rw [<-hnx] at hXl hab;refine zAk ?_;refine zB9 zab mixed [] (7+4294967296*5) zpG (K:=fun st=>∃ AX cX,nx<=cX/\NewR w (zai AX (rowV ratQ X))/\SLe ⟨w,[],Tryz.f9.ntmps⟩ st ⟨[(2,.o (.p 2 0)),(4,.o (.p 4 0)),(7,.o (.v (.slice B n cB))),(8,.o (.p 8 0))],[(2,.box ((boxC ⟨PQ lo,PQ hi⟩).map AV.v) zaM),(4,.box (slZ.map AV.v) zaL),(8,.box ((boxC ⟨PQ lo,PQ hi⟩++[Value.slice A n c,Value.slice AX nx cX,nilV,nilV]).map AV.v) zaL)],[zai AX (rowV ratQ X),zai B (rowV sgq P),zai A (rowV sgq E)]⟩) (by kernel_rfl) ?_ ?_
 · conv=>whnf
   repeat' (first
     | exact True.intro
     | (refine And.intro ?_ ?_ <;> (conv=>whnf))
     | (refine zBI hab.enters (zzq hab rfl (fun R h=>by rw [zyZ.1 h]; exact zxA ..)) (fun i R hR=>by rw [zyZ.1 hR]; exact zzk _ _) (fun ⟨⟨AX,cX⟩,hcX⟩ hnew=>?_); conv=>whnf)
     | (refine ⟨_,_,?_,?_,zzj ⟨rfl,rfl,rfl,rfl,trivial⟩ ⟨mrf rfl,mrf rfl,mrf rfl,trivial⟩ (fun R hR=>hR)⟩
        · assumption
        · rename_i hnew
          exact hnew _ (zyZ.2 rfl)))
 rintro st ⟨AX,cX,hcX,hfX,hst0⟩;refine zy8 ?_ hst0;refine WPS.pure (p:=0<X.length->AX.isSome=true) (fun w' hR h=>zam (hR _ (zxA ..)) (by rw [zad zas]; omega)) (fun hAX=>?_);rw [<-hnx] at hAX;refine zAk ?_;refine zy9 zab mixed ?_;conv=>whnf
 refine zAl ?_;obtain ⟨Yf,hYf⟩ : ∃ Yf : Rat->List Rat,Yf=fun x=>ordI lo hi P x n:=⟨_,rfl⟩
 obtain ⟨Tf,hTf⟩ : ∃ Tf : Rat->Rat->List Nat,Tf=fun l r=>(strI lo hi P ((l+r)/2) n).map (·.2):=⟨_,rfl⟩
 refine zAm (ι:=Nat×List (Ln Rat)×List (Ln Nat)) (fun ⟨i,LS,SS⟩=>⟨[(2,.o (.p 2 0)),(4,.o (.p 4 0)),(7,.o (.v (.slice B n cB))),(8,.o (.p 8 0)),(9,.o (.v (.int .i64 i)))],
     [(2,.box ((boxC ⟨PQ lo,PQ hi⟩).map AV.v) zaM),(4,.box (slZ.map AV.v) zaL),(8,.box ((boxC ⟨PQ lo,PQ hi⟩++[Value.slice A n c,Value.slice AX nx cX]).map AV.v++[.w 120,.w 121]) zaL),(120,.own zcx 1 LS.length (rowV Ln.C LS)),(121,.own zeP 1 SS.length (rowV Ln.C SS))],
     (LS.map (Ln.R ratQ)++SS.map (Ln.R intC))++[zai AX (rowV ratQ X),zai B (rowV sgq P),zai A (rowV sgq E)]⟩)
   (fun ⟨i,LS,SS⟩=>i<=nx/\LS.map (·.xs)=(X.take i).map Yf/\SS.map (·.xs)=zbC Tf (X.take (i+1))/\(∀ l∈LS,NewR w (Ln.R ratQ l))/\(∀ l∈SS,NewR w (Ln.R intC l))) (fun ⟨i,_,_⟩=>nx-i) (0,[],[]) ⟨zyD _,rfl,by cases X <;> rfl,(fun l h=>by cases h),(fun l h=>by cases h)⟩
   ((SLe.nilB 8 120 zcx 1 (cs:=(boxC ⟨PQ lo,PQ hi⟩++[Value.slice A n c,Value.slice AX nx cX]).map AV.v) (ds:=[.v nilV]) rfl rfl).trans ((SLe.nilB 8 121 zeP 1 (cs:=(boxC ⟨PQ lo,PQ hi⟩++[Value.slice A n c,Value.slice AX nx cX]).map AV.v++[.w 120]) (ds:=[]) rfl rfl).trans
     (zzj ⟨rfl,rfl,rfl,rfl,rfl,trivial⟩ ⟨mrf rfl,mrf rfl,mrf rfl,mrf rfl,mrf rfl,trivial⟩ (fun R hR=>hR)))) ?_
 rintro ⟨i,LS,SS⟩ ⟨hi0,hLS,hSS,hFL,hFS⟩;have hLl : LS.length=i:=by have:=zyr List.length hLS; simp only [zyA,zyI] at this; omega
 have hSl : SS.length<=i:=by have:=zyr List.length hSS; rw [zdY] at this; simp only [zyA,zyI] at this; omega
 refine zy9 zab mixed ?_;conv=>whnf
 by_cases hin : i<nx;rotate_left
 · refine zac (zz9 (show ¬(i : Int)<(nx : Int) by omega)) ?_;rw [zyJ (by omega)] at hLS hSS;refine zy7 zab mixed ?_;conv=>whnf
   intro N E1 w' hm;obtain ⟨AL,cL,hrL,hnL,hsL,hfL⟩:=hm.frz (k:=120) rfl;obtain ⟨AS,cS,hrS,hnS,hsS,hfS⟩:=hm.frz (k:=121) rfl;have hXX:=hX0;have hasc : Asc X:=by rw [hX]; exact zeC hx P n
   have hLY : LS.map (·.xs)=X.map (ysL lo hi (pcsL lo hi E)):=by
     rw [hLS,hYf];refine zxl fun x _=>?_
     show ordI lo hi P x n=_;rw [hP,hn]; exact zv3 hy E x
   have hST : SS.map (·.xs)=zbC (zdN lo hi (pcsL lo hi E)) X:=by
     rw [hSS,hTf];refine zgC fun c' x y hcx hcy=>?_
     have hxy : x<y:=zba hasc hcx hcy (by omega);show (strI lo hi P ((x+y)/2) n).map (·.2)=_;rw [hP,hn];refine zvl hxy fun z hz=>?_
     rw [<-hXX] at hz;rintro ⟨h1,h2⟩;obtain ⟨j,hj⟩:=zCd hz;rcases zBt j c' with hjc | hjc | hjc
     · have:=zba hasc hj hcx hjc; grind
     · subst hjc; rw [hcx] at hj; cases hj; grind
     · by_cases h3 : j=c'+1
       · subst h3; rw [hcy] at hj; cases hj; grind
       · have:=zba hasc hcy hj (by omega); grind
   refine ⟨⟨⟨lo,hi,⟨A,c,E⟩,⟨AX,cX,X⟩,⟨AL,cL,LS⟩,⟨AS,cS,SS⟩⟩,rfl,rfl,rfl,⟨hXX,hLY,hST⟩,⟨by rw [<-hnx]; exact hcX,hnL,hnS⟩⟩,?_,?_,?_⟩
   · show Value.tuple #[.agg ⟨boxC ⟨PQ lo,PQ hi⟩++[Value.slice A n c,Value.slice AX nx cX,(AV.w 120).real E1,(AV.w 121).real E1]⟩,.int .i64 0]=Value.tuple #[.agg ⟨boxC ⟨PQ lo,PQ hi⟩++[Value.slice A E.length c,Value.slice AX X.length cX,Value.slice AL LS.length cL,Value.slice AS SS.length cS]⟩,.int .i64 0];rw [hrL,hrS,<-hnx,<-hn]
   · intro R hR;rcases zyK.1 hR with hR | hR
     · exact (hm.res R (zyT _ hR)).2.1
     · simp only [zy1,zBL,or_false] at hR;rcases hR with rfl | rfl | rfl
       · exact hsL
       · exact hsS
       · exact (hm.res _ (zBV _ (zxA ..))).2.1
   · intro R hR;rcases zyK.1 hR with hR | hR
     · rcases zyK.1 hR with hR | hR
       · obtain ⟨l,hl',rfl⟩:=zx1.1 hR; exact hFL l hl'
       · obtain ⟨l,hl',rfl⟩:=zx1.1 hR; exact hFS l hl'
     · simp only [zy1,zBL,or_false] at hR;rcases hR with rfl | rfl | rfl
       · exact Fr.bs hfL
       · exact Fr.bs hfS
       · exact hfX
 refine zag (zz8 (show (i : Int)<(nx : Int) by omega)) ?_;conv=>whnf
 obtain ⟨x,hxi⟩ : ∃ x,X[i]?=some x:=⟨_,zyy (by omega)⟩;have hxz:=hXz x (zyq hxi);have wi : some (SV.o (.v (.int .i64 (IntKind.i64.wrap ((i : Int)+1)))))=some (SV.o (.v (.int .i64 ((i+1 : Nat) : Int)))):=zaq hin (by omega);have hw1 : IntKind.i64.wrap ((i : Int)+1)=((i+1 : Nat) : Int):=zfz hin (by omega);have horx:=hor x hxz;rw [hPl,<-hn] at horx;obtain ⟨Y,hY⟩ : ∃ Y,Y=ordI lo hi P x n:=⟨_,rfl⟩;rw [<-hY] at horx;refine zAk ?_;refine zAl ?_;refine zAk ?_;refine zB9 zab mixed [] (11+4294967296*10) zo2 (K:=fun st=>∃ AY cY,NewR w (zai AY (rowV ratQ Y))/\SLe ⟨w,[],Tryz.f9.ntmps⟩ st ⟨[(2,.o (.p 2 0)),(4,.o (.p 4 0)),(7,.o (.v (.slice B n cB))),(8,.o (.p 8 0)),(9,.o (.v (.int .i64 i)))],
     [(2,.box ((boxC ⟨PQ lo,PQ hi⟩).map AV.v) zaM),(4,.box (slZ.map AV.v) zaL),(8,.box ((boxC ⟨PQ lo,PQ hi⟩++[Value.slice A n c,Value.slice AX nx cX]).map AV.v++[.w 120,.w 121]) zaL),(120,.own zcx 1 (LS++[(⟨AY,cY,Y⟩ : Ln Rat)]).length (rowV Ln.C (LS++[(⟨AY,cY,Y⟩ : Ln Rat)]))),(121,.own zeP 1 SS.length (rowV Ln.C SS))],
     ((LS++[(⟨AY,cY,Y⟩ : Ln Rat)]).map (Ln.R ratQ)++SS.map (Ln.R intC))++[zai AX (rowV ratQ X),zai B (rowV sgq P),zai A (rowV sgq E)]⟩) (by kernel_rfl) ?_ ?_
 · have hb1 : LS.length+1<=9223372036854775807/\(LS.length+1)*24<=140737488355328:=by omega
   have hix : (0 : Int)<=(i : Int)/\(i : Int)<(nx : Int)/\AX.isSome=true:=⟨by omega,by omega,hAX (by omega)⟩;conv=>whnf
   repeat' (first
     | exact True.intro
     | (refine And.intro ?_ ?_ <;> (conv=>whnf))
     | (refine ⟨hix,?_⟩; conv=>whnf)
     | (refine zzR (A:=AX) (xs:=X) (j:=(i : Int)) ratQ zas (zBV _ (zxA ..)) rfl (by rw [zzS]; omega) (by decide) (fun h=>by cases h) ?_
        intro x' hx'
        obtain rfl : x'=x:=by rw [zzS,hxi] at hx'; exact (zz1 hx').symm
        conv=>whnf)
     | (refine zBI horx.enters (zzq horx rfl (fun R h=>by rw [zyZ.1 h]; exact zBV _ (zxB _ (zxA ..)))) (fun i R hR=>by rw [zyZ.1 hR]; exact zzk _ _) (fun ⟨⟨AY,cY⟩,hcY⟩ hnew=>?_); conv=>whnf)
     | (refine ⟨hb1,?_⟩; conv=>whnf)
     | (refine ⟨AY,cY,?_,zzi (fun k=>bif Nat.beq k 120 then 80 else k) ⟨rfl,rfl,rfl,rfl,rfl,trivial⟩ ⟨mrf rfl,mrf rfl,mrf rfl,⟨_,rfl,?_⟩,mrf rfl,trivial⟩ rfl (fun R hR=>?_)⟩
        · exact hnew _ (zyZ.2 rfl)
        · rw [<-ln1]; simp only [zz2]; exact .refl _
        · exact zrx hR))
 rintro st ⟨AY,cY,hnY,hst1⟩;refine zy8 ?_ hst1;have hLS' : (LS++[(⟨AY,cY,Y⟩ : Ln Rat)]).map (·.xs)=(X.take (i+1)).map Yf:=by
   rw [zaD hxi,zzL,zzL,hLS,hY,hYf]; rfl
 have hFL' : ∀ l∈LS++[(⟨AY,cY,Y⟩ : Ln Rat)],NewR w (Ln.R ratQ l):=fun l h=>by
   rcases zyK.1 h with h | h
   · exact hFL l h
   · rw [zyZ.1 h]; exact hnY
 obtain ⟨L2,hL2⟩ : ∃ L2,L2=LS++[(⟨AY,cY,Y⟩ : Ln Rat)]:=⟨_,rfl⟩;rw [<-hL2] at hLS' hFL' ⊢;refine zy9 zab mixed ?_;conv=>whnf
 refine WPS.cond rfl (fun hc1=>?_) (fun hc1=>?_);rotate_left
 · have hlast : ¬i+1<nx:=fun h=>absurd (zA1 hc1) (by rw [hw1]; omega)
   have hSS' : SS.map (·.xs)=zbC Tf (X.take (i+1+1)):=by
     rw [hSS,zyJ (by omega),zyJ (by omega)]
   refine zy7 zab mixed ?_;conv=>whnf
   refine zy7 zab mixed ?_;conv=>whnf
   exact ⟨(i+1,L2,SS),⟨by omega,hLS',hSS',hFL',hFS⟩,by show nx-(i+1)<nx-i; omega,zzj ⟨rfl,rfl,rfl,rfl,wi,trivial⟩ ⟨mrf rfl,mrf rfl,mrf rfl,mrf rfl,mrf rfl,trivial⟩ (fun R hR=>hR)⟩
 have hi1 : i+1<nx:=by have:=zA0 hc1; rw [hw1] at this; omega
 obtain ⟨z,hzi⟩ : ∃ z,X[i+1]?=some z:=⟨_,zyy (by omega)⟩;have hzz:=hXz z (zyq hzi);have hstx:=hst x z hxz hzz;rw [hPl,<-hn] at hstx;have hTl:=zjU lo hi P ((x+z)/2) n;obtain ⟨T,hT⟩ : ∃ T,T=(strI lo hi P ((x+z)/2) n).map (·.2):=⟨_,rfl⟩;have hTT : (strI lo hi P ((x+z)/2) n).length=T.length:=by rw [hT,zyA]
 rw [<-hT,hTT] at hstx;refine zB9 zab mixed [] (17+4294967296*16) zp6 (K:=fun st=>∃ AT cT,NewR w (zai AT (rowV intC T))/\SLe ⟨w,[],Tryz.f9.ntmps⟩ st ⟨[(2,.o (.p 2 0)),(4,.o (.p 4 0)),(7,.o (.v (.slice B n cB))),(8,.o (.p 8 0)),(9,.o (.v (.int .i64 i)))],
     [(2,.box ((boxC ⟨PQ lo,PQ hi⟩).map AV.v) zaM),(4,.box (slZ.map AV.v) zaL),(8,.box ((boxC ⟨PQ lo,PQ hi⟩++[Value.slice A n c,Value.slice AX nx cX]).map AV.v++[.w 120,.w 121]) zaL),(120,.own zcx 1 L2.length (rowV Ln.C L2)),(121,.own zeP 1 (SS++[(⟨AT,cT,T⟩ : Ln Nat)]).length (rowV Ln.C (SS++[(⟨AT,cT,T⟩ : Ln Nat)])))],
     (L2.map (Ln.R ratQ)++(SS++[(⟨AT,cT,T⟩ : Ln Nat)]).map (Ln.R intC))++[zai AX (rowV ratQ X),zai B (rowV sgq P),zai A (rowV sgq E)]⟩) (by kernel_rfl) ?_ ?_
 · have hb1 : SS.length+1<=9223372036854775807/\(SS.length+1)*24<=140737488355328:=by omega
   have hix : (0 : Int)<=(i : Int)/\(i : Int)<(nx : Int)/\AX.isSome=true:=⟨by omega,by omega,hAX (by omega)⟩;have hix1 : (0 : Int)<=IntKind.i64.wrap ((i : Int)+1)/\IntKind.i64.wrap ((i : Int)+1)<(nx : Int)/\AX.isSome=true:=⟨by rw [hw1]; omega,by rw [hw1]; omega,hAX (by omega)⟩;conv=>whnf
   repeat' (first
     | exact True.intro
     | (refine And.intro ?_ ?_ <;> (conv=>whnf))
     | (refine ⟨hix,?_⟩; conv=>whnf)
     | (refine ⟨hix1,?_⟩; conv=>whnf)
     | (refine zzR (A:=AX) (xs:=X) (j:=(i : Int)) ratQ zas (zBV _ (zxA ..)) rfl (by rw [zzS]; omega) (by decide) (fun h=>by cases h) ?_
        intro x' hx'
        obtain rfl : x'=x:=by rw [zzS,hxi] at hx'; exact (zz1 hx').symm
        conv=>whnf)
     | (refine zzR (A:=AX) (xs:=X) (j:=((i+1 : Nat) : Int)) ratQ zas (zBV _ (zxA ..)) (by rw [hw1]) (by rw [zzS]; omega) (by decide) (fun h=>by cases h) ?_
        intro z' hz'
        obtain rfl : z'=z:=by rw [zzS,hzi] at hz'; exact (zz1 hz').symm
        conv=>whnf)
     | (refine zBI hstx.enters (zzq hstx rfl (fun R h=>by rw [zyZ.1 h]; exact zBV _ (zxB _ (zxA ..)))) (fun i R hR=>by rw [zyZ.1 hR]; exact zzk _ _) (fun ⟨⟨AT,cT⟩,hcT⟩ hnew=>?_); conv=>whnf)
     | (refine ⟨hb1,?_⟩; conv=>whnf)
     | (refine ⟨AT,cT,?_,zzi (fun k=>bif Nat.beq k 121 then 105 else k) ⟨rfl,rfl,rfl,rfl,rfl,trivial⟩ ⟨mrf rfl,mrf rfl,mrf rfl,mrf rfl,⟨_,rfl,?_⟩,trivial⟩ rfl (fun R hR=>?_)⟩
        · exact hnew _ (zyZ.2 rfl)
        · rw [<-ln1]; simp only [zz2]; exact .refl _
        · exact zpI hR))
 rintro st ⟨AT,cT,hnT,hst2⟩;refine zy8 ?_ hst2;have hSS' : (SS++[(⟨AT,cT,T⟩ : Ln Nat)]).map (·.xs)=zbC Tf (X.take (i+1+1)):=by
   rw [zaD hzi,zaD hxi,zyF,show [x]++[z]=[x,z] from rfl,zek,<-zaD hxi,zzL,hSS,hT,hTf]; rfl
 have hFS' : ∀ l∈SS++[(⟨AT,cT,T⟩ : Ln Nat)],NewR w (Ln.R intC l):=fun l h=>by
   rcases zyK.1 h with h | h
   · exact hFS l h
   · rw [zyZ.1 h]; exact hnT
 refine zy7 zab mixed ?_;conv=>whnf
 exact ⟨(i+1,L2,SS++[(⟨AT,cT,T⟩ : Ln Nat)]),⟨by omega,hLS',hSS',hFL',hFS'⟩,by show nx-(i+1)<nx-i; omega,zzj ⟨rfl,rfl,rfl,rfl,wi,trivial⟩ ⟨mrf rfl,mrf rfl,mrf rfl,mrf rfl,mrf rfl,trivial⟩ (fun R hR=>hR)⟩

theorem zop (b : Bx) (A : Option Addr) (c : Nat) (l : List (Pt×Pt)) (hb : b.sm K0) (hl : ∀ e∈l,e.1.sm K0/\e.2.sm K0) (hn : l.length<=1000) (he : bldE b l≠0) :
  FnM PP 9 [bxV b,.slice A l.length c] (facts [zai A (rowV sgC l)]) (zaR (.tuple #[.agg ⟨slZ⟩,.int .i64 (bldE b l)])):=by
 refine zzo zab mixed Tryz.func9 rfl rfl (zxW rfl) (by simp [zzk]) ?_;intro w hw;obtain ⟨n,hnd⟩ : ∃ n,n=l.length:=⟨_,rfl⟩;have hA : 0<n->∃ b o,A=some ⟨b,o,none⟩:=fun h=>zhH (zaK hw) (by rw [zad zdu]; omega)
 have hvb:=ziA b ⟨hb.1.le (by decide),hb.2.le (by decide)⟩;have hE : bldE b l=if ¬b.good then 1 else if 400<n then 4 else segE l:=by rw [bldE,hnd]
 rw [<-hnd] at hn ⊢;conv=>whnf
 refine cf hvb ?_;by_cases hg : b.good;rotate_left
 ·rw [zz9 hg];rw [zxJ hg] at hE;conv=>whnf
  rw [hE];exact zau rfl
 rw [zz8 hg];rw [zxI (fun h=>h hg)] at hE;conv=>whnf
 by_cases h4 : 400<n
 ·refine zag (zz8 (show (n : Int)>(400 : Int) by omega)) ?_;rw [zxJ h4] at hE;conv=>whnf
  rw [hE];exact zau rfl
 refine zac (zz9 (show ¬(n : Int)>(400 : Int) by omega)) ?_;rw [zxI h4] at hE;conv=>whnf
 refine zal (ι:=Nat) (fun i=>⟨[(1,.o (.v (.slice A n c))),(4,.o (.p 4 0)),(6,.o (.v (.int .i64 i)))],[(4,.box (slZ.map AV.v) zaL)],[zai A (rowV sgC l)]⟩)
  (fun i=>i<=n/\segE (l.drop i)=segE l) (fun i=>n-i) 0 ⟨zyD _,rfl⟩
  (zzj ⟨rfl,rfl,rfl,trivial⟩ ⟨mrf rfl,trivial⟩ (fun R hR=>hR)) ?_
 rintro i ⟨hi0,hd⟩;conv=>whnf
 by_cases hin : i<n;rotate_left
 ·exfalso;rw [zzQ (by omega)] at hd;exact he (by rw [hE,<-hd]; rfl)
 refine zag (zz8 (show (i : Int)<(n : Int) by omega)) ?_;obtain ⟨e,hee⟩ : ∃ e,l[i]?=some e:=⟨_,zyy (by omega)⟩;have heo:=hl e (zyq hee);have hca:=zeK e.1 (heo.1.le (by decide));have hcb:=zeK e.2 (heo.2.le (by decide));rw [zpu hee] at hd;obtain ⟨ba,oa,rfl⟩:=hA (by omega);conv=>whnf
 refine ⟨⟨by omega,by omega,rfl⟩,?_⟩;rw [zxp,zxK];conv=>whnf
 refine zBM (o:=0) sgC zdu (zxA ..) hee (by first | exact za3 rfl | exact zaW rfl) (by decide) (by decide) (fun h=>by cases h) ?_;conv=>whnf
 refine cf hca ?_;by_cases h1 : e.1.ok;rotate_left
 ·rw [zxJ (fun h=>h1 h.1)] at hd;rw [zxI h1];conv=>whnf
  rw [hE,<-hd];exact zau rfl
 rw [zxJ h1];conv=>whnf
 refine ⟨⟨by omega,by omega,rfl⟩,?_⟩;rw [zxp,zxK];conv=>whnf
 refine zBM (o:=6) sgC zdu (zxA ..) hee (by first | exact za3 rfl | exact zaW rfl) (by decide) (by decide) (fun h=>by cases h) ?_;conv=>whnf
 refine cf hcb ?_;by_cases h2 : e.2.ok;rotate_left
 ·rw [zxJ (fun h=>h2 h.2)] at hd;rw [zxI h2];conv=>whnf
  rw [hE,<-hd];exact zau rfl
 rw [zxJ h2];rw [zxI (fun h=>h ⟨h1,h2⟩)] at hd;have hq1:=zBs h1;have hq2:=zBs h2;conv=>whnf
 refine zak.qk ?_;conv=>whnf
 refine ⟨⟨by omega,by omega,rfl⟩,?_⟩;rw [zxp,zxK];conv=>whnf
 refine zBM (o:=0) sgC zdu (zxA ..) hee (by first | exact za3 rfl | exact zaW rfl) (by decide) (by decide) (fun h=>by cases h) ?_;conv=>whnf
 refine ⟨⟨by omega,by omega,rfl⟩,?_⟩;rw [zxp,zxK];conv=>whnf
 refine zBM (o:=6) sgC zdu (zxA ..) hee (by first | exact za3 rfl | exact zaW rfl) (by decide) (by decide) (fun h=>by cases h) ?_;conv=>whnf
 by_cases h3 : e.1=e.2
 ·rw [zxJ h3] at hd;refine zag (by rw [hq1,hq2]; exact (eqPV e.1.v e.2.v).trans (zz8 (by rw [h3]))) ?_;conv=>whnf
  rw [hE,<-hd];exact zau rfl
 rw [zxI h3] at hd;refine zac (by rw [hq1,hq2]; exact (eqPV e.1.v e.2.v).trans (zz9 (fun k=>h3 (by rw [hq1,hq2,k])))) ?_;conv=>whnf
 exact ⟨i+1,⟨by omega,hd⟩,by show n-(i+1)<n-i; omega,zzj ⟨rfl,rfl,zaq hin (by omega),trivial⟩ ⟨mrf rfl,trivial⟩ (fun R hR=>hR)⟩
abbrev ptQ (p : V) : List Value:=ptC (PQ p)
theorem za9 (p : V) : (ptQ p).length=6:=rfl
theorem zoz (L : List V) (hl : L.length<=1000000) : FnC PP 118 [] [] zaw L.length (rowV ptQ L) (ddp L).length (rowV ptQ (ddp L)):=by
 refine FnC.of zab mixed Tryz.func118 rfl rfl (zxW rfl) (by simp) ?_;intro w b cap junk hcap _;obtain ⟨n,hn⟩ : ∃ n,n=L.length:=⟨_,rfl⟩;rw [<-hn] at hl hcap ⊢;have wr : ∀ {i : Nat},i<1000001->IntKind.i64.wrap ((i : Int)+1)=((i+1 : Nat) : Int):=fun h=>by rw [wrap_i64 (by omega) (by omega)]; rfl
 have wl : ∀ {i : Nat},0<i->i<1000001->IntKind.i64.wrap ((i : Int)-1)=((i-1 : Nat) : Int):=fun h h'=>by rw [wrap_i64 (by omega) (by omega)]; omega
 conv=>whnf
 by_cases h2 : n<2
 · refine zag (zz8 (show (n : Int)<2 by omega)) ?_;conv=>whnf
   have hd : ddp L=L:=by
     match L,hn with
     | [],_=>rfl
     | [x],_=>rfl
     | x::y::r,hn=>simp at hn; omega
   refine ⟨by rw [hd,<-hn],junk,by rw [hd]; rfl,by rw [hd]⟩
 refine zac (zz9 (show ¬(n : Int)<2 by omega)) ?_;conv=>whnf
 refine zal (ι:=Nat) (fun k=>⟨[(0,.o (.s 61 0 n cap)),(3,.o (.v (.int .i64 k)))],[(61,.sym (rowV ptQ L++junk) zaw)],[]⟩)
   (fun k=>(1<=k/\k<=n)/\ddp (L.take k)=L.take k) (fun k=>n-k) 1 ⟨⟨by omega,by omega⟩,by rcases L with _ | ⟨x,r⟩ <;> simp [ddp,ddpG]⟩
   (zzj ⟨rfl,rfl,trivial⟩ ⟨mrf rfl,trivial⟩ (fun R hR=>hR)) ?_
 rintro k ⟨⟨hk1,hkn⟩,hdk⟩;conv=>whnf
 by_cases hk : k<n;rotate_left
 · refine zac (zz9 (show ¬(k : Int)<(n : Int) by omega)) ?_;conv=>whnf
   have hd : ddp L=L:=by rw [zyJ (by omega)] at hdk; exact hdk
   exact ⟨by rw [hd,<-hn]; rfl,junk,by rw [hd]; rfl,by rw [hd]⟩
 refine zag (zz8 (show (k : Int)<(n : Int) by omega)) ?_;obtain ⟨x,hx⟩ : ∃ x,L[k]?=some x:=⟨_,zyy (by omega)⟩;obtain ⟨y,hy⟩ : ∃ y,L[k-1]?=some y:=⟨_,zyy (by omega)⟩;conv=>whnf
 refine zak.qk ?_;conv=>whnf
 refine ⟨⟨by omega,by omega⟩,?_⟩;conv=>whnf
 refine zA2 ptQ za9 (k:=k) (by show 0+(k : Int).toNat*6=k*6; rw [zzS]; omega) (by omega) (by decide) (fun h=>by cases h) ?_;intro x' hx';obtain rfl : x'=x:=by rw [hx] at hx'; exact (zz1 hx').symm
 conv=>whnf
 refine ⟨by rw [wl (by omega) (by omega)]; omega,?_⟩;conv=>whnf
 refine zA2 ptQ za9 (k:=k-1) (by show 0+(IntKind.i64.wrap ((k : Int)-1)).toNat*6=(k-1)*6; rw [wl (by omega) (by omega),zzS]; omega) (by omega) (by decide) (fun h=>by cases h) ?_;intro y' hy';obtain rfl : y'=y:=by rw [hy] at hy'; exact (zz1 hy').symm
 conv=>whnf
 have hstep:=zhc (by omega) hx hy;by_cases he : x'=y';rotate_left
 · refine zac ((eqPV x' y').trans (zz9 he)) ?_;conv=>whnf
   rw [zxI he,hdk,<-zaD hx] at hstep;exact ⟨k+1,⟨⟨by omega,by omega⟩,hstep⟩,by show n-(k+1)<n-k; omega,zzj ⟨rfl,zyr (fun z=>some (SV.o (.v (.int .i64 z)))) (wr (by omega)),trivial⟩ ⟨mrf rfl,trivial⟩ (fun R hR=>hR)⟩
 refine zag ((eqPV x' y').trans (zz8 he)) ?_;rw [zxJ he] at hstep;conv=>whnf
 refine ⟨by omega,?_⟩;conv=>whnf
 refine zal (ι:=Nat×Nat×List V) (fun ⟨j,m,R⟩=>⟨[(0,.o (.s 61 0 n cap)),(3,.o (.v (.int .i64 m))),(4,.o (.s 61 (k*6) (n-k) (cap-k))),(5,.o (.v (.int .i64 j)))],[(61,.sym (rowV ptQ R++junk) zaw)],[]⟩)
   (fun ⟨j,m,R⟩=>(1<=j/\k+j<=n)/\R.length=n/\(m<k+j/\R.take m=ddp (L.take (k+j))/\m=(ddp (L.take (k+j))).length)/\R.drop (k+j-1)=L.drop (k+j-1)) (fun ⟨j,m,R⟩=>n-(k+j)) (1,k,L)
   ⟨⟨by omega,by omega⟩,hn.symm,⟨by omega,by rw [hstep,hdk],by rw [hstep,hdk,zyI]; omega⟩,rfl⟩
   (zzj ⟨rfl,rfl,zyr (fun z=>some (SV.o (.s 61 z (n-k) (cap-k)))) (by show 0+(k : Int).toNat*6=k*6; rw [zzS]; omega),rfl,trivial⟩ ⟨mrf rfl,trivial⟩ (fun R hR=>hR)) ?_
 rintro ⟨j,m,R⟩ ⟨⟨hj1,hjn⟩,hRl,⟨hmk,hRt,hml⟩,hRd⟩;conv=>whnf
 by_cases hj : k+j<n
 · refine zag (zz8 (show (j : Int)<((n-k : Nat) : Int) by omega)) ?_;have hget : ∀ i,k+j-1<=i->R[i]?=L[i]?:=fun i hi=>by
     have:=zyr (fun l=>l[i-(k+j-1)]?) hRd;simpa [zx8,show k+j-1+(i-(k+j-1))=i by omega] using this
   obtain ⟨u,hu⟩ : ∃ u,L[k+j]?=some u:=⟨_,zyy (by omega)⟩;obtain ⟨v,hv⟩ : ∃ v,L[k+j-1]?=some v:=⟨_,zyy (by omega)⟩;have hu2:=(hget (k+j) (by omega)).trans hu;have hv2:=(hget (k+j-1) (by omega)).trans hv;have hst2:=zhc (k:=k+j) (by omega) hu hv;conv=>whnf
   refine zak.qk ?_;conv=>whnf
   refine ⟨by omega,?_⟩;conv=>whnf
   refine zA2 ptQ za9 (k:=k+j) (by show k*6+(j : Int).toNat*6=(k+j)*6; rw [zzS]; omega) (by omega) (by decide) (fun h=>by cases h) ?_;intro u' hu';obtain rfl : u'=u:=by rw [hu2] at hu'; exact (zz1 hu').symm
   conv=>whnf
   refine ⟨by rw [wl (by omega) (by omega)]; omega,?_⟩;conv=>whnf
   refine zA2 ptQ za9 (k:=k+j-1) (by show k*6+(IntKind.i64.wrap ((j : Int)-1)).toNat*6=(k+j-1)*6; rw [wl (by omega) (by omega),zzS]; omega) (by omega) (by decide) (fun h=>by cases h) ?_;intro v' hv';obtain rfl : v'=v:=by rw [hv2] at hv'; exact (zz1 hv').symm
   conv=>whnf
   by_cases hne : u'=v'
   · refine zac (zyr (!·) ((eqPV u' v').trans (zz8 hne))) ?_;conv=>whnf
     rw [zxJ hne] at hst2;exact ⟨(j+1,m,R),⟨⟨by omega,by omega⟩,hRl,⟨by omega,by rw [<-zxS,hst2]; exact hRt,by rw [<-zxS,hst2]; exact hml⟩,by
       have:=zyr (fun l=>l.drop 1) hRd;simpa [zze,show k+j-1+1=k+(j+1)-1 by omega,show 1+(k+j-1)=k+(j+1)-1 by omega] using this⟩,by show n-(k+(j+1))<n-(k+j); omega,
       zzj ⟨rfl,rfl,rfl,zyr (fun z=>some (SV.o (.v (.int .i64 z)))) (wr (by omega)),trivial⟩ ⟨mrf rfl,trivial⟩ (fun R hR=>hR)⟩
   · refine zag (by show (!_)=true; rw [eqPV,zz9 hne]; rfl) ?_;rw [zxI hne] at hst2;conv=>whnf
     refine ⟨by omega,?_⟩;conv=>whnf
     refine zA2 ptQ za9 (k:=k+j) (by show k*6+(j : Int).toNat*6=(k+j)*6; rw [zzS]; omega) (by omega) (by decide) (fun h=>by cases h) ?_;intro u2 hu2';obtain rfl : u2=u':=by rw [hu2] at hu2'; exact (zz1 hu2').symm
     conv=>whnf
     refine ⟨by omega,?_⟩;conv=>whnf
     refine ⟨?_,?_⟩
     · show 0+(m : Int).toNat*6+6<=(rowV ptQ R++junk).length;rw [zz2,zad za9,hRl,zzS]; omega
     conv=>whnf
     refine ⟨(j+1,m+1,R.set m u2),⟨⟨by omega,by omega⟩,by rw [List.length_set]; exact hRl,⟨by omega,?_,?_⟩,?_⟩,by show n-(k+(j+1))<n-(k+j); omega,
       zzj ⟨rfl,zyr (fun z=>some (SV.o (.v (.int .i64 z)))) (wr (by omega)),rfl,zyr (fun z=>some (SV.o (.v (.int .i64 z)))) (wr (by omega)),trivial⟩ ⟨⟨_,rfl,?_⟩,trivial⟩ (fun R hR=>hR)⟩
     · rw [<-zxS,hst2,<-hRt,zAr,List.getElem?_set_self (by omega),List.take_set_of_le (zxr m)]; rfl
     · rw [<-zxS,hst2,zz2,<-hml]; rfl
     · rw [List.drop_set_of_lt (by omega)];have:=zyr (fun l=>l.drop 1) hRd;simpa [zze,show k+j-1+1=k+(j+1)-1 by omega,show 1+(k+j-1)=k+(j+1)-1 by omega] using this
     · have:=zk7 za9 (junk:=junk) u2 (show m<R.length by omega) (show 0+(m : Int).toNat*6=m*6 by rw [zzS]; omega);show MEle (ME.sym (putN (0+(m : Int).toNat*6) (ptQ u2) (rowV ptQ R++junk)) zaw) _;rw [this];exact .refl _
 · refine zac (zz9 (show ¬(j : Int)<((n-k : Nat) : Int) by omega)) ?_;rw [zyJ (show L.length<=k+j by omega)] at hRt hml;conv=>whnf
   refine ⟨by omega,?_⟩;conv=>whnf
   refine ⟨?_,?_⟩
   · refine ⟨by show 0<n-(m : Int).toNat; rw [zzS]; omega,rfl,?_,?_⟩
     · show 0+(m : Int).toNat*6+(n-(m : Int).toNat)*6<=(rowV ptQ R++junk).length;rw [zz2,zad za9,hRl,zzS]; omega
     · intro v hv;have hv : v∈[Value.bool false,.string ⟨#[]⟩,.string ⟨#[]⟩,.bool false,.string ⟨#[]⟩,.string ⟨#[]⟩]:=hv;simp only [zy1,zBL,or_false] at hv;rcases hv with rfl | rfl | rfl | rfl | rfl | rfl <;> rfl
   conv=>whnf
   refine ⟨by omega,?_⟩;conv=>whnf
   obtain ⟨z,hz⟩ : ∃ z,z=repl (n-(m : Int).toNat) [Value.bool false,.string ⟨#[]⟩,.string ⟨#[]⟩,.bool false,.string ⟨#[]⟩,.string ⟨#[]⟩]:=⟨_,rfl⟩;have hzl : z.length=(n-m)*6:=by rw [hz,zbP,zzS]; rfl
   refine ⟨?_,z++junk,?_,?_⟩
   · rw [<-hml]; rfl
   · show some (ME.sym (putN (0+(m : Int).toNat*6) (repl (n-(m : Int).toNat) [Value.bool false,.string ⟨#[]⟩,.string ⟨#[]⟩,.bool false,.string ⟨#[]⟩,.string ⟨#[]⟩]) (rowV ptQ R++junk)) zaw)=_;rw [<-hz,zb9 _ _ _ (by rw [zz2,zad za9,hRl,hzl,zzS]; omega),hzl,zzS];have e1 : (rowV ptQ R++junk).take (0+m*6)=rowV ptQ (ddp L):=by
       rw [zyo,zA3 (by rw [zad za9,hRl]; omega),zbh za9,hRt]
     have e2 : (rowV ptQ R++junk).drop (0+m*6+(n-m)*6)=junk:=by
       rw [show 0+m*6+(n-m)*6=(rowV ptQ R).length by rw [zad za9,hRl]; omega,List.drop_left]
     rw [e1,e2,zyF]
   · rw [zz2,zz2,zz2,zad za9,zad za9,hzl,<-hml,<-hn]; omega
theorem zu5 (s : Sl) (c r : Nat) (l : Ln Rat) (x y : Rat) (hl : s.L.xs[c]?=some l) (hx : s.X.xs[c]?=some x) (hy : l.xs[r]?=some y) :
  FnM PP 110 [s.V,Cel.V ⟨0,c,r⟩] (facts s.F) (zbD zaw 6 1 (rowV ptQ [⟨x,y⟩])):=by
 refine zzm zab mixed Tryz.func110 rfl rfl (zxW rfl) s.F_ok (fun w l st E w' hp hm=>zc0 hp hm) ?_;intro w hw;conv=>whnf
 refine cfs (zeW s c r l x y hl hx hy) ?_;conv=>whnf
 exact ⟨_,1,[],rfl,.inr ⟨_,rfl,rfl⟩,rfl,by decide,by decide,rfl⟩
theorem zvM (s : Sl) (c r : Nat) (l : Ln Rat) (x y y' : Rat) (hl : s.L.xs[c]?=some l) (hx : s.X.xs[c]?=some x) (hy : l.xs[r]?=some y) (hy' : l.xs[r+1]?=some y') (hr : r<=1000000) :
  FnM PP 112 [s.V,Cel.V ⟨1,c,r⟩] (facts s.F) (zbD zaw 6 2 (rowV ptQ [⟨x,y⟩,⟨x,y'⟩])):=by
 refine zzm zab mixed Tryz.func112 rfl rfl (zxW rfl) s.F_ok (fun w l st E w' hp hm=>zc0 hp hm) ?_;intro w hw;have hv':=zeW s c (r+1) l x y' hl hx hy';rw [<-(show IntKind.i64.wrap ((r : Int)+1)=((r+1 : Nat) : Int) by rw [wrap_i64 (by omega) (by omega)]; rfl)] at hv';conv=>whnf
 refine zak.qk ?_;conv=>whnf
 refine cds (zeW s c r l x y hl hx hy) ?_;conv=>whnf
 refine cds hv' ?_;conv=>whnf
 exact ⟨_,2,[],rfl,.inr ⟨_,rfl,rfl⟩,rfl,by decide,by decide,rfl⟩
theorem zv5 (s : Sl) (c r : Nat) (t : Ln Nat) (x y : Rat) (hs : s.small) (hz : s.sz) (hzx : s.szX) (ht : s.S.xs[c]?=some t) (hx : s.X.xs[c]?=some x) (hy : s.X.xs[c+1]?=some y) (hr : r<=100000000) :
  FnM PP 115 [s.V,Cel.V ⟨2,c,r⟩] (facts s.F) (zbD zaw 6 2 (rowV ptQ [onP s t r x,onP s t r y])):=by
 refine zzm zab mixed Tryz.func115 rfl rfl (zxW rfl) s.F_ok (fun w l st E w' hp hm=>zc0 hp hm) ?_;intro w hw;have hw1 : ∀ {n : Nat},n<=1000000000->IntKind.i64.wrap ((n : Int)+1)=((n+1 : Nat) : Int):=fun h=>by rw [wrap_i64 (by omega) (by omega)]; rfl
 have hs':=hs;obtain ⟨s1,s2,s3,s4,s5,s6⟩:=hs';have zx : Sz KY x:=(hzx.X x (zyq hx)).le (by decide);have zy : Sz KY y:=(hzx.X y (zyq hy)).le (by decide);have h6:=(zyz.1 hx).1;have h7:=(zyz.1 hy).1;have hAX : s.X.A.isSome=true:=zam (hw _ zBY) (by rw [zad zas]; omega);conv=>whnf
 refine zak.qk ?_;conv=>whnf
 refine ⟨⟨show (0 : Int)<=(c : Int) by omega,show (c : Int)<(s.X.xs.length : Int) by omega,hAX⟩,?_⟩;conv=>whnf
 refine zan.nat (A:=s.X.A) ratQ zas zBY rfl hx ?_;obtain ⟨x',rfl⟩ : ∃ z,z=x:=⟨_,rfl⟩;conv=>whnf
 refine cds (c_on s c r t x' hs hz ht zx (by omega)) ?_;conv=>whnf
 refine ⟨⟨show 0<=IntKind.i64.wrap ((c : Int)+1) by rw [hw1 (by omega)]; omega,show IntKind.i64.wrap ((c : Int)+1)<(s.X.xs.length : Int) by rw [hw1 (by omega)]; omega,hAX⟩,?_⟩;conv=>whnf
 refine zan.nat (A:=s.X.A) ratQ zas zBY (zyr (fun z : Int=>s.X.A.map (fun a=>a.add (z.toNat*3))) (hw1 (n:=c) (by omega))) hy ?_;obtain ⟨y',rfl⟩ : ∃ z,z=y:=⟨_,rfl⟩;conv=>whnf
 refine cds (c_on s c r t y' hs hz ht zy (by omega)) ?_;conv=>whnf
 exact ⟨_,2,[],rfl,.inr ⟨_,rfl,rfl⟩,rfl,by decide,by decide,rfl⟩
def unw (l : List V) : List V:=if 1<l.length/\l[0]?=l[l.length-1]? then l.take (l.length-1) else l
theorem zua (l : List V) : (unw l).length<=l.length:=by
 unfold unw;split
 ·rw [zyI]; omega
 ·exact zxr _
def crn3 (s : Sl) (t : Ln Nat) (r : Nat) (x y : Rat) : List V:=unw (ddp [onP s t r x,onP s t r y,onP s t (r+1) y,onP s t (r+1) x])
theorem zvw (s : Sl) (c r : Nat) (t : Ln Nat) (x y : Rat) (hs : s.small) (hz : s.sz) (hzx : s.szX) (ht : s.S.xs[c]?=some t) (hx : s.X.xs[c]?=some x) (hy : s.X.xs[c+1]?=some y) (hr : r<=100000000) :
  FnM PP 117 [s.V,Cel.V ⟨3,c,r⟩] (facts s.F) (zbD zaw 6 (crn3 s t r x y).length (rowV ptQ (crn3 s t r x y))):=by
 refine zzm zab mixed Tryz.func117 rfl rfl (zxW rfl) s.F_ok (fun w l st E w' hp hm=>zc0 hp hm) ?_;intro w hw;have hw1 : ∀ {n : Nat},n<=1000000000->IntKind.i64.wrap ((n : Int)+1)=((n+1 : Nat) : Int):=fun h=>by rw [wrap_i64 (by omega) (by omega)]; rfl
 have hs':=hs;obtain ⟨s1,s2,s3,s4,s5,s6⟩:=hs';have zx : Sz KY x:=(hzx.X x (zyq hx)).le (by decide);have zy : Sz KY y:=(hzx.X y (zyq hy)).le (by decide);have h6:=(zyz.1 hx).1;have h7:=(zyz.1 hy).1;have hAX : s.X.A.isSome=true:=zam (hw _ zBY) (by rw [zad zas]; omega);conv=>whnf
 refine zy4 [(15,5,[6,7,8,9,10,11,12])] (by kernel_rfl) ?_;conv=>whnf
 refine ⟨⟨show (0 : Int)<=(c : Int) by omega,show (c : Int)<(s.X.xs.length : Int) by omega,hAX⟩,?_⟩;conv=>whnf
 refine zan.nat (A:=s.X.A) ratQ zas zBY rfl hx ?_;obtain ⟨x',rfl⟩ : ∃ z,z=x:=⟨_,rfl⟩;conv=>whnf
 refine ⟨⟨show 0<=IntKind.i64.wrap ((c : Int)+1) by rw [hw1 (by omega)]; omega,show IntKind.i64.wrap ((c : Int)+1)<(s.X.xs.length : Int) by rw [hw1 (by omega)]; omega,hAX⟩,?_⟩;conv=>whnf
 refine zan.nat (A:=s.X.A) ratQ zas zBY (zyr (fun z : Int=>s.X.A.map (fun a=>a.add (z.toNat*3))) (hw1 (n:=c) (by omega))) hy ?_;obtain ⟨y',rfl⟩ : ∃ z,z=y:=⟨_,rfl⟩;have ho1:=c_on s c r t x' hs hz ht zx (by omega);have ho2:=c_on s c r t y' hs hz ht zy (by omega);have ho3:=c_on s c (r+1) t y' hs hz ht zy (by omega);have ho4:=c_on s c (r+1) t x' hs hz ht zx (by omega);rw [<-hw1 (n:=r) (by omega)] at ho3 ho4;obtain ⟨L,hL⟩ : ∃ L,L=[onP s t r x',onP s t r y',onP s t (r+1) y',onP s t (r+1) x']:=⟨_,rfl⟩;have hl4 : L.length=4:=by rw [hL]; rfl
 have hC:=zoz L (by rw [hl4]; decide);have hcr : crn3 s t r x' y'=unw (ddp L):=by rw [crn3,hL]
 have hdl : (ddp L).length<=4:=by rw [<-hl4]; exact zhJ _
 conv=>whnf
 refine zak.at 31 (by kernel_rfl) ?_;conv=>whnf
 refine cds ho1 ?_;conv=>whnf
 refine cds ho2 ?_;conv=>whnf
 refine cds ho3 ?_;conv=>whnf
 refine cds ho4 ?_;conv=>whnf
 rw [hcr];refine zae.cb (k:=52) (c:=4) hC (.inr ⟨_,rfl,by rw [hL]; rfl⟩) (by rw [hl4]; decide) (by simp) (fun jk hjk=>?_) (by rw [hl4]; rfl);have hjk : (ddp L).length*6+jk.length=24:=by rw [zz2,zad za9,zad za9,hl4] at hjk; omega
 obtain ⟨D,hD⟩ : ∃ D,D=ddp L:=⟨_,rfl⟩;obtain ⟨n,hn⟩ : ∃ n,n=D.length:=⟨_,rfl⟩;rw [<-hD] at hdl hjk ⊢;rw [<-hn] at hdl hjk ⊢;have hD1 : 0<n:=by rw [hn,hD,hL]; exact Nat.succ_pos _
 have wl : IntKind.i64.wrap ((n : Int)-1)=((n-1 : Nat) : Int):=by rw [wrap_i64 (by omega) (by omega)]; omega
 have hrl : ∀ X : List V,X.length<=4->X=D.take X.length->∃ junk,rowV ptQ D++jk=rowV ptQ X++junk/\(rowV ptQ X++junk).length=4*6:=fun X h4 hX=>by
  refine ⟨rowV ptQ (D.drop X.length)++jk,?_,?_⟩
  ·rw [<-zyF,<-zaE]
   congr 2
   conv=>lhs; rw [<-zz0 X.length D]
   rw [<-hX]
  ·rw [<-zyF,<-zaE,show X++D.drop X.length=D by conv=>rhs; rw [<-zz0 X.length D]; rw [<-hX],zz2,zad za9,<-hn];omega
 conv=>whnf
 refine zak.qk ?_;conv=>whnf
 by_cases h1 : 1<n;rotate_left
 ·refine zac (zz9 (show ¬(n : Int)>1 by omega)) ?_;conv=>whnf
  have hu : unw D=D:=by unfold unw; rw [zxI (fun h=>h1 (by rw [hn]; exact h.1))]
  rw [hu];obtain ⟨junk,e1,e2⟩:=hrl D (by omega) (by rw [zAq]);exact ⟨52,4,junk,by rw [<-hn],.inl (by rw [<-e1]; rfl),by rw [zad za9],by omega,by decide,e2⟩
 refine zag (zz8 (show (n : Int)>1 by omega)) ?_;obtain ⟨a,ha⟩ : ∃ a,D[0]?=some a:=⟨_,zyy (by omega)⟩;obtain ⟨b,hb⟩ : ∃ b,D[n-1]?=some b:=⟨_,zyy (by omega)⟩;conv=>whnf
 refine ⟨⟨by omega,by omega⟩,?_⟩;conv=>whnf
 refine zA2 ptQ za9 (k:=0) rfl (by omega) (by decide) (fun h=>by cases h) ?_;intro a' ha';obtain rfl : a'=a:=by rw [ha] at ha'; exact (zz1 ha').symm
 conv=>whnf
 refine ⟨by rw [wl]; omega,?_⟩;conv=>whnf
 refine zA2 ptQ za9 (k:=n-1) (by show 0+(IntKind.i64.wrap ((n : Int)-1)).toNat*6=(n-1)*6; rw [wl,zzS]; omega) (by omega) (by decide) (fun h=>by cases h) ?_;intro b' hb';obtain rfl : b'=b:=by rw [hb] at hb'; exact (zz1 hb').symm
 conv=>whnf
 by_cases hab : a'=b';rotate_left
 ·refine zac ((eqPV a' b').trans (zz9 hab)) ?_;conv=>whnf
  have hu : unw D=D:=by unfold unw; rw [zxI (fun h=>hab (by have:=h.2; rw [<-hn,ha,hb] at this; exact zz1 this))]
  rw [hu];obtain ⟨junk,e1,e2⟩:=hrl D (by omega) (by rw [zAq]);exact ⟨52,4,junk,by rw [<-hn],.inl (by rw [<-e1]; rfl),by rw [zad za9],by omega,by decide,e2⟩
 refine zag ((eqPV a' b').trans (zz8 hab)) ?_;conv=>whnf
 refine ⟨by rw [wl]; omega,?_⟩;conv=>whnf
 have hu : unw D=D.take (n-1):=by unfold unw; rw [zxJ ⟨by omega,by rw [<-hn,ha,hb,hab]⟩,<-hn]
 rw [hu];have hl1 : (D.take (n-1)).length=n-1:=by rw [zyI]; omega
 obtain ⟨junk,e1,e2⟩:=hrl (D.take (n-1)) (by omega) (by rw [hl1]);exact ⟨52,4,junk,by rw [hl1]; show [SV.o (.s 52 0 ((IntKind.i64.wrap ((n : Int)-1)).toNat) 4)]=_; rw [wl,zzS],.inl (by rw [<-e1]; rfl),by rw [zad za9],by omega,by decide,e2⟩
theorem zhg (i : Addr×Addr×Addr×Addr) : ∀ R∈zrT i.1 i.2.1 i.2.2.1 i.2.2.2,R.ok:=fun R hR=>by
 simp only [zy1,zBL,or_false] at hR;rcases hR with rfl | rfl | rfl | rfl <;> exact zzk _ _
theorem zjx {α : Type} {a b c d : α} {l : List α} {x : α} (h : x∈l) : x∈[a,b,c,d]++l:=zBV _ h
def crnL (s : Sl) (x : Cel) : List V :=
 let X:=s.X.xs.getD x.c 0
 let Y:=s.X.xs.getD (x.c+1) 0
 let l:=(s.L.xs.map (·.xs)).getD x.c []
 let t:=s.S.xs.getD x.c ⟨none,0,[]⟩
 match x.k with
 | 0=>[⟨X,l.getD x.r 0⟩]
 | 1=>[⟨X,l.getD x.r 0⟩,⟨X,l.getD (x.r+1) 0⟩]
 | 2=>[onP s t x.r X,onP s t x.r Y]
 | _=>crn3 s t x.r X Y
abbrev crnF : Nat->FuncId
 | 0=>110
 | 1=>112
 | 2=>115
 | _=>117
theorem zcm {s : Sl} {k c r : Nat} (hs : s.small) (hk : k<4) (hx : (r : Int)<cntK s k c) : c<=1000000/\r<=10000000:=by
 obtain ⟨s1,s2,s3,s4,s5,s6⟩:=hs;have hk' : k=0\/k=1\/k=2\/k=3:=by omega
 rcases hk' with rfl | rfl | rfl | rfl
 ·obtain ⟨l,x,h1,h2,h3⟩:=zaZ hx; have:=(zyz.1 h1).1; have:=s4 l (zyq h1); omega
 ·obtain ⟨l,x,h1,h2,h3⟩:=zaZ hx; have:=(zyz.1 h1).1; have:=s4 l (zyq h1); omega
 ·obtain ⟨l,x,y,h1,h2,h3⟩:=zaG hx; have:=(zyz.1 h1).1; have:=s5 l (zyq h1); omega
 ·obtain ⟨l,x,y,h1,h2,h3⟩:=zaG hx; have:=(zyz.1 h1).1; have:=s5 l (zyq h1); omega
theorem zmo (s : Sl) (x : Cel) (hs : s.small) (hz : s.sz) (hzx : s.szX) (hk : x.k<4) (hx : (x.r : Int)<cntK s x.k x.c) : FnM PP (crnF x.k) [s.V,x.V] (facts s.F) (zbD zaw 6 (crnL s x).length (rowV ptQ (crnL s x))):=by
 obtain ⟨k,c,r⟩:=x;have hk' : k=0\/k=1\/k=2\/k=3:=by have : k<4:=hk; omega
 have hsm:=zcm hs hk hx;rcases hk' with rfl | rfl | rfl | rfl
 ·obtain ⟨l,x,h1,h2,h3⟩:=zaZ (show (r : Int)<zb2 s 0 c from hx);obtain ⟨y,hy⟩ : ∃ y,l.xs[r]?=some y:=⟨_,zyy (by omega)⟩;have:=zu5 s c r l x y h1 h2 hy;rw [show crnL s ⟨0,c,r⟩=[⟨x,y⟩] by simp only [crnL]; rw [zah h2,zah (show (s.L.xs.map (·.xs))[c]?=some l.xs by rw [zx4,h1]; rfl),zah hy]];exact this
 ·obtain ⟨l,x,h1,h2,h3⟩:=zaZ (show (r : Int)<zb2 s 1 c from hx);obtain ⟨y,hy⟩ : ∃ y,l.xs[r]?=some y:=⟨_,zyy (by omega)⟩;obtain ⟨y',hy'⟩ : ∃ y,l.xs[r+1]?=some y:=⟨_,zyy (by omega)⟩;have:=zvM s c r l x y y' h1 h2 hy hy' (by have:=hs.2.2.2.1 l (zyq h1); omega);rw [show crnL s ⟨1,c,r⟩=[⟨x,y⟩,⟨x,y'⟩] by simp only [crnL]; rw [zah h2,zah (show (s.L.xs.map (·.xs))[c]?=some l.xs by rw [zx4,h1]; rfl),zah hy,zah hy']];exact this
 ·obtain ⟨t,x,y,h1,h2,h3,h4,h5⟩:=zaG (show (r : Int)<za6 s 2 c from hx);have:=zv5 s c r t x y hs hz hzx h1 h2 h3 (by have:=hsm.2; simp only at this; omega);rw [show crnL s ⟨2,c,r⟩=[onP s t r x,onP s t r y] by simp only [crnL]; rw [zah h2,zah h3,zah h1]];exact this
 ·obtain ⟨t,x,y,h1,h2,h3,h4,h5⟩:=zaG (show (r : Int)<za6 s 1 c from hx);have:=zvw s c r t x y hs hz hzx h1 h2 h3 (by have:=hsm.2; simp only at this; omega);rw [show crnL s ⟨3,c,r⟩=crn3 s t r x y by simp only [crnL]; rw [zah h2,zah h3,zah h1]];exact this
theorem zlN (s : Sl) (x : Cel) (hs : s.small) (hz : s.sz) (hzx : s.szX) (hk : x.k<4) (hx : (x.r : Int)<cntK s x.k x.c) :
   FnM PP 15 [s.V,x.V] (facts s.F) (zcl zaw 6 (crnL s x).length (rowV ptQ (crnL s x)) (.int .i64 0)):=by
 refine zzl zab mixed Tryz.func15 rfl rfl (zxW rfl) s.F_ok (fun w l st E w' hp hm=>zeU hp hm) ?_;intro w hw;have hC:=zmo s x hs hz hzx hk hx;have his:=ziL s x hs ⟨hk,(zcm hs hk hx).1⟩;rw [zz8 hx] at his;obtain ⟨L,hL⟩ : ∃ L,L=crnL s x:=⟨_,rfl⟩;rw [<-hL] at hC ⊢;obtain ⟨k,c,r⟩:=x;have hk' : k=0\/k=1\/k=2\/k=3:=by have : k<4:=hk; omega
 refine zy9 zab mixed ?_;conv=>whnf
 refine zy9 zab mixed ?_;conv=>whnf
 refine cfs his ?_;conv=>whnf
 refine zAk ?_;rcases hk' with rfl | rfl | rfl | rfl
 all_goals
   refine zB9 zab mixed [] (10+4294967296) (zrm 0 [1,2,3,4,5,6,7,8,9] 5 [] [[1,2],[5],[6]]) (K:=fun st=>SLe ⟨w,[],Tryz.f15.ntmps⟩ st ⟨[(4,.o (.w 17)),(5,.o (.v (.int .i64 0)))],[(17,.own zaw 6 L.length (rowV ptQ L))],[]⟩) (by kernel_rfl) ?_ ?_;rotate_left
   · intro st hst;refine zy8 ?_ hst;refine zy7 zab mixed ?_;conv=>whnf
     exact ⟨17,rfl,rfl⟩
   conv=>whnf
   repeat' (first
     | exact True.intro
     | exact zzj ⟨rfl,rfl,trivial⟩ ⟨mrf rfl,trivial⟩ (fun R hR=>by cases hR)
     | (refine zBI zbI.enters (zzq zbI rfl (by simp)) zhg (fun ⟨a1,a2,a3,a4⟩ hex=>?_); conv=>whnf)
     | (refine zA8 hC.enters (zzq hC rfl (fun R hR=>zjx hR)) ?_; conv=>whnf)
     | (refine And.intro ?_ ?_ <;> (conv=>whnf))
     | (refine ⟨⟨zAP _,zA6.2 hk⟩,?_⟩; conv=>whnf))


theorem zeL {α : Type} {l : List α} {i : Nat} {x : α} (h : l[i]?=some x) : l.drop i=x::l.drop (i+1):=by
 obtain ⟨h1,h2⟩:=zyz.1 h;rw [<-h2]; exact zzd h1
theorem zoe (A : Option Addr) (c : Nat) (L : List Cel) (x : Cel) (hl : L.length<=1000000000) :
  FnM PP 140 [.slice A L.length c,x.V] (facts [zai A (rowV Cel.C L)]) (zaR (.int .i64 (idxF (fun y=>decide (x=y)) 0 L))):=by
 refine zzo zab mixed Tryz.func140 rfl rfl (zxW rfl) (by simp [zzk]) ?_;intro w hw;obtain ⟨f,hf⟩ : ∃ f : Cel->Bool,f=fun y=>decide (x=y):=⟨_,rfl⟩
 rw [<-hf];obtain ⟨n,hn⟩ : ∃ n,n=L.length:=⟨_,rfl⟩;have hA : 0<n->A.isSome=true:=fun h=>zam (zaK hw) (by rw [zad zB0]; omega)
 rw [<-hn] at hl ⊢;conv=>whnf
 refine zal (ι:=Nat) (fun i=>⟨[(0,.o (.v (.slice A n c))),(3,.o (.p 3 0)),(7,.o (.v (.int .i64 n))),(8,.o (.v (.int .i64 i)))],[(3,.box (x.C.map AV.v) zao)],[zai A (rowV Cel.C L)]⟩)
  (fun i=>i<=n/\idxF f 0 L=idxF f i (L.drop i)) (fun i=>n-i) 0 ⟨zyD _,rfl⟩
  (zzj ⟨rfl,rfl,rfl,rfl,trivial⟩ ⟨mrf rfl,trivial⟩ (fun R hR=>hR)) ?_
 rintro i ⟨hi0,hx⟩;conv=>whnf
 by_cases hi : i<n;rotate_left
 ·refine zac (zz9 (show ¬(i : Int)<(n : Int) by omega)) ?_;rw [show i=n by omega,hn,zAE] at hx;conv=>whnf
  exact zaa (by rw [hx]; rfl)
 refine zag (zz8 (show (i : Int)<(n : Int) by omega)) ?_;obtain ⟨y,hy⟩ : ∃ y,L[i]?=some y:=⟨_,zyy (by omega)⟩;conv=>whnf
 refine zak.qk ?_;conv=>whnf
 refine ⟨⟨by omega,by omega,hA (by omega)⟩,?_⟩;conv=>whnf
 refine zan.nat (A:=A) Cel.C zB0 (zxA ..) rfl hy ?_;obtain ⟨y',rfl⟩ : ∃ z,z=y:=⟨_,rfl⟩;have he : (((x.k : Int)==(y'.k : Int))&&(((x.c : Int)==(y'.c : Int))&&(((x.r : Int)==(y'.r : Int))&&true)))=f y':=by
  rw [hf];obtain ⟨a,b,c⟩:=x;obtain ⟨a',b',c'⟩:=y';refine zyV.2 ?_;simp only [zxV,zyY,zzc,zxY,Cel.mk.injEq];omega
 rw [zeL hy] at hx;simp only [idxF] at hx;conv=>whnf
 cases hfy : f y' with
 | true =>
  rw [hfy,zxJ rfl] at hx;refine zag (he.trans hfy) ?_;conv=>whnf
  exact zaa (by rw [hx])
 | false =>
  rw [hfy,zxI (by simp)] at hx;refine zac (he.trans hfy) ?_;conv=>whnf
  exact ⟨i+1,⟨by omega,hx⟩,by show n-(i+1)<n-i; omega,zzj ⟨rfl,rfl,rfl,zaq hi (by omega),trivial⟩ ⟨mrf rfl,trivial⟩ (fun R hR=>hR)⟩
theorem zjJ (A : Option Addr) (c : Nat) (L : List Cel) (x : Cel) (hl : L.length<=1000000000) :
  FnM PP 76 [.slice A L.length c,x.V] (facts [zai A (rowV Cel.C L)]) (zaR (.bool (decide (x∈L)))):=by
 refine zzo zab mixed Tryz.func76 rfl rfl (zxW rfl) (by simp [zzk]) ?_;intro w hw;conv=>whnf
 refine cfs (zoe A c L x hl) ?_;conv=>whnf
 refine zaa (zyr Value.bool ?_);show decide (idxF _ 0 L>=0)=_;rw [zjq];refine zyV.2 ?_;rw [zzV,zxY];exact ⟨fun ⟨y,h1,h2⟩=>by rw [zA0 h2]; exact h1,fun h=>⟨x,h,zz8 rfl⟩⟩
theorem zor (A : Option Addr) (c : Nat) (l : List Rat) (g : FuncId) (caps : List Value) (f : Rat->Bool) (re : List Res) (hl : l.length<=1000000) (hok : ∀ R∈re,R.ok)
  (hf : ∀ x∈l,FnM PP g (qV x::caps) (facts re) (zaR (.bool (f x)))) :
  FnM PP 180 [.slice A l.length c,cloV g caps] (facts (zai A (rowV ratQ l)::re)) (zaR (.int .i64 (idxF f 0 l))):=by
 refine zzo zab mixed Tryz.func180 rfl rfl (zxW rfl) (fun R hR=>by rcases zy1.1 hR with rfl | hR; exact zzk _ _; exact hok R hR) ?_;intro w hw;obtain ⟨n,hn⟩ : ∃ n,n=l.length:=⟨_,rfl⟩;have hA : 0<n->A.isSome=true:=fun h=>zam (hw _ (zxA ..)) (by rw [zad zas]; omega)
 rw [<-hn] at hl ⊢;conv=>whnf
 refine zal (ι:=Nat) (fun i=>⟨[(0,.o (.v (.slice A n c))),(1,.o (.v (cloV g caps))),(7,.o (.v (.int .i64 n))),(8,.o (.v (.int .i64 i)))],[],zai A (rowV ratQ l)::re⟩)
  (fun i=>i<=n/\idxF f 0 l=idxF f i (l.drop i)) (fun i=>n-i) 0 ⟨zyD _,rfl⟩
  (zzj ⟨rfl,rfl,rfl,rfl,trivial⟩ trivial (fun R hR=>hR)) ?_
 rintro i ⟨hi0,hx⟩;conv=>whnf
 by_cases hi : i<n;rotate_left
 ·refine zac (zz9 (show ¬(i : Int)<(n : Int) by omega)) ?_;rw [show i=n by omega,hn,zAE] at hx;conv=>whnf
  exact zaa (by rw [hx]; rfl)
 refine zag (zz8 (show (i : Int)<(n : Int) by omega)) ?_;obtain ⟨y,hy⟩ : ∃ y,l[i]?=some y:=⟨_,zyy (by omega)⟩;conv=>whnf
 refine ⟨⟨by omega,by omega,hA (by omega)⟩,?_⟩;conv=>whnf
 refine zan.nat (A:=A) ratQ zas (zxA ..) rfl hy ?_;obtain ⟨y',rfl⟩ : ∃ z,z=y:=⟨_,rfl⟩;rw [zeL hy] at hx;simp only [idxF] at hx;conv=>whnf
 refine cfs (hf y' (zyq hy)) ?_ rfl (fun R hR=>zxB _ hR)
 cases hfy : f y' with
 | true =>
  rw [hfy,zxJ rfl] at hx;conv=>whnf
  exact zaa (by rw [hx])
 | false =>
  rw [hfy,zxI (by simp)] at hx;conv=>whnf
  exact ⟨i+1,⟨by omega,hx⟩,by show n-(i+1)<n-i; omega,zzj ⟨rfl,rfl,rfl,zaq hi (by omega),trivial⟩ trivial (fun R hR=>hR)⟩
theorem zqy {α : Type} [DecidableEq α] (h : α) : ∀ (l : List α) (i k : Nat),l[k]?=some h->(∀ j,j<k->l[j]?≠some h)->idxF (fun y=>decide (y=h)) i l=((i+k : Nat) : Int)
 | [],i,k,hk,_=>by simp at hk
 | y::l,i,0,hk,_=>by
  have : y=h:=zz1 hk;simp only [idxF];rw [zxJ (zz8 this)]; rfl
 | y::l,i,k+1,hk,hj=>by
  have h0 : y≠h:=fun e=>hj 0 (by omega) (by rw [e]; rfl)
  simp only [idxF];rw [zxI (by simp [h0]),zqy h l (i+1) k (by simpa using hk) (fun j h1 h2=>hj (j+1) (by omega) (by simpa using h2))]
  congr 1; omega
theorem zvU (a : Addr) (y : Rat) (p : V) (hy : Sz 400000 y) (hp : Sz 400000 p.y) : FnM PP 181 [qV y,ptrV a] (facts [zai (some a) (ptQ p)]) (zaR (.bool (decide (y=p.y)))):=by
 refine zzo zab mixed Tryz.func181 rfl rfl (zxW rfl) (by simp [zzk]) ?_;intro w hw;have hc:=zbp (Q y) (Q p.y) (hy.q.le (by decide)) (hp.q.le (by decide));rw [Q_v,Q_v] at hc;obtain ⟨b1,o1,rfl⟩:=zbT (zaK hw) (by simp [ptC]);conv=>whnf
 refine zzv (off:=3) (zxA ..) rfl (zxW rfl) (by decide) (fun h=>by cases h) ?_;conv=>whnf
 refine cf hc ?_;conv=>whnf
 refine zaa (zyr Value.bool ?_);refine zyV.2 ?_;rw [zyY,zxY];exact zbt
theorem zwQ (s : Sl) (col row side : Nat) (t : Ln Nat) (l : Ln Rat) (X : Rat) (k : Nat) (hs : s.small) (hz : s.sz) (hzx : s.szX) (ht : s.S.xs[col]?=some t) (hX : s.X.xs[col+side]?=some X) (hl : s.L.xs[col+side]?=some l) (hr : row<=1000000000)
  (hk : l.xs[k]?=some (onP s t row X).y) (hk2 : ∀ j,j<k->l.xs[j]?≠some (onP s t row X).y) :
  FnM PP 114 [s.V,.int .i64 col,.int .i64 row,.int .i64 side] (facts s.F) (zaR (.int .i64 k)):=by
 refine zzo zab mixed Tryz.func114 rfl rfl (zxW rfl) s.F_ok ?_;intro w hw;have hs':=hs;obtain ⟨s1,s2,s3,s4,s5,s6⟩:=hs';have h1:=(zyz.1 hX).1;have h2:=(zyz.1 hl).1;have zx : Sz KY X:=(hzx.X X (zyq hX)).le (by decide);have hAL : s.L.A.isSome=true:=zam (hw _ zBW) (by rw [zad zBT]; omega);have hAX : s.X.A.isSome=true:=zam (hw _ zBY) (by rw [zad zas]; omega);have hwc : IntKind.i64.wrap ((col : Int)+(side : Int))=((col+side : Nat) : Int):=by rw [wrap_i64 (by omega) (by omega)]; rfl
 have hon:=c_on s col row t X hs hz ht zx hr;have zo:=zfC hz (l:=t) (row:=row) zx;have hfl:=s4 l (zyq hl);have hcall : ∀ a,FnM PP 180 [.slice l.A l.xs.length l.c,cloV 181 [ptrV a]] (facts (zai (some a) (ptQ (onP s t row X))::[zai l.A (rowV ratQ l.xs)])) (zaR (.int .i64 k)):=fun a=>by
  have h:=zor l.A l.c l.xs 181 [ptrV a] (fun y=>decide (y=(onP s t row X).y)) [zai (some a) (ptQ (onP s t row X))] hfl (by simp [zzk]) (fun y hy=>zvU a y _ ((hzx.L l (zyq hl) y hy).le (by decide)) zo.2);rw [zqy _ l.xs 0 k hk hk2,zyo] at h;exact ⟨h.enters,fun w hw=>h.calls w (fun R hR=>hw R (by simp only [zy1,zBL,or_false] at hR ⊢; exact hR.symm))⟩
 conv=>whnf
 refine zak.qk ?_;conv=>whnf
 refine ⟨⟨by rw [hwc]; omega,by rw [hwc]; omega,hAX⟩,?_⟩;conv=>whnf
 refine zan.nat (A:=s.X.A) ratQ zas zBY (zyr (fun z : Int=>s.X.A.map (fun a=>a.add (z.toNat*3))) hwc) hX ?_;obtain ⟨x',rfl⟩ : ∃ z,z=X:=⟨_,rfl⟩;conv=>whnf
 refine cds hon ?_;conv=>whnf
 refine ⟨⟨by rw [hwc]; omega,by rw [hwc]; omega,hAL⟩,?_⟩;conv=>whnf
 refine zan.nat (A:=s.L.A) Ln.C zBT zBW (zyr (fun z : Int=>s.L.A.map (fun a=>a.add (z.toNat*1))) hwc) hl ?_;obtain ⟨l',rfl⟩ : ∃ z,z=l:=⟨_,rfl⟩;conv=>whnf
 refine zzr (hcall ⟨0,0,none⟩).enters (zaC.c1 (k:=9) (fun z=>[.slice l'.A l'.xs.length l'.c,z]) rfl (zxB _ (zxA ..)) (fun _=>rfl) (fun w hw R hR=>hw R (by rw [zyZ.1 hR]; exact zBZ (zyq hl))) hcall) ?_;conv=>whnf
 exact zaa rfl
def clt (a b : Cel) : Bool:=decide (zis a b)
theorem zlE {a b : Cel} : clt a b=false↔¬(a.c<b.c\/(a.c=b.c/\(a.k<b.k\/(a.k=b.k/\a.r<b.r)))):=zBN
theorem zwr {a b : Cel} : clt a b=true↔(a.c<b.c\/(a.c=b.c/\(a.k<b.k\/(a.k=b.k/\a.r<b.r)))):=decide_eq_true_iff
def zk9 (a b : Cel) : Int:=orL [cmpI a.c b.c,cmpI a.k b.k,cmpI a.r b.r]
theorem zuN (a b : Cel) : Fn PP 183 [a.V,b.V] (.int .i64 (zk9 a b)):=by
 refine zzn zab mixed Tryz.func183 rfl rfl (zxW rfl) ?_;intro w;have hg:=fun A c (_ : 3<=c)=>c_Or A c [cmpI a.c b.c,cmpI a.k b.k,cmpI a.r b.r] (by simp)
 conv=>whnf
 refine zak.qk ?_;conv=>whnf
 refine cd (znm a.c b.c) ?_;conv=>whnf
 refine cd (znm a.k b.k) ?_;conv=>whnf
 refine cd (znm a.r b.r) ?_;conv=>whnf
 refine zA9 (hg none 3 (zxr _)).enters (zzW (x:=.o (.s 20 0 3 3)) (fun z=>[z]) (RdA.box rfl (zxr _)) (zxA ..) (fun _=>rfl) hg) ?_;conv=>whnf
 exact zaa rfl
theorem zeo (a b : Cel) : ltOf zk9 a b=clt a b:=by
 refine decide_eq_decide.2 ?_;unfold zk9 zis;have h : ∀ x y : Int,(cmpI x y=-1/\x<y)\/(cmpI x y=0/\x=y)\/(cmpI x y=1/\y<x):=fun x y=>by unfold cmpI; split <;> (try split) <;> omega
 rcases h a.c b.c with ⟨e1,h1⟩ | ⟨e1,h1⟩ | ⟨e1,h1⟩ <;> rcases h a.k b.k with ⟨e2,h2⟩ | ⟨e2,h2⟩ | ⟨e2,h2⟩ <;> rcases h a.r b.r with ⟨e3,h3⟩ | ⟨e3,h3⟩ | ⟨e3,h3⟩ <;> rw [e1,e2,e3] <;> simp [orL] <;> omega
instance : Inhabited Cel:=⟨⟨0,0,0⟩⟩
def zhu (l : List Cel) : List Cel:=l.mergeSort fun x y=>!(clt y x)
theorem zgv (l : List Cel) : (zhu l).Perm l:=List.mergeSort_perm _ _
theorem zol {l m : List Cel} (hp : l.Perm m) (hm : m.Pairwise zis) : zhu l=m:=by
 have tr : ∀ a b c : Cel,(!(clt b a))=true->(!(clt c b))=true->(!(clt c a))=true:=fun a b c h1 h2=>by
  rw [zzh,zlE] at *; omega
 have tot : ∀ a b : Cel,(!(clt b a)||!(clt a b))=true:=fun a b=>by
  rw [zxF,zzh,zzh,zlE,zlE]; omega
 have hs:=zBH (le:=fun x y : Cel=>!(clt y x)) tr tot l;refine zBQ (le:=fun x y=>(!(clt y x))=true) (fun a b _ _ h1 h2=>?_) hs (hm.imp fun {a b} h=>?_) ((zgv l).trans hp)
 ·obtain ⟨k,c,r⟩:=a;obtain ⟨k',c',r'⟩:=b;rw [zzh,zlE] at h1 h2;simp only at h1 h2
  congr 1 <;> omega
 ·have h : a.c<b.c\/(a.c=b.c/\(a.k<b.k\/(a.k=b.k/\a.r<b.r))):=h;rw [zzh,zlE]; omega
theorem zt5 (x : Cel) : ∀ v∈x.C,v.oneCell'=true:=fun v hv=>by
 simp only [zy1,zBL,or_false] at hv;rcases hv with rfl | rfl | rfl <;> rfl
theorem zqR (d : List Cel) (hl : d.length<=100000000) :
  FnW PP 182 [fnV 183] [] zao d.length (rowV Cel.C d) (rowV Cel.C (zhu d)) (.tuple #[]):=by
 have h:=FnW.sortK (P:=PP) Tryz.sort_Cell 3 (fun w=>(zab zao _ rfl).1.run_isAgg) (fun w=>(zab zao _ rfl).1.run_size) Cel.C (fun x=>rfl) zt5 zk9
  ⟨fun x=>by rw [zeo,zlE]; omega,fun x y z h1 h2=>by rw [zeo,zwr] at *; omega,fun x y z h1 h2=>by rw [zeo,zlE] at *; omega⟩
  (fun x y h1 h2=>by
   rw [zeo,zlE] at h1 h2;obtain ⟨k,c,r⟩:=x;obtain ⟨k',c',r'⟩:=y;simp only at h1 h2
   congr 1 <;> omega) 183 zuN zao d (by omega)
 rw [show (fun x y : Cel=>!(ltOf zk9 y x))=fun x y=>!(clt y x) by funext x y; rw [zeo]] at h;exact h
end Go.Sx
end
