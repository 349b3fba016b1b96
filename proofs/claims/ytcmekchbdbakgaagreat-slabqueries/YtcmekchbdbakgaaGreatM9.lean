/- A part of the proof of a law. No conditions. -/
import Derived.Test.YtcmekchbdbakgaaGreatM8
import Derived.Test.YtcmekchbdbakgaaGreatM6
import Derived.KernelRfl
set_option linter.unusedVariables false
set_option linter.unusedSimpArgs false
set_option linter.unusedSectionVars false
set_option maxRecDepth 10000
set_option maxHeartbeats 8000000
section
namespace Go.Sx
open Go Go.Proofs
abbrev zCg:=@List.filter_cons
abbrev zCf:=@List.filter_append
abbrev zCe:=@List.length_filter_le
theorem zu1 (A : Option Addr) (c : Nat) (L : List Nat) (x : Nat) (hl : L.length<=1000000000) :
  FnM PP 72 [.slice A L.length c,.int .i64 x] (facts [zai A (rowV intC L)]) (zaR (.int .i64 (idxF (fun y=>decide (x=y)) 0 L))):=by
 refine zzo zab mixed Tryz.func72 rfl rfl (zxW rfl) (by simp [zzk]) ?_;intro w hw;obtain ⟨f,hf⟩ : ∃ f : Nat->Bool,f=fun y=>decide (x=y):=⟨_,rfl⟩
 rw [<-hf];obtain ⟨n,hn⟩ : ∃ n,n=L.length:=⟨_,rfl⟩;have hA : 0<n->A.isSome=true:=fun h=>zam (zaK hw) (by rw [zad zdo]; omega)
 rw [<-hn] at hl ⊢;conv=>whnf
 refine zal (ι:=Nat) (fun i=>⟨[(0,.o (.v (.slice A n c))),(1,.o (.v (.int .i64 x))),(7,.o (.v (.int .i64 n))),(8,.o (.v (.int .i64 i)))],[],[zai A (rowV intC L)]⟩)
  (fun i=>i<=n/\idxF f 0 L=idxF f i (L.drop i)) (fun i=>n-i) 0 ⟨zyD _,rfl⟩
  (zzj ⟨rfl,rfl,rfl,rfl,trivial⟩ trivial (fun R hR=>hR)) ?_
 rintro i ⟨hi0,hx⟩;conv=>whnf
 by_cases hi : i<n;rotate_left
 ·refine zac (zz9 (show ¬(i : Int)<(n : Int) by omega)) ?_;rw [show i=n by omega,hn,zAE] at hx;conv=>whnf
  exact zaa (by rw [hx]; rfl)
 refine zag (zz8 (show (i : Int)<(n : Int) by omega)) ?_;obtain ⟨y,hy⟩ : ∃ y,L[i]?=some y:=⟨_,zyy (by omega)⟩;conv=>whnf
 refine ⟨⟨by omega,by omega,hA (by omega)⟩,?_⟩;conv=>whnf
 refine zan.nat (A:=A) intC zdo (zxA ..) rfl hy ?_;obtain ⟨y',rfl⟩ : ∃ z,z=y:=⟨_,rfl⟩;have he : ((x : Int)==(y' : Int))=f y':=by
  rw [hf];refine zyV.2 ?_;simp only [zyY,zxY];omega
 rw [zeL hy] at hx;simp only [idxF] at hx;conv=>whnf
 cases hfy : f y' with
 | true =>
  rw [hfy,zxJ rfl] at hx;refine zag (he.trans hfy) ?_;conv=>whnf
  exact zaa (by rw [hx])
 | false =>
  rw [hfy,zxI (by simp)] at hx;refine zac (he.trans hfy) ?_;conv=>whnf
  exact ⟨i+1,⟨by omega,hx⟩,by show n-(i+1)<n-i; omega,zzj ⟨rfl,rfl,rfl,zaq hi (by omega),trivial⟩ trivial (fun R hR=>hR)⟩
theorem zsp (a : Addr) (p : Pc) (q : V) (hp : p.sm KP) (hq : SzV 400000 q) : FnM PP 61 [pV (PQ q),ptrV a] (facts [zai (some a) (pcC p)]) (zaR (.bool (!zbW p.a p.b q))):=by
 refine zzo zab mixed Tryz.func61 rfl rfl (zxW rfl) (by simp [zzk]) ?_;intro w hw;have hc:=c_On ⟨PQ p.a,PQ p.b⟩ (PQ q) ⟨hp.1.q.le (by decide),hp.2.q.le (by decide)⟩ (hq.q.le (by decide));rw [PQ_v,PQ_v,PQ_v] at hc;obtain ⟨b1,o1,rfl⟩:=zbT (zaK hw) (by simp [pcC,sgC,ptC]);conv=>whnf
 refine zzv (off:=0) (zxA ..) (zbJ _ _) (zxW rfl) (by decide) (fun h=>by cases h) ?_;conv=>whnf
 refine cf hc ?_;conv=>whnf
 exact zaa rfl
def covB (L : List V) (p : Pc) : Bool:=!(L.any fun q=>!zbW p.a p.b q)
def zcQ (s : Sl) (x : Cel) : List Nat:=if x.k=3 then [] else ((pcsL s.lo s.hi s.sg.xs).filter (covB (crnL s x))).map (·.i)
theorem zpF (s : Sl) (x : Cel) (hs : s.small) (hz : s.sz) (hzx : s.szX) (hk : x.k<4) (hx : (x.r : Int)<cntK s x.k x.c) (hlx : s.lo.x<=s.hi.x) (hly : s.lo.y<=s.hi.y) (hl8 : s.sg.xs.length<=400) (hpl : (pcsL s.lo s.hi s.sg.xs).length<=400) (hps : zfK (pcsL s.lo s.hi s.sg.xs)) (hzc : ∀ v∈crnL s x,SzV 400000 v) (hcl : (crnL s x).length<=4) :
   FnM PP 17 [s.V,x.V] (facts s.F) (zcl zbw 1 (zcQ s x).length (rowV intC (zcQ s x)) (.int .i64 0)):=by
 refine zzl zab mixed Tryz.func17 rfl rfl (zxW rfl) s.F_ok (post:=fun l st=>zrd zbw 1 (zcQ s x).length (rowV intC (zcQ s x)) (.int .i64 0) l st\/(zcQ s x=[]/\l=[.o (.v nilV),.o (.v (.int .i64 0))])) (fun w l st E w' hp hm=>hp.elim (fun hp=>zeU hp hm) (fun h=>?_)) ?_
 · obtain ⟨h1,rfl⟩:=h;rw [h1];exact ⟨_,rfl,zyQ _ _ _ _,hm.ext.below⟩
 intro w hw;have his:=ziL s x hs ⟨hk,(zcm hs hk hx).1⟩;rw [zz8 hx] at his;have hC:=zmo s x hs hz hzx hk hx;by_cases h3 : x.k=3
 · have hcv : zcQ s x=[]:=zxJ h3;rw [hcv];obtain ⟨k,c,r⟩:=x;simp only at h3;subst h3;refine zy7 zab mixed ?_;conv=>whnf
   refine cfs his ?_;conv=>whnf
   exact .inr ⟨rfl,rfl⟩
 obtain ⟨L,hL⟩ : ∃ L,L=crnL s x:=⟨_,rfl⟩;have hcv : zcQ s x=((pcsL s.lo s.hi s.sg.xs).filter (covB L)).map (·.i):=by rw [hL]; exact zxI h3
 rw [hcv];rw [<-hL] at hC hzc hcl;obtain ⟨ps,hps'⟩ : ∃ ps,ps=pcsL s.lo s.hi s.sg.xs:=⟨_,rfl⟩;have hclip:=znr s.lo s.hi s.sg.A s.sg.c s.sg.xs hz.lo hz.hi hlx hly hz.sg hl8;rw [<-hps'] at hclip hpl hps ⊢;obtain ⟨k,c,r⟩:=x;have hk' : k=0\/k=1\/k=2:=by have : k<4:=hk; have : ¬k=3:=h3; omega
 refine zy9 zab mixed ?_;conv=>whnf
 refine zy9 zab mixed ?_;conv=>whnf
 refine cfs his ?_;conv=>whnf
 refine zy9 zab mixed ?_;conv=>whnf
 refine zac (show ((k : Int)==3)=false by rw [zBO]; omega) ?_;conv=>whnf
 refine zAk ?_;rcases hk' with rfl | rfl | rfl
 all_goals
   refine zB9 zab mixed [] (9+4294967296) (zrm 0 [1,2,3,4,5,6,7,8] 5 [] [[1,2],[5],[6]]) (K:=fun st=>SLe ⟨w,[],Tryz.f17.ntmps⟩ st ⟨[(2,.o (.p 2 0)),(6,.o (.w 24))],[(2,slM s),(24,.own zaw 6 L.length (rowV ptQ L))],s.F⟩) (by kernel_rfl) ?_ ?_;rotate_left
   · intro st hst;refine zy8 ?_ hst;refine WPS.freezeO 24 rfl (fun B cp hcp=>?_);refine zy7 zab mixed ?_;conv=>whnf
     refine zzs 29 hclip.enters (zzq hclip rfl (fun R hR=>by rw [zyZ.1 hR]; exact zxB _ (zBV _ (zxB _ (zxB _ (zxB _ (zxA ..))))))) rfl rfl ?_;conv=>whnf
     obtain ⟨np,hnp⟩ : ∃ np,np=ps.length:=⟨_,rfl⟩;refine zal (ι:=Nat) (fun i=>⟨[(6,.o (.v (.slice B L.length cp))),(7,.o (.w 44)),(29,.o (.w 29)),(30,.o (.v (.int .i64 np))),(31,.o (.v (.int .i64 i)))],
         [(29,.own zcO 13 np (rowV pcC ps)),(44,.own zbw 1 (((ps.take i).filter (covB L)).map (·.i)).length (rowV intC (((ps.take i).filter (covB L)).map (·.i))))],zai B (rowV ptQ L)::s.F⟩)
       (fun i=>i<=np) (fun i=>np-i) 0 (zyD _)
       ((SLe.nil 7 44 zbw 1 rfl rfl).trans (zzj ⟨rfl,rfl,rfl,by rw [hnp]; rfl,rfl,trivial⟩ ⟨⟨_,rfl,by rw [hnp]; exact .refl _⟩,mrf rfl,trivial⟩ (fun R hR=>hR))) ?_
     intro i hi0;have hi0 : i<=np:=hi0;have hZl : (((ps.take i).filter (covB L)).map (·.i)).length<=i:=by
       rw [zyA]; exact zxs (zCe _ _) (by rw [zyI]; omega)
     conv=>whnf
     by_cases hi : i<np;rotate_left
     · refine zac (zz9 (show ¬(i : Int)<(np : Int) by omega)) ?_;conv=>whnf
       refine .inl ⟨44,rfl,?_⟩;rw [zyJ (by omega)]; rfl
     refine zag (zz8 (show (i : Int)<(np : Int) by omega)) ?_;obtain ⟨p,hp⟩ : ∃ p,ps[i]?=some p:=⟨_,zyy (by omega)⟩;have hpm:=zyq hp;have htk : ((ps.take (i+1)).filter (covB L)).map (·.i)=((ps.take i).filter (covB L)).map (·.i)++(if covB L p then [p.i] else []):=by
       rw [zaD hp,zCf,zzL]
       congr 1
       rw [zCg];split <;> rfl
     have hcall : ∀ a,FnM PP 21 [.slice B L.length cp,cloV 61 [ptrV a]] (facts (zai (some a) (pcC p)::[zai B (rowV ptQ L)])) (zaR (.bool (L.any fun q=>!zbW p.a p.b q))):=fun a=>by
       have h:=zhZ B cp (L.map PQ) 61 [ptrV a] (fun q=>!zbW p.a p.b q.v) [zai (some a) (pcC p)] (by rw [zyA]; omega) (by simp [zzk]) (fun q hq=>by
         obtain ⟨v,hv,rfl⟩:=zx1.1 hq;have:=zsp a p v (hps p hpm).1 (hzc v hv);rw [PQ_v]; exact this)
       rw [zyA,zdm,List.any_map] at h;have e : (L.any ((fun q : Pt=>!zbW p.a p.b q.v)∘PQ))=L.any fun q=>!zbW p.a p.b q:=by
         congr 1; funext q; simp
       rw [e] at h;exact ⟨h.enters,fun w hw=>h.calls w (fun R hR=>hw R (by simp only [zy1,zBL,or_false] at hR ⊢; exact hR.symm))⟩
     have hcb : (!(L.any fun q=>!zbW p.a p.b q))=covB L p:=rfl;conv=>whnf
     refine ⟨by show (0 : Int)<=(i : Int)/\(i : Int)<np; omega,?_⟩;conv=>whnf
     refine zzT pcC zew (k:=i) (by show (i : Int).toNat*13=i*13; rw [zzS]) (by omega) (by decide) (fun h=>by cases h) ?_;intro p' hp2;obtain rfl : p'=p:=by rw [hp] at hp2; exact (zz1 hp2).symm
     conv=>whnf
     refine zzr (hcall ⟨0,0,none⟩).enters (zaC.c1 (k:=9) (fun z=>[.slice B L.length cp,z]) rfl (zxB _ (zxA ..)) (fun _=>rfl) (fun w hw R hR=>hw R (by rw [zyZ.1 hR]; exact zxA ..)) hcall) ?_;rw [<-Bool.not_not (L.any fun q=>!zbW p'.a p'.b q),hcb]
     cases hcv2 : covB L p' with
     | true =>
       rw [hcv2,zxJ rfl] at htk;conv=>whnf
       refine ⟨by show (((ps.take i).filter (covB L)).map (·.i)).length+1<=9223372036854775807/\((((ps.take i).filter (covB L)).map (·.i)).length+1)*8<=140737488355328; omega,?_⟩;conv=>whnf
       refine ⟨i+1,by show i+1<=np; omega,by show np-(i+1)<np-i; omega,zzi (fun k=>bif Nat.beq k 44 then 43 else k) ⟨rfl,rfl,rfl,rfl,zaq hi (by omega),trivial⟩ ⟨mrf rfl,⟨_,rfl,?_⟩,trivial⟩ rfl (fun R hR=>hR)⟩;rw [htk,<-int1,zz2]; exact .refl _
     | false =>
       rw [hcv2,zxI (by decide),zyP] at htk;conv=>whnf
       refine ⟨i+1,by show i+1<=np; omega,by show np-(i+1)<np-i; omega,zzj ⟨rfl,rfl,rfl,rfl,zaq hi (by omega),trivial⟩ ⟨mrf rfl,⟨_,rfl,?_⟩,trivial⟩ (fun R hR=>hR)⟩;rw [htk]; exact .refl _
   conv=>whnf
   repeat' (first
     | exact True.intro
     | exact zzj ⟨rfl,rfl,trivial⟩ ⟨mrf rfl,mrf rfl,trivial⟩ (fun R hR=>zBV _ hR)
     | (refine zBI zbI.enters (zzq zbI rfl (by simp)) zhg (fun ⟨a1,a2,a3,a4⟩ hex=>?_); conv=>whnf)
     | (refine zA8 hC.enters (zzq hC rfl (fun R hR=>zjx hR)) ?_; conv=>whnf)
     | (refine And.intro ?_ ?_ <;> (conv=>whnf))
     | (refine ⟨⟨zAP _,zA6.2 hk⟩,?_⟩; conv=>whnf))
abbrev celC (k c r : Int) : List Value:=[.int .i64 k,.int .i64 c,.int .i64 r]
def cntI (s : Sl) (k c : Int) : Int:=if 0<=c/\0<=k/\k<4 then cntK s k.toNat c.toNat else 0
def isI (s : Sl) (k c r : Int) : Bool:=decide (0<=r/\r<cntI s k c)
theorem zsW {p q : Prop} [Decidable p] [Decidable q] (h : p↔q) : decide p=decide q:=decide_eq_decide.2 h
theorem zsn {s : Sl} {k c : Int} (hL : s.L.xs.length=s.X.xs.length) (hS : s.S.xs.length+1=s.X.xs.length) (h : ¬(0<=c/\c<s.X.xs.length/\0<=k/\k<4)) : cntI s k c=0:=by
 unfold cntI;split
 ·rename_i hc;have h1 : ¬c.toNat<s.X.xs.length:=fun h'=>h ⟨hc.1,by omega,hc.2⟩
  have e1 : ∀ d,zb2 s d c.toNat=0:=fun d=>zxI (fun k=>h1 k.2)
  have e2 : ∀ d,za6 s d c.toNat=0:=fun d=>zxI (fun k=>h1 (by omega))
  match k.toNat with
  | 0=>exact e1 0
  | 1=>exact e1 1
  | 2=>exact e2 2
  | n+3=>exact e2 1
 ·rfl
theorem zgV (s : Sl) (k c : Nat) (hk : k<4) : cntI s k c=cntK s k c:=by
 rw [cntI,zxJ ⟨by omega,by omega,by omega⟩]; rfl
theorem zqh (s : Sl) (k col : Int) (hL : s.L.xs.length=s.X.xs.length) (hS : s.S.xs.length+1=s.X.xs.length) (hn : s.X.xs.length<=1000000) (hl1 : ∀ l∈s.L.xs,l.xs.length<=1000000) (hs1 : ∀ l∈s.S.xs,l.xs.length<=1000000) :
  FnM PP 55 [s.V,.int .i64 k,.int .i64 col] (facts s.F) (zaR (.int .i64 (cntI s k col))):=by
 by_cases hg : 0<=col/\col<s.X.xs.length/\0<=k/\k<4
 ·obtain ⟨k',rfl⟩:=zBr hg.2.2.1;obtain ⟨c',rfl⟩:=zBr hg.1;have:=zwi s k' c' (by omega) (by omega) hL hS hn hl1 hs1;rw [<-zgV s k' c' (by omega)] at this;exact this
 rw [zsn hL hS hg];refine zzo zab mixed Tryz.func55 rfl rfl (zxW rfl) s.F_ok ?_;intro w hw;conv=>whnf
 by_cases hc0 : col<0
 ·refine zag (zz8 hc0) ?_;conv=>whnf
  exact zaa rfl
 refine zac (zz9 hc0) ?_;conv=>whnf
 refine zak.qk ?_;conv=>whnf
 by_cases hcX : col<s.X.xs.length
 ·refine zag (zz8 hcX) ?_;conv=>whnf
  have k0 : (k==0)=false:=zBO.2 (by omega);have k1 : (k==1)=false:=zBO.2 (by omega);have k2 : (k==2)=false:=zBO.2 (by omega);have k3 : (k==3)=false:=zBO.2 (by omega);have hw1 : IntKind.i64.wrap (col+1)=col+1:=wrap_i64 (by omega) (by omega);by_cases hla : col+1<s.X.xs.length
  ·refine zag (zz8 (by rw [hw1]; omega)) ?_;conv=>whnf
   refine zag (zz8 (by omega)) ?_;conv=>whnf
   refine zac k0 ?_;conv=>whnf
   refine zac k1 ?_;conv=>whnf
   refine zac k2 ?_;conv=>whnf
   refine zac k3 ?_;conv=>whnf
   exact zaa rfl
  ·refine zac (zz9 (by rw [hw1]; omega)) ?_;conv=>whnf
   refine zac k0 ?_;conv=>whnf
   refine zac k1 ?_;conv=>whnf
   refine zac k2 ?_;conv=>whnf
   refine zac k3 ?_;conv=>whnf
   exact zaa rfl
 refine zac (zz9 hcX) ?_;conv=>whnf
 by_cases hla : IntKind.i64.wrap (col+1)<s.X.xs.length
 ·refine zag (zz8 hla) ?_;conv=>whnf
  refine zac (zz9 (by omega)) ?_;conv=>whnf
  by_cases k0 : k=0
  ·subst k0; conv=>whnf
   exact zaa rfl
  refine zac (zBO.2 k0) ?_;conv=>whnf
  by_cases k1 : k=1
  ·subst k1; conv=>whnf
   exact zaa rfl
  refine zac (zBO.2 k1) ?_;conv=>whnf
  by_cases k2 : k=2
  ·subst k2; conv=>whnf
   exact zaa rfl
  refine zac (zBO.2 k2) ?_;conv=>whnf
  by_cases k3 : k=3
  ·subst k3; conv=>whnf
   exact zaa rfl
  refine zac (zBO.2 k3) ?_;conv=>whnf
  exact zaa rfl
 ·refine zac (zz9 hla) ?_;conv=>whnf
  by_cases k0 : k=0
  ·subst k0; conv=>whnf
   exact zaa rfl
  refine zac (zBO.2 k0) ?_;conv=>whnf
  by_cases k1 : k=1
  ·subst k1; conv=>whnf
   exact zaa rfl
  refine zac (zBO.2 k1) ?_;conv=>whnf
  by_cases k2 : k=2
  ·subst k2; conv=>whnf
   exact zaa rfl
  refine zac (zBO.2 k2) ?_;conv=>whnf
  by_cases k3 : k=3
  ·subst k3; conv=>whnf
   exact zaa rfl
  refine zac (zBO.2 k3) ?_;conv=>whnf
  exact zaa rfl
theorem zeZ (s : Sl) (k c r : Int) (hL : s.L.xs.length=s.X.xs.length) (hS : s.S.xs.length+1=s.X.xs.length) (hn : s.X.xs.length<=1000000) (hl1 : ∀ l∈s.L.xs,l.xs.length<=1000000) (hs1 : ∀ l∈s.S.xs,l.xs.length<=1000000) :
  FnM PP 33 [s.V,.agg ⟨celC k c r⟩] (facts s.F) (zaR (.bool (isI s k c r))):=by
 refine zzo zab mixed Tryz.func33 rfl rfl (zxW rfl) s.F_ok ?_;intro w hw;have hrow:=zqh s k c hL hS hn hl1 hs1;conv=>whnf
 refine zak.qk ?_;conv=>whnf
 by_cases h0 : 0<=r;rotate_left
 ·refine zac (zz9 h0) ?_;rw [isI,zz9 (fun h=>h0 h.1)];conv=>whnf
  exact zaa rfl
 refine zag (zz8 h0) ?_;conv=>whnf
 refine cds hrow ?_;conv=>whnf
 rw [isI,zsW (show (0<=r/\r<cntI s k c)↔r<cntI s k c from ⟨fun h=>h.2,fun h=>⟨h0,h⟩⟩)];exact zaa rfl
theorem zpd (a : Addr) (d : Nat) (s : Sl) (col : Nat) (hs : s.small) (hc : 1000000<col) (hd : d<=2) :
  FnM PP 108 [s.V,.int .i64 col,ptrV a] (facts (zai (some a) [.int .i64 d]::s.F)) (zaR (.int .i64 (za6 s d col))):=by
 refine zzo zab mixed Tryz.func108 rfl rfl (zxW rfl) (fun R hR=>(zy1.1 hR).elim (fun h=>h▸zzk _ _) (s.F_ok R)) ?_;intro w hw;obtain ⟨s1,s2,s3,s4,s5,s6⟩:=hs;rw [za6,zxI (fun h=>by omega)];conv=>whnf
 refine zac (zz9 (show ¬(col : Int)<(s.S.xs.length : Int) by omega)) ?_;conv=>whnf
 exact zaa rfl
theorem zrk (a : Addr) (d : Nat) (s : Sl) (col : Nat) (hs : s.small) (hc : 1000000<col) (hd : d<=2) :
  FnM PP 106 [s.V,.int .i64 col,ptrV a] (facts (zai (some a) [.int .i64 d]::s.F)) (zaR (.int .i64 (zb2 s d col))):=by
 refine zzo zab mixed Tryz.func106 rfl rfl (zxW rfl) (fun R hR=>(zy1.1 hR).elim (fun h=>h▸zzk _ _) (s.F_ok R)) ?_;intro w hw;obtain ⟨s1,s2,s3,s4,s5,s6⟩:=hs;rw [zb2,zxI (fun h=>by omega)];conv=>whnf
 refine zac (zz9 (show ¬(col : Int)<(s.L.xs.length : Int) by omega)) ?_;conv=>whnf
 exact zaa rfl
theorem c_kL (a : Addr) (d : Nat) (s : Sl) (col : Nat) (hs : s.small) (hd : d<=2) : FnM PP 106 [s.V,.int .i64 col,ptrV a] (facts (zai (some a) [.int .i64 d]::s.F)) (zaR (.int .i64 (zb2 s d col))):=by
 by_cases h : col<=1000000
 ·exact zhW a d s col hs h hd
 ·exact zrk a d s col hs (by omega) hd
theorem c_kS (a : Addr) (d : Nat) (s : Sl) (col : Nat) (hs : s.small) (hd : d<=2) : FnM PP 108 [s.V,.int .i64 col,ptrV a] (facts (zai (some a) [.int .i64 d]::s.F)) (zaR (.int .i64 (za6 s d col))):=by
 by_cases h : col<=1000000
 ·exact zft a d s col hs h hd
 ·exact zpd a d s col hs (by omega) hd
theorem zoO {s : Sl} {k c r : Int} (h : ¬(0<=k/\k<4/\0<=c/\0<=r)) : isI s k c r=false:=by
 refine zz9 fun g=>?_
 rw [cntI] at g;split at g
 ·exact h ⟨by omega,by omega,by omega,g.1⟩
 ·omega
theorem zdg {s : Sl} {k c r : Nat} (hk : k<4) : isI s k c r=decide ((r : Int)<cntK s k c):=by
 rw [isI,zgV s k c hk];exact zsW ⟨fun h=>h.2,fun h=>⟨by omega,h⟩⟩
theorem zfb (s : Sl) (k c r : Int) (hs : s.small) : FnM PP 32 [s.V,.agg ⟨celC k c r⟩] (facts s.F) (zaR (.bool (isI s k c r))):=by
 refine zzo zab mixed Tryz.func32 rfl rfl (zxW rfl) s.F_ok ?_;intro w hw;conv=>whnf
 refine zBI zbI.enters (zzq zbI rfl (by simp)) (fun i R hR=>?_) (fun ⟨a1,a2,a3,a4⟩ hex=>?_)
 ·simp only [zy1,zBL,or_false] at hR;rcases hR with rfl | rfl | rfl | rfl <;> exact zzk _ _
 conv=>whnf
 refine zak.qk ?_;conv=>whnf
 by_cases h0 : 0<=k/\k<4/\0<=c/\0<=r;rotate_left
 ·rw [zoO h0];by_cases h1 : 0<=k;rotate_left
  ·refine zac (zz9 (by omega)) ?_;conv=>whnf
   exact zaa rfl
  refine zag (zz8 (by omega)) ?_;conv=>whnf
  by_cases h2 : k<4;rotate_left
  ·refine zac (zz9 (by omega)) ?_;conv=>whnf
   exact zaa rfl
  refine zag (zz8 (by omega)) ?_;conv=>whnf
  by_cases h3 : 0<=c;rotate_left
  ·refine zac (zz9 (by omega)) ?_;conv=>whnf
   exact zaa rfl
  refine zag (zz8 (by omega)) ?_;conv=>whnf
  refine zac (zz9 (by omega)) ?_;conv=>whnf
  exact zaa rfl
 refine zag (zz8 (by omega)) ?_;conv=>whnf
 refine zag (zz8 (by omega)) ?_;conv=>whnf
 refine zag (zz8 (by omega)) ?_;conv=>whnf
 refine zag (zz8 (by omega)) ?_;obtain ⟨k,rfl⟩:=zBr h0.1;obtain ⟨c,rfl⟩:=zBr h0.2.2.1;obtain ⟨r,rfl⟩:=zBr h0.2.2.2;have hk : k<4:=by omega
 rw [zdg hk];have hk : k=0\/k=1\/k=2\/k=3:=by omega
 rcases hk with rfl | rfl | rfl | rfl
 ·conv=>whnf
  refine ⟨⟨show (0 : Int)<=(0 : Int) by decide,show (0 : Int)<4 by decide⟩,?_⟩;conv=>whnf
  refine cds (c_kL a1 0 s c hs (by omega)) ?_ rfl (fun S hS=>?_);rotate_left
  ·rcases zy1.1 hS with rfl | hS
   ·exact zyT _ (zxB _ (zxB _ (zxB _ (zxA ..))))
   ·exact zBV _ hS
  conv=>whnf
  exact zaa rfl
 ·conv=>whnf
  refine ⟨⟨show (0 : Int)<=(1 : Int) by decide,show (1 : Int)<4 by decide⟩,?_⟩;conv=>whnf
  refine cds (c_kL a2 1 s c hs (by omega)) ?_ rfl (fun S hS=>?_);rotate_left
  ·rcases zy1.1 hS with rfl | hS
   ·exact zyT _ (zxB _ (zxB _ (zxA ..)))
   ·exact zBV _ hS
  conv=>whnf
  exact zaa rfl
 ·conv=>whnf
  refine ⟨⟨show (0 : Int)<=(2 : Int) by decide,show (2 : Int)<4 by decide⟩,?_⟩;conv=>whnf
  refine cds (c_kS a3 2 s c hs (by omega)) ?_ rfl (fun S hS=>?_);rotate_left
  ·rcases zy1.1 hS with rfl | hS
   ·exact zyT _ (zxB _ (zxA ..))
   ·exact zBV _ hS
  conv=>whnf
  exact zaa rfl
 ·conv=>whnf
  refine ⟨⟨show (0 : Int)<=(3 : Int) by decide,show (3 : Int)<4 by decide⟩,?_⟩;conv=>whnf
  refine cds (c_kS a4 1 s c hs (by omega)) ?_ rfl (fun S hS=>?_);rotate_left
  ·rcases zy1.1 hS with rfl | hS
   ·exact zyT _ (zxA ..)
   ·exact zBV _ hS
  conv=>whnf
  exact zaa rfl
theorem zpJ {s : Sl} {t : Ln Nat} {x : Rat} : (zaJ s t x).getD (t.xs.length+1) 0=s.hi.y:=by
 rw [zaJ,zzO,zB3,zyg (by simp)]; simp
theorem zq8 {s : Sl} {t : Ln Nat} {x : Rat} {r k : Nat} (h : t.xs[r]?=some k) : (zaJ s t x).getD (r+1) 0=hgtS s x k:=by
 have hl:=(zyz.1 h).1;rw [zaJ,zzO,zB3,zyd (by rw [zyA]; exact hl),zx4,h]; rfl
theorem zdp (s : Sl) (col row : Nat) (t : Ln Nat) (x : Rat) (hs : s.small) (hz : s.sz) (ht : s.S.xs[col]?=some t) (hx : Sz KY x) (hr : row<=t.xs.length+1) :
  FnM PP 78 [s.V,.int .i64 col,.int .i64 row,qV x] (facts s.F) (zaR (qV ((zaJ s t x).getD row 0))):=by
 refine zzo zab mixed Tryz.func78 rfl rfl (zxW rfl) s.F_ok ?_;intro w hw;have hcl:=(zyz.1 ht).1;have htm:=zyq ht;obtain ⟨s1,s2,s3,s4,s5,s6⟩:=hs;have htl:=s5 t htm;have hAS : s.S.A.isSome=true:=zam (hw _ zBX) (by rw [zad zBT]; omega);conv=>whnf
 by_cases hr0 : row=0
 ·subst hr0;conv=>whnf
  exact zaa rfl
 refine zac (zBO.2 (by omega)) ?_;conv=>whnf
 refine ⟨⟨by omega,by omega,hAS⟩,?_⟩;conv=>whnf
 refine zzR (A:=s.S.A) (xs:=s.S.xs) (j:=(col : Int)) Ln.C zBT zBX rfl (by rw [zzS]; omega) (by decide) (fun _=>rfl) ?_;intro t' ht';obtain rfl:=zbB ht' ht;conv=>whnf
 by_cases hrl : t'.xs.length<row
 ·refine zag (zz8 (show (row : Int)>(t'.xs.length : Int) by omega)) ?_;obtain rfl : row=t'.xs.length+1:=by omega
  rw [zpJ];conv=>whnf
  exact zaa rfl
 refine zac (zz9 (show ¬(row : Int)>(t'.xs.length : Int) by omega)) ?_;conv=>whnf
 refine ⟨⟨by omega,by omega,hAS⟩,?_⟩;conv=>whnf
 refine zzR (A:=s.S.A) (xs:=s.S.xs) (j:=(col : Int)) Ln.C zBT zBX rfl (by rw [zzS]; omega) (by decide) (fun _=>rfl) ?_;intro t2 ht2;obtain rfl:=zbB ht2 ht;obtain ⟨r,rfl⟩ : ∃ r,row=r+1:=⟨row-1,by omega⟩;obtain ⟨k,hk⟩ : ∃ k,t2.xs[r]?=some k:=⟨_,zyy (by omega)⟩;have hAt : t2.A.isSome=true:=zam (hw _ (Sl.F_s htm)) (by rw [zad zfx]; omega);have hw1 : IntKind.i64.wrap (((r+1 : Nat) : Int)-1)=(r : Int):=by rw [wrap_i64 (by omega) (by omega)]; omega
 rw [zq8 hk];conv=>whnf
 refine ⟨⟨by rw [hw1]; omega,by rw [hw1]; omega,hAt⟩,?_⟩;conv=>whnf
 refine zan.nat (A:=t2.A) intC zfx (Sl.F_s htm) (zyr (fun z : Int=>t2.A.map (fun a=>a.add (z.toNat*1))) hw1) hk ?_;obtain ⟨k',rfl⟩ : ∃ z,z=k:=⟨_,rfl⟩;conv=>whnf
 cases he : s.sg.xs[k']? with
 | none =>
  have hkl : s.sg.xs.length<=k':=List.getElem?_eq_none_iff.1 he;refine zag (zz8 (show (k' : Int)>=(s.sg.xs.length : Int) by omega)) ?_;rw [hgtS,he];conv=>whnf
  exact zaa q0.symm
 | some e =>
  have hkl:=(zyz.1 he).1;have hAg : s.sg.A.isSome=true:=zam (hw _ Sl.F_sg) (by rw [zad zaT]; omega);have heo:=hz.sg e (zyq he);have hh:=zjZ ⟨PQ e.1,PQ e.2⟩ (Q x) ⟨heo.1.1.q.le (by decide),heo.1.2.q.le (by decide)⟩ (hx.q.le (by decide));rw [zib heo.2] at hh;rw [show hgtS s x k'=(hgtE e.1 e.2 x).1 by rw [hgtS,he]];refine zac (zz9 (show ¬(k' : Int)>=(s.sg.xs.length : Int) by omega)) ?_;conv=>whnf
  refine zy4 [(11,10,[9])] (by kernel_rfl) ?_;conv=>whnf
  refine ⟨⟨by omega,by omega,hAg⟩,?_⟩;conv=>whnf
  refine zan.nat (A:=s.sg.A) sgq zaT Sl.F_sg rfl he ?_;obtain ⟨e',rfl⟩ : ∃ z,z=e:=⟨_,rfl⟩;conv=>whnf
  refine cd hh ?_;conv=>whnf
  exact zaa rfl
theorem zhL (x : Rat) : (x+x)/2=x:=by grind
theorem ziF (s : Sl) (x : Cel) (hs : s.small) (hz : s.sz) (hzx : s.szX) (hk : x.k<4) (hx : (x.r : Int)<cntK s x.k x.c) : FnM PP 74 [s.V,x.V] (facts s.F) (zaR (pV (PQ (cenP s x)))):=by
 refine zzo zab mixed Tryz.func74 rfl rfl (zxW rfl) s.F_ok ?_;intro w hw;obtain ⟨k,c,r⟩:=x;replace hx : (r : Int)<cntK s k c:=hx;replace hk : k<4:=hk;have hcs:=zcm hs hk hx;have hs':=hs;obtain ⟨s1,s2,s3,s4,s5,s6⟩:=hs';have hk' : k=0\/k=1\/k=2\/k=3:=by omega
 have hw1 : ∀ {n : Nat},n<=1000000000->IntKind.i64.wrap ((n : Int)+1)=((n+1 : Nat) : Int):=fun h=>by rw [wrap_i64 (by omega) (by omega)]; rfl
 rcases hk' with rfl | rfl | rfl | rfl
 ·obtain ⟨l,x,h1,h2,h3⟩:=zaZ hx;obtain ⟨y,hy⟩ : ∃ y,l.xs[r]?=some y:=⟨_,zyy (by omega)⟩;have h4:=(zyz.1 h1).1;have h5:=(zyz.1 h2).1;have hlm:=zyq h1;have hAX : s.X.A.isSome=true:=zam (hw _ zBY) (by rw [zad zas]; omega);have jX : (0 : Int)<=(c : Int)/\(c : Int)<(s.X.xs.length : Int):=by omega
  have jL : (0 : Int)<=(c : Int)/\(c : Int)<(s.L.xs.length : Int):=by omega
  have jl : (0 : Int)<=(r : Int)/\(r : Int)<(l.xs.length : Int):=by omega
  have jl1 : r+1<l.xs.length->0<=IntKind.i64.wrap ((r : Int)+1)/\IntKind.i64.wrap ((r : Int)+1)<(l.xs.length : Int):=fun h=>by rw [hw1 (by omega)]; omega
  have hAL : s.L.A.isSome=true:=zam (hw _ zBW) (by rw [zad zBT]; omega);have hAl : l.A.isSome=true:=zam (hw _ (zBZ hlm)) (by rw [zad zas]; omega);conv=>whnf
  refine ⟨⟨jX.1,jX.2,hAX⟩,?_⟩;conv=>whnf
  refine zan.nat (A:=s.X.A) ratQ zas zBY rfl h2 ?_;obtain ⟨x',rfl⟩ : ∃ z,z=x:=⟨_,rfl⟩;conv=>whnf
  refine zak.qk ?_;conv=>whnf
  refine ⟨⟨jL.1,jL.2,hAL⟩,?_⟩;conv=>whnf
  refine zzR (A:=s.L.A) (xs:=s.L.xs) (j:=(c : Int)) Ln.C zBT zBW rfl (by rw [zzS]; omega) (by decide) (fun _=>rfl) ?_;intro l' hl';obtain rfl:=zbB hl' h1;conv=>whnf
  refine ⟨⟨jl.1,jl.2,hAl⟩,?_⟩;conv=>whnf
  refine zan.nat (A:=l'.A) ratQ zas (zBZ hlm) rfl hy ?_;obtain ⟨y',rfl⟩ : ∃ z,z=y:=⟨_,rfl⟩;conv=>whnf
  rw [show cenP s ⟨0,c,r⟩=⟨x',y'⟩ by simp only [cenP]; rw [zah h2,zah (show (s.L.xs.map (·.xs))[c]?=some l'.xs by rw [zx4,h1]; rfl),zah hy]];exact zaa rfl
 ·obtain ⟨l,x,h1,h2,h3⟩:=zaZ hx;obtain ⟨y,hy⟩ : ∃ y,l.xs[r]?=some y:=⟨_,zyy (by omega)⟩;obtain ⟨z,hz1⟩ : ∃ y,l.xs[r+1]?=some y:=⟨_,zyy (by omega)⟩;have h4:=(zyz.1 h1).1;have h5:=(zyz.1 h2).1;have hlm:=zyq h1;have zy:=hzx.L l hlm y (zyq hy);have zz:=hzx.L l hlm z (zyq hz1);have hll:=s4 l hlm;have hAX : s.X.A.isSome=true:=zam (hw _ zBY) (by rw [zad zas]; omega);have jX : (0 : Int)<=(c : Int)/\(c : Int)<(s.X.xs.length : Int):=by omega
  have jL : (0 : Int)<=(c : Int)/\(c : Int)<(s.L.xs.length : Int):=by omega
  have jl : (0 : Int)<=(r : Int)/\(r : Int)<(l.xs.length : Int):=by omega
  have jl1 : r+1<l.xs.length->0<=IntKind.i64.wrap ((r : Int)+1)/\IntKind.i64.wrap ((r : Int)+1)<(l.xs.length : Int):=fun h=>by rw [hw1 (by omega)]; omega
  have hAL : s.L.A.isSome=true:=zam (hw _ zBW) (by rw [zad zBT]; omega);have hAl : l.A.isSome=true:=zam (hw _ (zBZ hlm)) (by rw [zad zas]; omega);conv=>whnf
  refine ⟨⟨jX.1,jX.2,hAX⟩,?_⟩;conv=>whnf
  refine zan.nat (A:=s.X.A) ratQ zas zBY rfl h2 ?_;obtain ⟨x',rfl⟩ : ∃ z,z=x:=⟨_,rfl⟩;conv=>whnf
  refine zak.qk ?_;conv=>whnf
  refine ⟨⟨jL.1,jL.2,hAL⟩,?_⟩;conv=>whnf
  refine zzR (A:=s.L.A) (xs:=s.L.xs) (j:=(c : Int)) Ln.C zBT zBW rfl (by rw [zzS]; omega) (by decide) (fun _=>rfl) ?_;intro l' hl';obtain rfl:=zbB hl' h1;conv=>whnf
  refine ⟨⟨jl.1,jl.2,hAl⟩,?_⟩;conv=>whnf
  refine zan.nat (A:=l'.A) ratQ zas (zBZ hlm) rfl hy ?_;obtain ⟨y',rfl⟩ : ∃ z,z=y:=⟨_,rfl⟩;conv=>whnf
  refine ⟨⟨jL.1,jL.2,hAL⟩,?_⟩;conv=>whnf
  refine zzR (A:=s.L.A) (xs:=s.L.xs) (j:=(c : Int)) Ln.C zBT zBW rfl (by rw [zzS]; omega) (by decide) (fun _=>rfl) ?_;intro l2 hl2;obtain rfl:=zbB hl2 h1;conv=>whnf
  refine ⟨⟨(jl1 (by omega)).1,(jl1 (by omega)).2,hAl⟩,?_⟩;conv=>whnf
  refine zan.nat (A:=l2.A) ratQ zas (zBZ hlm) (zyr (fun z : Int=>l2.A.map (fun a=>a.add (z.toNat*3))) (hw1 (n:=r) (by omega))) hz1 ?_;obtain ⟨z',rfl⟩ : ∃ q,q=z:=⟨_,rfl⟩;conv=>whnf
  refine cd (zf3 y' z' (zy.le (by decide)) (zz.le (by decide))) ?_;conv=>whnf
  rw [show cenP s ⟨1,c,r⟩=⟨x',(y'+z')/2⟩ by simp only [cenP,midV]; rw [zah h2,zah (show (s.L.xs.map (·.xs))[c]?=some l2.xs by rw [zx4,h1]; rfl),zah hy,zah hz1,zhL]];exact zaa rfl
 all_goals
  obtain ⟨t,x,y,h1,h2,h3,h4,h5⟩:=zaG hx;have htl:=s5 t (zyq h1);have zx:=hzx.X x (zyq h2);have zy:=hzx.X y (zyq h3);have zm : Sz KY ((x+y)/2):=((zx.add zy).div (show Sz 2 (2 : Rat) from ⟨by decide,by decide⟩)).le (by decide);have h6:=(zyz.1 h2).1;have h7:=(zyz.1 h3).1;have hAX : s.X.A.isSome=true:=zam (hw _ zBY) (by rw [zad zas]; omega);have jX : (0 : Int)<=(c : Int)/\(c : Int)<(s.X.xs.length : Int):=by omega
  have jX1 : 0<=IntKind.i64.wrap ((c : Int)+1)/\IntKind.i64.wrap ((c : Int)+1)<(s.X.xs.length : Int):=by rw [hw1 (by omega)]; omega
  have hon:=zdp s c r t ((x+y)/2) hs hz h1 zm (by omega);conv=>whnf
  refine ⟨⟨jX.1,jX.2,hAX⟩,?_⟩;conv=>whnf
  refine zan.nat (A:=s.X.A) ratQ zas zBY rfl h2 ?_;obtain ⟨x',rfl⟩ : ∃ z,z=x:=⟨_,rfl⟩;conv=>whnf
  refine zak.qk ?_;conv=>whnf
  refine ⟨⟨jX1.1,jX1.2,hAX⟩,?_⟩;conv=>whnf
  refine zan.nat (A:=s.X.A) ratQ zas zBY (zyr (fun z : Int=>s.X.A.map (fun a=>a.add (z.toNat*3))) (hw1 (n:=c) (by omega))) h3 ?_;obtain ⟨y',rfl⟩ : ∃ z,z=y:=⟨_,rfl⟩;conv=>whnf
  refine cd (zf3 x' y' (zx.le (by decide)) (zy.le (by decide))) ?_;conv=>whnf
  refine cfs hon ?_;conv=>whnf
 ·rw [show cenP s ⟨2,c,r⟩=onP s t r ((x'+y')/2) by simp only [cenP]; rw [zah h2,zah h3,zah h1]];exact zaa rfl
 ·have hon':=zdp s c (r+1) t ((x'+y')/2) hs hz h1 zm (by omega);rw [<-hw1 (n:=r) (by omega)] at hon';refine zak.qk ?_;conv=>whnf
  refine cds hon' ?_;conv=>whnf
  refine cd (zf3 _ _ ((zfC (l:=t) (row:=r) hz zm).2.le (by decide)) ((zfC (l:=t) (row:=r+1) hz zm).2.le (by decide))) ?_;conv=>whnf
  rw [show cenP s ⟨3,c,r⟩=⟨(x'+y')/2,((zaJ s t ((x'+y')/2)).getD r 0+(zaJ s t ((x'+y')/2)).getD (r+1) 0)/2⟩ by simp only [cenP,midV,onP]; rw [zah h2,zah h3,zah h1,zhL]];exact zaa rfl
def endI (s : Sl) (c r sd : Nat) : Nat:=(s.L.xs.getD (c+sd) ⟨none,0,[]⟩).xs.idxOf (onP s (s.S.xs.getD c ⟨none,0,[]⟩) r (s.X.xs.getD (c+sd) 0)).y
def zdh (c lo hi : Nat) : List Cel:=(List.range (hi+1-lo)).map fun j=>⟨0,c,lo+j⟩
def zc8 (c lo hi : Nat) : List Cel:=(List.range (hi-lo)).map fun j=>⟨1,c,lo+j⟩
def zdJ (s : Sl) (c r sd : Nat) : List Cel:=zdh (c+sd) (endI s c r sd) (endI s c (r+1) sd)++zc8 (c+sd) (endI s c r sd) (endI s c (r+1) sd)
def zbf (s : Sl) (x : Cel) : List Cel:=match x.k with
 | 0=>[]
 | 1=>[⟨0,x.c,x.r⟩,⟨0,x.c,x.r+1⟩]
 | 2=>[⟨0,x.c,endI s x.c x.r 0⟩,⟨0,x.c+1,endI s x.c x.r 1⟩]
 | _=>zdJ s x.c x.r 0++([⟨2,x.c,x.r⟩,⟨2,x.c,x.r+1⟩]++zdJ s x.c x.r 1)
def arrG (c lo hi : Nat) : Nat->List Cel
 | 0=>[]
 | j+1=>arrG c lo hi j++(⟨0,c,lo+j⟩::if lo+j<hi then [⟨1,c,lo+j⟩] else [])
theorem zlf (c lo hi : Nat) : ∀ j,lo+j<=hi+1->(arrG c lo hi j).Perm ((List.range j).map (fun i=>(⟨0,c,lo+i⟩ : Cel))++(List.range (min j (hi-lo))).map fun i=>⟨1,c,lo+i⟩)
 | 0,_=>by simp [arrG]
 | j+1,hj=>by
  have ih:=zlf c lo hi j (by omega);rw [arrG,zAX,zzL];by_cases h : lo+j<hi
  ·rw [zxJ h,show min (j+1) (hi-lo)=min j (hi-lo)+1 by omega,zAX,zzL,show min j (hi-lo)=j by omega];rw [show min j (hi-lo)=j by omega] at ih;refine (ih.append_right _).trans ?_;simp only [zxT,zyt,zyF];refine List.Perm.append_left _ ?_;refine (List.perm_append_comm_assoc _ [_] [_]).trans ?_;exact List.Perm.refl _
  ·rw [zxI h,show min (j+1) (hi-lo)=min j (hi-lo) by omega];refine (ih.append_right _).trans ?_;simp only [zxT,zyt,zyF];refine List.Perm.append_left _ ?_;exact List.perm_append_comm
theorem ziM (c lo hi : Nat) : (zdh c lo hi++zc8 c lo hi).Pairwise zis:=by
 refine zB5.2 ⟨?_,?_,fun a ha b hb=>?_⟩
 ·rw [zdh,zB4]; exact List.pairwise_lt_range.imp (fun h=>.inr ⟨rfl,.inr ⟨rfl,Nat.add_lt_add_left h lo⟩⟩)
 ·rw [zc8,zB4]; exact List.pairwise_lt_range.imp (fun h=>.inr ⟨rfl,.inr ⟨rfl,Nat.add_lt_add_left h lo⟩⟩)
 ·obtain ⟨i,_,rfl⟩:=zx1.1 ha;obtain ⟨j,_,rfl⟩:=zx1.1 hb;exact .inr ⟨rfl,.inl Nat.zero_lt_one⟩
theorem zfv {c lo hi : Nat} {x : Cel} (h : x∈zdh c lo hi++zc8 c lo hi) : x.c=c/\((x.k=0/\lo<=x.r/\x.r<=hi)\/(x.k=1/\lo<=x.r/\x.r<hi)):=by
 rcases zyK.1 h with h | h
 ·obtain ⟨i,hi,rfl⟩:=zx1.1 h;have:=zy0.1 hi;exact ⟨rfl,.inl ⟨rfl,by simp only; omega,by simp only; omega⟩⟩
 ·obtain ⟨i,hi,rfl⟩:=zx1.1 h;have:=zy0.1 hi;exact ⟨rfl,.inr ⟨rfl,by simp only; omega,by simp only; omega⟩⟩
theorem zoG (s : Sl) (c r : Nat) : (zbf s ⟨3,c,r⟩).Pairwise zis:=by
 show (zdJ s c r 0++(([⟨2,c,r⟩,⟨2,c,r+1⟩] : List Cel)++zdJ s c r 1)).Pairwise zis;refine zB5.2 ⟨ziM ..,zB5.2 ⟨?_,ziM ..,fun a ha b hb=>?_⟩,fun a ha b hb=>?_⟩
 ·refine zBG.2 ⟨fun b hb=>?_,zB8 ..⟩;rw [zyZ.1 hb]; exact .inr ⟨rfl,.inr ⟨rfl,by simp only; omega⟩⟩
 ·have:=(zfv hb).1;simp only [zy1,zBL,or_false] at ha;rcases ha with rfl | rfl <;> exact .inl (by simp only; omega)
 ·obtain ⟨h1,h2⟩:=zfv ha;rcases zyK.1 hb with hb | hb
  ·simp only [zy1,zBL,or_false] at hb;rcases hb with rfl | rfl <;> exact .inr ⟨by simp only; omega,.inl (by simp only; omega)⟩
  ·exact .inl (by have:=(zfv hb).1; omega)
def arrS (s : Sl) (c r sd : Nat) : List Cel:=arrG (c+sd) (endI s c r sd) (endI s c (r+1) sd) (endI s c (r+1) sd+1-endI s c r sd)
theorem zkD {s : Sl} {c r sd : Nat} (h : endI s c r sd<=endI s c (r+1) sd) : (arrS s c r sd).Perm (zdJ s c r sd):=by
 have:=zlf (c+sd) (endI s c r sd) (endI s c (r+1) sd) (endI s c (r+1) sd+1-endI s c r sd) (by omega);rw [show min (endI s c (r+1) sd+1-endI s c r sd) (endI s c (r+1) sd-endI s c r sd)=endI s c (r+1) sd-endI s c r sd by omega] at this;exact this
def arrL (s : Sl) (c r : Nat) : Nat->List Cel
 | 0=>[⟨2,c,r⟩,⟨2,c,r+1⟩]
 | j+1=>arrL s c r j++arrS s c r j
theorem zrU {s : Sl} {c r : Nat} (h0 : endI s c r 0<=endI s c (r+1) 0) (h1 : endI s c r 1<=endI s c (r+1) 1) : zhu (arrL s c r 2)=zbf s ⟨3,c,r⟩:=by
 refine zol ?_ (zoG s c r);show ((([⟨2,c,r⟩,⟨2,c,r+1⟩] : List Cel)++arrS s c r 0)++arrS s c r 1).Perm (zdJ s c r 0++(([⟨2,c,r⟩,⟨2,c,r+1⟩] : List Cel)++zdJ s c r 1));rw [<-zyF];exact (List.perm_append_comm.trans ((zkD h0).append_right _)).append (zkD h1)
structure zdi (s : Sl) (c r sd : Nat) : Prop where
 t : ∃ t,s.S.xs[c]?=some t
 X : ∃ X,s.X.xs[c+sd]?=some X
 l : ∃ l,s.L.xs[c+sd]?=some l
 at' : ∀ t X l,s.S.xs[c]?=some t->s.X.xs[c+sd]?=some X->s.L.xs[c+sd]?=some l->l.xs[endI s c r sd]?=some (onP s t r X).y/\∀ j,j<endI s c r sd->l.xs[j]?≠some (onP s t r X).y
theorem zmD {s : Sl} {c r sd : Nat} (h : zdi s c r sd) (hs : s.small) (hz : s.sz) (hzx : s.szX) (hr : r<=1000000000) : FnM PP 114 [s.V,.int .i64 c,.int .i64 r,.int .i64 sd] (facts s.F) (zaR (.int .i64 (endI s c r sd))):=by
 obtain ⟨t,ht⟩:=h.t;obtain ⟨X,hX⟩:=h.X;obtain ⟨l,hl⟩:=h.l;obtain ⟨h1,h2⟩:=h.at' t X l ht hX hl;exact zwQ s c r sd t l X _ hs hz hzx ht hX hl hr h1 h2
theorem zdi.lt {s : Sl} {c r sd : Nat} (h : zdi s c r sd) (hs : s.small) : endI s c r sd<1000000:=by
 obtain ⟨t,ht⟩:=h.t;obtain ⟨X,hX⟩:=h.X;obtain ⟨l,hl⟩:=h.l;have:=(zyz.1 (h.at' t X l ht hX hl).1).1;have:=hs.2.2.2.1 l (zyq hl);omega
theorem zxd (s : Sl) (c r : Nat) : FnM PP 109 [s.V,Cel.V ⟨0,c,r⟩] (facts s.F) (zbD zao 3 0 (rowV Cel.C [])):=by
 refine zzm zab mixed Tryz.func109 rfl rfl (zxW rfl) s.F_ok (post:=fun l st=>l=[.o (.v nilV)]) (fun w l st E' w' hp hm=>?_) ?_
 ·subst hp; exact ⟨_,rfl,zyQ _ _ _ _,hm.ext.below⟩
 intro w hw;conv=>whnf
theorem zwR (s : Sl) (c r : Nat) (hr : r<=1000000) : FnM PP 111 [s.V,Cel.V ⟨1,c,r⟩] (facts s.F) (zbD zao 3 2 (rowV Cel.C [⟨0,c,r⟩,⟨0,c,r+1⟩])):=by
 refine zzm zab mixed Tryz.func111 rfl rfl (zxW rfl) s.F_ok (fun w l st E w' hp hm=>zc0 hp hm) ?_;intro w hw;conv=>whnf
 refine ⟨16,2,[],rfl,.inr ⟨_,rfl,?_⟩,rfl,by decide,by decide,rfl⟩;show some [Value.int .i64 0,.int .i64 c,.int .i64 r,.int .i64 0,.int .i64 c,.int .i64 (IntKind.i64.wrap ((r : Int)+1))]=some _;rw [wrap_i64 (by omega) (by omega)]; rfl
theorem zwZ (s : Sl) (c r : Nat) (hs : s.small) (hz : s.sz) (hzx : s.szX) (h0 : zdi s c r 0) (h1 : zdi s c r 1) (hc : c<=1000000) (hr : r<=10000000) :
  FnM PP 113 [s.V,Cel.V ⟨2,c,r⟩] (facts s.F) (zbD zao 3 2 (rowV Cel.C [⟨0,c,endI s c r 0⟩,⟨0,c+1,endI s c r 1⟩])):=by
 refine zzm zab mixed Tryz.func113 rfl rfl (zxW rfl) s.F_ok (fun w l st E w' hp hm=>zc0 hp hm) ?_;intro w hw;conv=>whnf
 refine zak.qk ?_;conv=>whnf
 refine cds (zmD h0 hs hz hzx (by omega)) ?_;conv=>whnf
 refine cds (zmD h1 hs hz hzx (by omega)) ?_;conv=>whnf
 refine ⟨24,2,[],rfl,.inr ⟨_,rfl,?_⟩,rfl,by decide,by decide,rfl⟩;show some [Value.int .i64 0,.int .i64 c,.int .i64 (endI s c r 0),.int .i64 0,.int .i64 (IntKind.i64.wrap ((c : Int)+1)),.int .i64 (endI s c r 1)]=some _;rw [wrap_i64 (by omega) (by omega)]; rfl
theorem cel1 (L : List Cel) (x : Cel) : app (rowV Cel.C L) x.C=rowV Cel.C (L++[x]):=by
 rw [za4,zaE]; simp [rowV]
theorem zom (s : Sl) (c r : Nat) (hs : s.small) (hz : s.sz) (hzx : s.szX) (h00 : zdi s c r 0) (h01 : zdi s c r 1) (h10 : zdi s c (r+1) 0) (h11 : zdi s c (r+1) 1) (hle0 : endI s c r 0<=endI s c (r+1) 0) (hle1 : endI s c r 1<=endI s c (r+1) 1) (hc : c<=1000000) (hr : r<=10000000) :
  FnM PP 116 [s.V,Cel.V ⟨3,c,r⟩] (facts s.F) (zbD zao 3 (zbf s ⟨3,c,r⟩).length (rowV Cel.C (zbf s ⟨3,c,r⟩))):=by
 refine zzp zab mixed Tryz.func116 rfl rfl (zxW rfl) s.F_ok ?_;intro w hw;have hE : ∀ sd,sd<2->zdi s c r sd/\zdi s c (r+1) sd/\endI s c r sd<=endI s c (r+1) sd:=fun sd h=>by
  match sd,h with
  | 0,_=>exact ⟨h00,h10,hle0⟩
  | 1,_=>exact ⟨h01,h11,hle1⟩
 have hwr : IntKind.i64.wrap ((r : Int)+1)=((r+1 : Nat) : Int):=by rw [wrap_i64 (by omega) (by omega)]; rfl
 have hlen : ∀ c lo hi j,(arrG c lo hi j).length<=2*j:=fun c lo hi j=>by
  induction j with
  | zero=>exact zxr _
  | succ j ih =>
   rw [arrG,zz2,zxR];have : (if lo+j<hi then [(⟨1,c,lo+j⟩ : Cel)] else []).length<=1:=by split <;> simp
   omega
 have hlS : ∀ sd,sd<2->(arrS s c r sd).length<=2000004:=fun sd h=>by
  have:=hlen (c+sd) (endI s c r sd) (endI s c (r+1) sd) (endI s c (r+1) sd+1-endI s c r sd);have:=(hE sd h).2.1.lt hs;unfold arrS; omega
 have hlL : ∀ sd,sd<=2->(arrL s c r sd).length<=2+sd*2000004:=fun sd h=>by
  match sd,h with
  | 0,_=>exact zxr _
  | 1,_=>rw [arrL,arrL,zz2]; have:=hlS 0 (by omega); simp only [zxR,zAK]; omega
  | 2,_=>rw [arrL,arrL,arrL,zz2,zz2]; have:=hlS 0 (by omega); have:=hlS 1 (by omega); simp only [zxR,zAK]; omega
 conv=>whnf
 refine zal (ι:=Nat) (fun sd=>⟨[(2,.o (.p 2 0)),(3,.o (.p 3 0)),(5,.o (.w 4)),(22,.o (.v (.int .i64 sd)))],
   [(2,slM s),(3,.box ((Cel.C ⟨3,c,r⟩).map AV.v) zao),(4,.own zao 3 (arrL s c r sd).length (rowV Cel.C (arrL s c r sd)))],s.F⟩)
  (fun sd=>sd<=2) (fun sd=>2-sd) 0 (zyD _)
  ((SLe.own 5 21 4 zao 3 2 (xs:=rowV Cel.C [⟨2,c,r⟩,⟨2,c,r+1⟩]) rfl rfl (by
   show some [Value.int .i64 2,.int .i64 c,.int .i64 r,.int .i64 2,.int .i64 c,.int .i64 (IntKind.i64.wrap ((r : Int)+1))]=some _;rw [hwr]; rfl) rfl (by decide) rfl rfl).trans (zzj ⟨rfl,rfl,rfl,rfl,trivial⟩ ⟨mrf rfl,mrf rfl,mrf rfl,trivial⟩ (fun R hR=>hR))) ?_
 intro sd hsd;have hsd : sd<=2:=hsd;have hla:=hlL sd hsd;conv=>whnf
 by_cases hsd2 : sd<2;rotate_left
 ·refine zac (zz9 (show ¬(sd : Int)<(2 : Int) by omega)) ?_;obtain rfl : sd=2:=by omega
  conv=>whnf
  have hso:=zqR (arrL s c r 2) (by omega);have hl2 : 0<(arrL s c r 2).length:=by
   show 0<((([⟨2,c,r⟩,⟨2,c,r+1⟩] : List Cel)++arrS s c r 0)++arrS s c r 1).length;simp
  have hsl : (zhu (arrL s c r 2)).length=(arrL s c r 2).length:=(zgv _).length_eq;refine zae.w (k:=4) rfl hl2 hso.enters (fun E w' hm=>⟨[fnV 183],[],rfl,hso,(fun R hR=>by cases hR),(fun R hR=>by cases hR)⟩) (by rw [zad zB0,zad zB0,hsl]) ?_;rw [<-hsl,zrU hle0 hle1];conv=>whnf
  exact ⟨4,rfl,rfl⟩
 refine zag (zz8 (show (sd : Int)<(2 : Int) by omega)) ?_;obtain ⟨k1,k2,k3⟩:=hE sd hsd2;have q1:=zmD k1 hs hz hzx (by omega);have q2:=zmD k2 hs hz hzx (by omega);rw [<-hwr] at q2;have b2:=k2.lt hs;obtain ⟨lo,hlo⟩ : ∃ lo,lo=endI s c r sd:=⟨_,rfl⟩;obtain ⟨hi,hhi⟩ : ∃ hi,hi=endI s c (r+1) sd:=⟨_,rfl⟩;rw [<-hlo] at q1 k3;rw [<-hhi] at q2 k3 b2;have hwc : IntKind.i64.wrap ((c : Int)+(sd : Int))=((c+sd : Nat) : Int):=by rw [wrap_i64 (by omega) (by omega)]; rfl
 obtain ⟨Z,hZ⟩ : ∃ Z,Z=arrL s c r sd:=⟨_,rfl⟩;rw [<-hZ] at hla ⊢;conv=>whnf
 refine zak.qk ?_;conv=>whnf
 refine cds q1 ?_;conv=>whnf
 refine cds q2 ?_;conv=>whnf
 refine zal (ι:=Nat) (fun j=>⟨[(2,.o (.p 2 0)),(3,.o (.p 3 0)),(5,.o (.w 4)),(6,.o (.v (.int .i64 sd))),(8,.o (.v (.int .i64 hi))),(9,.o (.v (.int .i64 ((lo+j : Nat) : Int)))),(22,.o (.v (.int .i64 sd)))],
   [(2,slM s),(3,.box ((Cel.C ⟨3,c,r⟩).map AV.v) zao),(4,.own zao 3 (Z++arrG (c+sd) lo hi j).length (rowV Cel.C (Z++arrG (c+sd) lo hi j)))],s.F⟩)
  (fun j=>lo+j<=hi+1) (fun j=>hi+1-(lo+j)) 0 (by show lo+0<=hi+1; omega)
  (zzj ⟨rfl,rfl,rfl,rfl,rfl,rfl,rfl,trivial⟩ ⟨mrf rfl,mrf rfl,⟨_,rfl,by rw [show arrG (c+sd) lo hi 0=[] from rfl,zyP]; exact .refl _⟩,trivial⟩ (fun R hR=>hR)) ?_
 intro j hj;have hj : lo+j<=hi+1:=hj;have hgl:=hlen (c+sd) lo hi j;conv=>whnf
 by_cases hjh : lo+j<=hi;rotate_left
 ·refine zac (zz9 (show ¬((lo+j : Nat) : Int)<=(hi : Int) by omega)) ?_;conv=>whnf
  have he : Z++arrG (c+sd) lo hi j=arrL s c r (sd+1):=by
   rw [arrL,<-hZ,arrS,<-hlo,<-hhi,show j=hi+1-lo by omega]
  refine ⟨sd+1,by show sd+1<=2; omega,by show 2-(sd+1)<2-sd; omega,zzj ⟨rfl,rfl,rfl,zaq (n:=2) (by omega) (by omega),trivial⟩ ⟨mrf rfl,mrf rfl,⟨_,rfl,by rw [he]; exact .refl _⟩,trivial⟩ (fun R hR=>hR)⟩
 refine zag (zz8 (show ((lo+j : Nat) : Int)<=(hi : Int) by omega)) ?_;obtain ⟨G,hG⟩ : ∃ G,G=Z++arrG (c+sd) lo hi j:=⟨_,rfl⟩;have hGl : G.length<=10000000:=by rw [hG,zz2]; omega
 have hG1 : Z++arrG (c+sd) lo hi (j+1)=(G++[⟨0,c+sd,lo+j⟩])++(if lo+j<hi then [⟨1,c+sd,lo+j⟩] else []):=by
  rw [arrG,hG]; simp
 rw [<-hG];have ea : ∀ k : Nat,app (rowV Cel.C G) [Value.int .i64 k,.int .i64 (IntKind.i64.wrap ((c : Int)+(sd : Int))),.int .i64 ((lo+j : Nat) : Int)]=rowV Cel.C (G++[⟨k,c+sd,lo+j⟩]):=fun k=>by
  rw [hwc]; exact cel1 G ⟨k,c+sd,lo+j⟩
 conv=>whnf
 refine ⟨by show G.length+1<=9223372036854775807/\(G.length+1)*24<=140737488355328; omega,?_⟩;conv=>whnf
 by_cases hw2 : lo+j<hi
 ·rw [zxJ hw2] at hG1;refine zag (zz8 (show ((lo+j : Nat) : Int)<(hi : Int) by omega)) ?_;conv=>whnf
  refine ⟨by show (G.length+1)+1<=9223372036854775807/\((G.length+1)+1)*24<=140737488355328; omega,?_⟩;conv=>whnf
  refine ⟨j+1,by show lo+(j+1)<=hi+1; omega,by show hi+1-(lo+(j+1))<hi+1-(lo+j); omega,zzi (fun k=>bif Nat.beq k 4 then 66 else k) ⟨rfl,rfl,rfl,rfl,rfl,?_,rfl,trivial⟩ ⟨mrf rfl,mrf rfl,⟨_,rfl,?_⟩,trivial⟩ rfl (fun R hR=>hR)⟩
  ·show some (SV.o (.v (.int .i64 (IntKind.i64.wrap (((lo+j : Nat) : Int)+1)))))=_;rw [wrap_i64 (by omega) (by omega)]; rfl
  ·have e2 : app (app (rowV Cel.C G) [Value.int .i64 (0 : Nat),.int .i64 (IntKind.i64.wrap ((c : Int)+(sd : Int))),.int .i64 ((lo+j : Nat) : Int)]) [Value.int .i64 (1 : Nat),.int .i64 (IntKind.i64.wrap ((c : Int)+(sd : Int))),.int .i64 ((lo+j : Nat) : Int)]=rowV Cel.C (Z++arrG (c+sd) lo hi (j+1)):=by
    rw [ea 0,hG1,hwc]; exact cel1 _ ⟨1,c+sd,lo+j⟩
   rw [<-e2,show (Z++arrG (c+sd) lo hi (j+1)).length=(G.length+1)+1 by rw [hG1]; simp];exact .refl _
 ·rw [zxI hw2,zyP] at hG1;refine zac (zz9 (show ¬((lo+j : Nat) : Int)<(hi : Int) by omega)) ?_;conv=>whnf
  refine ⟨j+1,by show lo+(j+1)<=hi+1; omega,by show hi+1-(lo+(j+1))<hi+1-(lo+j); omega,zzi (fun k=>bif Nat.beq k 4 then 54 else k) ⟨rfl,rfl,rfl,rfl,rfl,?_,rfl,trivial⟩ ⟨mrf rfl,mrf rfl,⟨_,rfl,?_⟩,trivial⟩ rfl (fun R hR=>hR)⟩
  ·show some (SV.o (.v (.int .i64 (IntKind.i64.wrap (((lo+j : Nat) : Int)+1)))))=_;rw [wrap_i64 (by omega) (by omega)]; rfl
  ·rw [hG1,<-ea 0,show (G++[(⟨0,c+sd,lo+j⟩ : Cel)]).length=G.length+1 by simp];exact .refl _
abbrev zCh:=@Bool.true_and
structure FcOk (s : Sl) (x : Cel) : Prop where
 low : 2<=x.k->zdi s x.c x.r 0/\zdi s x.c x.r 1
 high : x.k=3->(zdi s x.c (x.r+1) 0/\zdi s x.c (x.r+1) 1)/\endI s x.c x.r 0<=endI s x.c (x.r+1) 0/\endI s x.c x.r 1<=endI s x.c (x.r+1) 1
abbrev fcF : Nat->FuncId
 | 0=>109
 | 1=>111
 | 2=>113
 | _=>116
theorem zpa (s : Sl) (x : Cel) (hs : s.small) (hz : s.sz) (hzx : s.szX) (hk : x.k<4) (hx : (x.r : Int)<cntK s x.k x.c) (hf : FcOk s x) : FnM PP (fcF x.k) [s.V,x.V] (facts s.F) (zbD zao 3 (zbf s x).length (rowV Cel.C (zbf s x))):=by
 obtain ⟨k,c,r⟩:=x;have hk' : k=0\/k=1\/k=2\/k=3:=by have : k<4:=hk; omega
 have hsm:=zcm hs hk hx;have hc : c<=1000000:=hsm.1;have hr : r<=10000000:=hsm.2;rcases hk' with rfl | rfl | rfl | rfl
 ·exact zxd s c r
 ·obtain ⟨l,x,h1,h2,h3⟩:=zaZ (show (r : Int)<zb2 s 1 c from hx);exact zwR s c r (by have:=hs.2.2.2.1 l (zyq h1); omega)
 ·obtain ⟨h0,h1⟩:=hf.low (zxr _);exact zwZ s c r hs hz hzx h0 h1 hc hr
 ·obtain ⟨h0,h1⟩:=hf.low (show 2<=3 by decide);obtain ⟨⟨h2,h3⟩,h4,h5⟩:=hf.high rfl;exact zom s c r hs hz hzx h0 h1 h2 h3 h4 h5 hc hr
theorem ziB {s : Sl} {x : Cel} (hs : s.small) (hk : x.k<4) (hf : FcOk s x) : (zbf s x).length<=1000000000:=by
 obtain ⟨k,c,r⟩:=x;have hk' : k=0\/k=1\/k=2\/k=3:=by have : k<4:=hk; omega
 rcases hk' with rfl | rfl | rfl | rfl
 ·exact zyD _
 ·exact zxW rfl
 ·exact zxW rfl
 ·obtain ⟨⟨h2,h3⟩,h4,h5⟩:=hf.high rfl;have:=h2.lt hs;have:=h3.lt hs;show (zdJ s c r 0++(([⟨2,c,r⟩,⟨2,c,r+1⟩] : List Cel)++zdJ s c r 1)).length<=_;have hl : ∀ c lo hi,(zdh c lo hi++zc8 c lo hi).length<=2*hi+1:=fun c lo hi=>by
   rw [zz2,zdh,zc8,zyA,zyA,zB2,zB2]; omega
  have e0:=hl (c+0) (endI s c r 0) (endI s c (r+1) 0);have e1:=hl (c+1) (endI s c r 1) (endI s c (r+1) 1);simp only at *;unfold zdJ;rw [zz2 (bs:=_++_),zz2 (bs:=zdh (c+1) _ _++zc8 (c+1) _ _)];simp only [zxR,zAK];omega
theorem zqg (s : Sl) (x : Cel) (hs : s.small) (hz : s.sz) (hzx : s.szX) (hk : x.k<4) (hx : (x.r : Int)<cntK s x.k x.c) (hf : FcOk s x) :
   FnM PP 24 [s.V,x.V] (facts s.F) (zcl zao 3 (zbf s x).length (rowV Cel.C (zbf s x)) (.int .i64 0)):=by
 refine zzl zab mixed Tryz.func24 rfl rfl (zxW rfl) s.F_ok (fun w l st E w' hp hm=>zeU hp hm) ?_;intro w hw;have hC:=zpa s x hs hz hzx hk hx hf;have his:=ziL s x hs ⟨hk,(zcm hs hk hx).1⟩;rw [zz8 hx] at his;obtain ⟨L,hL⟩ : ∃ L,L=zbf s x:=⟨_,rfl⟩;rw [<-hL] at hC ⊢;obtain ⟨k,c,r⟩:=x;have hk' : k=0\/k=1\/k=2\/k=3:=by have : k<4:=hk; omega
 refine zy9 zab mixed ?_;conv=>whnf
 refine zy9 zab mixed ?_;conv=>whnf
 refine cfs his ?_;conv=>whnf
 refine zAk ?_;rcases hk' with rfl | rfl | rfl | rfl
 all_goals
   refine zB9 zab mixed [] (10+4294967296) (zrm 0 [1,2,3,4,5,6,7,8,9] 5 [] [[1,2],[5],[6]]) (K:=fun st=>SLe ⟨w,[],Tryz.f24.ntmps⟩ st ⟨[(4,.o (.w 17)),(5,.o (.v (.int .i64 0)))],[(17,.own zao 3 L.length (rowV Cel.C L))],[]⟩) (by kernel_rfl) ?_ ?_;rotate_left
   · intro st hst;refine zy8 ?_ hst;refine zy7 zab mixed ?_;conv=>whnf
     exact ⟨17,rfl,rfl⟩
   conv=>whnf
   repeat' (first
     | exact True.intro
     | exact zzj ⟨rfl,rfl,trivial⟩ ⟨mrf rfl,trivial⟩ (fun R hR=>by cases hR)
     | (refine zBI zbI.enters (zzq zbI rfl (by simp)) zhg (fun ⟨a1,a2,a3,a4⟩ hex=>?_); conv=>whnf)
     | (refine zA8 hC.enters (zzq hC rfl (fun R hR=>zjx hR)) ?_; conv=>whnf)
     | (refine And.intro ?_ ?_ <;> (conv=>whnf))
     | (refine ⟨⟨zAP _,zA6.2 hk⟩,?_⟩; conv=>whnf))
def zfo (s : Sl) (x : Cel) : List Cel:=(zcW s (x.c-1) (x.c+1-(x.c-1))).filter fun d=>decide (x.k<d.k)&&decide (x∈zbf s d)
theorem zsc (s : Sl) (x : Cel) (hs : s.small) (hz : s.sz) (hzx : s.szX) (hk : x.k<4) (hx : (x.r : Int)<cntK s x.k x.c) (hc1 : x.c+1<=1000000) (hf : ∀ d∈zcW s (x.c-1) (x.c+1-(x.c-1)),FcOk s d) (hn : (zcW s (x.c-1) (x.c+1-(x.c-1))).length<=1000000000) :
  FnM PP 26 [s.V,x.V] (facts s.F) (zcl zao 3 (zfo s x).length (rowV Cel.C (zfo s x)) (.int .i64 0)):=by
 refine zzl zab mixed Tryz.func26 rfl rfl (zxW rfl) s.F_ok (post:=fun l st=>zrd zao 3 (zfo s x).length (rowV Cel.C (zfo s x)) (.int .i64 0) l st\/(zfo s x=[]/\l=[.o (.v nilV),.o (.v (.int .i64 0))])) (fun w l st E w' hp hm=>hp.elim (fun hp=>zeU hp hm) (fun h=>?_)) ?_
 ·obtain ⟨h1,rfl⟩:=h;rw [h1];exact ⟨_,rfl,zyQ _ _ _ _,hm.ext.below⟩
 intro w hw;have his:=ziL s x hs ⟨hk,(zcm hs hk hx).1⟩;rw [zz8 hx] at his;obtain ⟨cells,hcells⟩ : ∃ cs,cs=zcW s (x.c-1) (x.c+1-(x.c-1)):=⟨_,rfl⟩;have hw1 : IntKind.i64.wrap ((x.c : Int)-1)=(x.c : Int)-1:=wrap_i64 (by omega) (by omega);have hw2 : IntKind.i64.wrap ((x.c : Int)+1)=((x.c+1 : Nat) : Int):=by rw [wrap_i64 (by omega) (by omega)]; rfl
 have ha:=zvg s (IntKind.i64.wrap ((x.c : Int)-1)) (IntKind.i64.wrap ((x.c : Int)+1));refine zy9 zab mixed ?_;conv=>whnf
 refine zy9 zab mixed ?_;conv=>whnf
 refine cfs his ?_;conv=>whnf
 refine zy9 zab mixed ?_;conv=>whnf
 refine zy9 zab mixed ?_;conv=>whnf
 refine zBI zbI.enters (zzq zbI rfl (by simp)) zhg (fun ⟨a1,a2,a3,a4⟩ hex=>?_);conv=>whnf
 refine zAk ?_;refine zy9 zab mixed ?_;conv=>whnf
 refine zae.f3 ha.enters (zzq ha rfl (by simp)) (fun b1 b2 b3=>?_);conv=>whnf
 refine zAl ?_;obtain ⟨re0,hre0⟩ : ∃ re0,re0=zai (some b1) [Value.int .i64 (IntKind.i64.wrap ((x.c : Int)-1))]::zai (some b2) [Value.int .i64 (IntKind.i64.wrap ((x.c : Int)+1))]::zai (some b3) s.C::(zrT a1 a2 a3 a4++s.F):=⟨_,rfl⟩;have hsq:=zs0 b1 b2 b3 s (IntKind.i64.wrap ((x.c : Int)-1)) (x.c-1) (x.c+1) hs hc1 (by omega) (by rw [hw1]; split <;> omega);rw [<-hw2,<-hcells] at hsq;have hsub : ∀ R∈zai (some b1) [Value.int .i64 (IntKind.i64.wrap ((x.c : Int)-1))]::zai (some b2) [Value.int .i64 (IntKind.i64.wrap ((x.c : Int)+1))]::zai (some b3) s.C::s.F,R∈re0:=fun R hR=>by
  rw [hre0];simp only [zy1] at hR;rcases hR with rfl | rfl | rfl | hR
  ·exact zxA ..
  ·exact zxB _ (zxA ..)
  ·exact zxB _ (zxB _ (zxA ..))
  ·exact zxB _ (zxB _ (zxB _ (zBV _ hR)))
 have hsF : ∀ R∈s.F,R∈re0:=fun R hR=>hsub R (zxB _ (zxB _ (zxB _ hR)))
 obtain ⟨g,hg⟩ : ∃ g : Value,g=.func (.func 104) #[] ⟨[ptrV b1,ptrV b2,ptrV b3]⟩:=⟨_,rfl⟩;refine zy8 (st':=⟨[(2,.o (.p 2 0)),(3,.o (.p 3 0)),(6,.o (.p 6 0)),(7,.o (.p 7 0)),(21,.o (.v (.func (.func 104) #[] ⟨[ptrV b1,ptrV b2,ptrV b3]⟩)))],
   [(2,slM s),(3,.box (x.C.map AV.v) zao),(6,.box [.v nilV] zbl),(7,.box ((zdQ a1 a2 a3 a4).map AV.v) zaP)],re0⟩) ?_ (zzj ⟨rfl,rfl,rfl,rfl,rfl,trivial⟩ ⟨mrf rfl,mrf rfl,mrf rfl,mrf rfl,trivial⟩ (fun R hR=>by rw [hre0] at hR; exact hR))
 clear hre0;obtain ⟨p,hp⟩ : ∃ p : Cel->Bool,p=fun d=>decide (x.k<d.k)&&decide (x∈zbf s d):=⟨_,rfl⟩
 have hov : zfo s x=cells.filter p:=by rw [zfo,<-hcells,hp]
 rw [hov];rw [<-hcells] at hf hn;have hmem : ∀ d∈cells,d.k<4/\(d.r : Int)<cntK s d.k d.c:=fun d hd=>by
  rw [hcells] at hd;obtain ⟨_,_,h3⟩:=zfY hd;exact h3
 obtain ⟨ML,hML⟩ : ∃ ML : List Cel->List (Nat×ME),ML=fun L=>match L with
  | []=>[(45,slM s),(46,.box (x.C.map AV.v) zao),(47,.box [.v nilV] zbl),(48,.box ((zdQ a1 a2 a3 a4).map AV.v) zaP)]
  | y::l=>[(45,slM s),(46,.box (x.C.map AV.v) zao),(47,.box [.w 44] zbl),(48,.box ((zdQ a1 a2 a3 a4).map AV.v) zaP),(44,.own zao 3 (l.length+1) (rowV Cel.C (y::l)))]:=⟨_,rfl⟩
 refine WPS.range zab mixed rfl rfl hsq hsub 4 [(2,.o (.p 45 0)),(3,.o (.p 46 0)),(6,.o (.p 47 0)),(7,.o (.p 48 0))]
  (fun i (_ : Unit)=>ML ((cells.take i).filter p))
  (fun i _=>i<=cells.length) () (zyD _)
  (by
   rw [show (cells.take 0).filter p=[] from rfl,hML];exact zzi (fun k=>bif Nat.beq k 45 then 2 else bif Nat.beq k 46 then 3 else bif Nat.beq k 47 then 6 else bif Nat.beq k 48 then 7 else k) ⟨rfl,rfl,rfl,rfl,trivial⟩ ⟨mrf rfl,mrf rfl,mrf rfl,mrf rfl,trivial⟩ rfl (fun R hR=>hR))
  (by rw [show (cells.take 0).filter p=[] from rfl,hML]; rfl)
  (fun i j _=>by rw [hML]; cases (cells.take i).filter p <;> exact ⟨rfl,rfl⟩) rfl (fun x hx=>by obtain ⟨e,_,rfl⟩:=zx1.1 hx; rfl) rfl ?_ ?_
 ·intro W1 X i j Rx hi _;rw [zyA] at hi;obtain ⟨d,hd⟩ : ∃ d,cells[i]?=some d:=⟨_,zyy hi⟩;rw [znc hd];have hdm:=zyq hd;obtain ⟨hd4,hdr⟩:=hmem d hdm;have htk : (cells.take (i+1)).filter p=(cells.take i).filter p++(if p d then [d] else []):=by
   rw [zaD hd,zCf]
   congr 1
   rw [zCg]; rfl
  have hFl : ((cells.take i).filter p).length<=i:=zxs (zCe _ _) (by rw [zyI]; omega);rw [htk];generalize (cells.take i).filter p=L at hFl;have hfc:=zpa s d hs hz hzx hd4 hdr (hf d hdm);have hfl:=ziB hs hd4 (hf d hdm);have hpd : p d=(decide (x.k<d.k)&&decide (x∈zbf s d)):=by rw [hp]
  obtain ⟨F,hF⟩ : ∃ F,F=zbf s d:=⟨_,rfl⟩;rw [<-hF] at hfc hfl hpd;have hct : ∀ A c,F.length<=c->FnM PP 76 [.slice A F.length c,x.V] (facts [zai A (rowV Cel.C F)]) (zaR (.bool (decide (x∈F)))):=fun A c _=>zjJ A c F x hfl
  have n0 : ML []=[(45,slM s),(46,.box (x.C.map AV.v) zao),(47,.box [.v nilV] zbl),(48,.box ((zdQ a1 a2 a3 a4).map AV.v) zaP)]:=by rw [hML]
  have n1 : ∀ y l,ML (y::l)=[(45,slM s),(46,.box (x.C.map AV.v) zao),(47,.box [.w 44] zbl),(48,.box ((zdQ a1 a2 a3 a4).map AV.v) zaP),(44,.own zao 3 (l.length+1) (rowV Cel.C (y::l)))]:=fun y l=>by rw [hML]
  clear hML;have hil : i<1000000000:=by omega
  rcases zyW x.k d.k with hkk | hkk;rotate_left
  ·have hpn : ¬p d=true:=by rw [hpd]; simp only [zxV,zxY]; exact fun h=>by omega
   rw [zxI hpn,zyP];clear hpd hpn hfc htk hd hdm hdr;obtain ⟨k,cc,r⟩:=d;have hk' : k=0\/k=1\/k=2\/k=3:=by have : k<4:=hd4; omega
   rcases L with _ | ⟨y,l⟩
   ·rw [n0];rcases hk' with rfl | rfl | rfl | rfl
    all_goals
     conv=>whnf
     refine ⟨rfl,fun Ry=>?_⟩;conv=>whnf
     refine zak.qk ?_;conv=>whnf
     try refine zac (zz9 (fun h=>Nat.not_le.2 (zA6.1 h) hkk)) ?_
     try conv=>whnf
     exact ⟨(),by omega,zzj trivial ⟨mrf rfl,mrf rfl,mrf rfl,mrf rfl,trivial⟩ (fun R hR=>hR)⟩
   ·rw [n1];rcases hk' with rfl | rfl | rfl | rfl
    all_goals
     conv=>whnf
     refine ⟨rfl,fun Ry=>?_⟩;conv=>whnf
     refine zak.qk ?_;conv=>whnf
     try refine zac (zz9 (fun h=>Nat.not_le.2 (zA6.1 h) hkk)) ?_
     try conv=>whnf
     exact ⟨(),by omega,zzj trivial ⟨mrf rfl,mrf rfl,mrf rfl,mrf rfl,mrf rfl,trivial⟩ (fun R hR=>hR)⟩
  rw [zz8 hkk,zCh] at hpd;rw [hpd];clear hpd htk hd hdm hdr;obtain ⟨pv,hpv⟩ : ∃ pv,pv=decide (x∈F):=⟨_,rfl⟩;rw [<-hpv] at hct ⊢;clear hpv;obtain ⟨k,cc,r⟩:=d;have hk' : k=1\/k=2\/k=3:=by have : k<4:=hd4; have : x.k<k:=hkk; omega
  rcases L with _ | ⟨y,l⟩
  ·rw [n0];rcases hk' with rfl | rfl | rfl
   all_goals
    conv=>whnf
    refine ⟨rfl,fun Ry=>?_⟩;conv=>whnf
    refine zak.qk ?_;conv=>whnf
    refine zag (zz8 (zA6.2 hkk)) ?_;conv=>whnf
    refine ⟨⟨zAP _,zA6.2 hd4⟩,?_⟩;conv=>whnf
    refine zA8 hfc.enters (zzq hfc rfl (fun R hR=>zxB _ (hsF R hR))) ?_;conv=>whnf
    refine zA9 (hct none _ (zxr _)).enters (zzW (x:=.o (.w 36)) (fun z=>[z,x.V]) (zzU rfl) (zxA ..) (fun _=>rfl) hct) ?_
    cases pv with
    | false =>
     conv=>whnf
     refine ⟨(),by omega,?_⟩;rw [zxI (by decide),zyP,n0];exact zzj trivial ⟨mrf rfl,mrf rfl,mrf rfl,mrf rfl,trivial⟩ (fun R hR=>hR)
    | true =>
     conv=>whnf
     refine ⟨by show 0+1<=9223372036854775807/\(0+1)*24<=140737488355328; omega,?_⟩;conv=>whnf
     refine ⟨(),by omega,?_⟩;rw [zxJ rfl,zzJ,n1];refine zzi (fun k=>bif Nat.beq k 44 then 43 else k) trivial ⟨mrf rfl,mrf rfl,mrf rfl,mrf rfl,⟨_,rfl,?_⟩,trivial⟩ rfl (fun R hR=>hR) (.inr (fun j=>zmm (zxW rfl)));exact .refl _
  ·rw [n1];rcases hk' with rfl | rfl | rfl
   all_goals
    conv=>whnf
    refine ⟨rfl,fun Ry=>?_⟩;conv=>whnf
    refine zak.qk ?_;conv=>whnf
    refine zag (zz8 (zA6.2 hkk)) ?_;conv=>whnf
    refine ⟨⟨zAP _,zA6.2 hd4⟩,?_⟩;conv=>whnf
    refine zA8 hfc.enters (zzq hfc rfl (fun R hR=>zxB _ (hsF R hR))) ?_;conv=>whnf
    refine zA9 (hct none _ (zxr _)).enters (zzW (x:=.o (.w 36)) (fun z=>[z,x.V]) (zzU rfl) (zxA ..) (fun _=>rfl) hct) ?_
    cases pv with
    | false =>
     conv=>whnf
     refine ⟨(),by omega,?_⟩;rw [zxI (by decide),zyP,n1];exact zzj trivial ⟨mrf rfl,mrf rfl,mrf rfl,mrf rfl,mrf rfl,trivial⟩ (fun R hR=>hR)
    | true =>
     conv=>whnf
     refine ⟨by show (l.length+1)+1<=9223372036854775807/\((l.length+1)+1)*24<=140737488355328; have : (y::l).length<=i:=hFl; simp only [zxR] at this; omega,?_⟩;conv=>whnf
     refine ⟨(),by omega,?_⟩;rw [zxJ rfl,zyw,n1];refine zzi (fun k=>bif Nat.beq k 44 then 43 else k) trivial ⟨mrf rfl,mrf rfl,mrf rfl,mrf rfl,⟨_,rfl,?_⟩,trivial⟩ rfl (fun R hR=>hR) (.inr (fun j=>zmm (zxW rfl)));have e : ∀ d : Cel,(l++[d]).length+1=(l.length+1)+1:=fun d=>by simp
     rw [e,<-zyw,<-cel1];exact .refl _
 ·intro j _;rw [show (zkQ cells).length=cells.length from zyA ..,zyJ (zxr _)];have n0 : ML []=[(45,slM s),(46,.box (x.C.map AV.v) zao),(47,.box [.v nilV] zbl),(48,.box ((zdQ a1 a2 a3 a4).map AV.v) zaP)]:=by rw [hML]
  have n1 : ∀ y l,ML (y::l)=[(45,slM s),(46,.box (x.C.map AV.v) zao),(47,.box [.w 44] zbl),(48,.box ((zdQ a1 a2 a3 a4).map AV.v) zaP),(44,.own zao 3 (l.length+1) (rowV Cel.C (y::l)))]:=fun y l=>by rw [hML]
  generalize cells.filter p=L;refine zy7 zab mixed ?_;rcases L with _ | ⟨y,l⟩
  ·rw [n0];conv=>whnf
   exact .inr ⟨rfl,rfl⟩
  ·rw [n1];conv=>whnf
   exact .inl ⟨44,rfl,rfl⟩
theorem zfH (s : Sl) (col : Nat) (l : Ln Rat) (y : Rat) (k : Nat) (hs : s.small) (hl : s.L.xs[col]?=some l) (hk : l.xs[k]?=some y) (hmin : ∀ j,j<k->l.xs[j]?≠some y) :
  FnM PP 139 [s.V,.int .i64 col,qV y] (facts s.F) (zaR (.int .i64 (k : Int))):=by
 refine zzo zab mixed Tryz.func139 rfl rfl (zxW rfl) s.F_ok ?_;intro w hw;have hlm:=zyq hl;have hcl:=(zyz.1 hl).1;have hkl:=(zyz.1 hk).1;have hll:=hs.2.2.2.1 l hlm;have hAL : s.L.A.isSome=true:=zam (hw _ zBW) (by rw [zad zBT]; omega);have hAl : l.A.isSome=true:=zam (hw _ (zBZ hlm)) (by rw [zad zas]; omega);have jL : (0 : Int)<=(col : Int)/\(col : Int)<(s.L.xs.length : Int):=by omega
 conv=>whnf
 refine zal (ι:=Nat) (fun i=>⟨[(1,.o (.v (.int .i64 col))),(3,.o (.p 3 0)),(5,.o (.p 5 0)),(7,.o (.v (.int .i64 i)))],[(3,.box (s.C.map AV.v) zaL),(5,ratM (Q y))],s.F⟩)
  (fun i=>i<=k) (fun i=>k-i) 0 (zyD _) (zzj ⟨rfl,rfl,rfl,rfl,trivial⟩ ⟨mrf rfl,mrf rfl,trivial⟩ (fun R hR=>hR)) ?_
 intro i hi;obtain ⟨x,hx⟩ : ∃ x,l.xs[i]?=some x:=⟨_,zyy (by omega)⟩;conv=>whnf
 refine ⟨⟨jL.1,jL.2,hAL⟩,?_⟩;conv=>whnf
 refine zzR (A:=s.L.A) (xs:=s.L.xs) (j:=(col : Int)) Ln.C zBT zBW rfl (by rw [zzS]; omega) (by decide) (fun _=>rfl) ?_;intro l' hl';obtain rfl:=zbB hl' hl;conv=>whnf
 refine zag (zz8 (show (i : Int)<(l'.xs.length : Int) by omega)) ?_;conv=>whnf
 refine zak.qk ?_;conv=>whnf
 refine ⟨⟨jL.1,jL.2,hAL⟩,?_⟩;conv=>whnf
 refine zzR (A:=s.L.A) (xs:=s.L.xs) (j:=(col : Int)) Ln.C zBT zBW rfl (by rw [zzS]; omega) (by decide) (fun _=>rfl) ?_;intro l2 hl2;obtain rfl:=zbB hl2 hl;conv=>whnf
 refine ⟨⟨by omega,by omega,hAl⟩,?_⟩;conv=>whnf
 refine zan.nat (A:=l2.A) ratQ zas (zBZ hlm) rfl hx ?_;obtain ⟨x',rfl⟩ : ∃ z,z=x:=⟨_,rfl⟩;conv=>whnf
 by_cases he : x'=y
 ·refine zag ((eqRV x' y).trans (zz8 he)) ?_;obtain rfl : i=k:=by
   by_cases h : i=k
   ·exact h
   ·exact absurd (by rw [hx,he]) (hmin i (by omega))
  conv=>whnf
  exact zaa rfl
 refine zac ((eqRV x' y).trans (zz9 he)) ?_;conv=>whnf
 have hik : i<k:=by
  by_cases h : i=k
  ·subst h; rw [hk] at hx; cases hx; exact absurd rfl he
  ·omega
 exact ⟨i+1,by show i+1<=k; omega,by show k-(i+1)<k-i; omega,zzj ⟨rfl,rfl,rfl,zaq hik (by omega),trivial⟩ ⟨mrf rfl,mrf rfl,trivial⟩ (fun R hR=>hR)⟩
theorem zwB (s : Sl) (c r : Nat) : FnM PP 75 [s.V,Cel.V ⟨0,c,r⟩] (facts s.F) (zbD zao 3 0 (rowV Cel.C [])):=by
 refine zzm zab mixed Tryz.func75 rfl rfl (zxW rfl) s.F_ok (fun w l st E w' hp hm=>zc0 hp hm) ?_;intro w hw;conv=>whnf
 exact ⟨18,0,[],rfl,.inr ⟨_,rfl,rfl⟩,rfl,by decide,by decide,rfl⟩
theorem zwK (s : Sl) (c r : Nat) (hr : r<=10000000) : FnM PP 75 [s.V,Cel.V ⟨1,c,r⟩] (facts s.F) (zbD zao 3 2 (rowV Cel.C [⟨0,c,r⟩,⟨0,c,r+1⟩])):=by
 refine zzm zab mixed Tryz.func75 rfl rfl (zxW rfl) s.F_ok (fun w l st E w' hp hm=>zc0 hp hm) ?_;intro w hw;conv=>whnf
 refine ⟨30,2,[],rfl,.inr ⟨_,rfl,?_⟩,rfl,by decide,by decide,rfl⟩;show some [Value.int .i64 0,.int .i64 c,.int .i64 r,.int .i64 0,.int .i64 c,.int .i64 (IntKind.i64.wrap ((r : Int)+1))]=some _;rw [wrap_i64 (by omega) (by omega)]; rfl
structure EndX (s : Sl) (c r sd : Nat) (t : Ln Nat) (l : Ln Rat) (X : Rat) : Prop where
 ht : s.S.xs[c]?=some t
 hX : s.X.xs[c+sd]?=some X
 hl : s.L.xs[c+sd]?=some l
 hi : l.xs[endI s c r sd]?=some (onP s t r X).y
 hm : ∀ j,j<endI s c r sd->l.xs[j]?≠some (onP s t r X).y
theorem zdi.x {s : Sl} {c r sd : Nat} (h : zdi s c r sd) : ∃ t l X,EndX s c r sd t l X:=by
 obtain ⟨t,ht⟩:=h.t;obtain ⟨X,hX⟩:=h.X;obtain ⟨l,hl⟩:=h.l;obtain ⟨h1,h2⟩:=h.at' t X l ht hX hl;exact ⟨t,l,X,ht,hX,hl,h1,h2⟩
theorem zw3 (s : Sl) (c r : Nat) (hs : s.small) (hz : s.sz) (hzx : s.szX) (h0 : zdi s c r 0) (h1 : zdi s c r 1) (hr : ∀ t,s.S.xs[c]?=some t->r<=t.xs.length+1) :
  FnM PP 75 [s.V,Cel.V ⟨2,c,r⟩] (facts s.F) (zbD zao 3 2 (rowV Cel.C [⟨0,c,endI s c r 0⟩,⟨0,c+1,endI s c r 1⟩])):=by
 refine zzm zab mixed Tryz.func75 rfl rfl (zxW rfl) s.F_ok (fun w l st E w' hp hm=>zc0 hp hm) ?_;intro w hw;obtain ⟨t,l0,X,e0⟩:=h0.x;obtain ⟨t',l1,Y,e1⟩:=h1.x;obtain rfl : t=t':=by have:=e0.ht; rw [e1.ht] at this; exact (zz1 this).symm
 have hX : s.X.xs[c]?=some X:=e0.hX;have hY : s.X.xs[c+1]?=some Y:=e1.hX;have zx:=hzx.X X (zyq hX);have zy:=hzx.X Y (zyq hY);have h6:=(zyz.1 hX).1;have h7:=(zyz.1 hY).1;have hsm:=hs.1;have hw1 : ∀ {n : Nat},n<=1000000000->IntKind.i64.wrap ((n : Int)+1)=((n+1 : Nat) : Int):=fun h=>by rw [wrap_i64 (by omega) (by omega)]; rfl
 have hAX : s.X.A.isSome=true:=zam (hw _ zBY) (by rw [zad zas]; omega);have jX : (0 : Int)<=(c : Int)/\(c : Int)<(s.X.xs.length : Int):=by omega
 have jX1 : 0<=IntKind.i64.wrap ((c : Int)+1)/\IntKind.i64.wrap ((c : Int)+1)<(s.X.xs.length : Int):=by rw [hw1 (by omega)]; omega
 have hh0:=zdp s c r t X hs hz e0.ht (zx.le (by decide)) (hr t e0.ht);have hh1:=zdp s c r t Y hs hz e0.ht (zy.le (by decide)) (hr t e0.ht);have hv0:=zfH s c l0 _ _ hs e0.hl e0.hi e0.hm;have hv1:=zfH s (c+1) l1 _ _ hs e1.hl e1.hi e1.hm;rw [<-hw1 (n:=c) (by omega)] at hv1;generalize endI s c r 0=i0 at hv0 ⊢;generalize endI s c r 1=i1 at hv1 ⊢;conv=>whnf
 refine zak.qk ?_;conv=>whnf
 refine ⟨⟨jX.1,jX.2,hAX⟩,?_⟩;conv=>whnf
 refine zan.nat (A:=s.X.A) ratQ zas zBY rfl hX ?_;obtain ⟨x',rfl⟩ : ∃ z,z=X:=⟨_,rfl⟩;conv=>whnf
 refine cds hh0 ?_;conv=>whnf
 refine cds hv0 ?_;conv=>whnf
 refine ⟨⟨jX1.1,jX1.2,hAX⟩,?_⟩;conv=>whnf
 refine zan.nat (A:=s.X.A) ratQ zas zBY (zyr (fun z : Int=>s.X.A.map (fun a=>a.add (z.toNat*3))) (hw1 (n:=c) (by omega))) hY ?_;obtain ⟨y',rfl⟩ : ∃ z,z=Y:=⟨_,rfl⟩;conv=>whnf
 refine cds hh1 ?_;conv=>whnf
 refine cds hv1 ?_;conv=>whnf
 refine ⟨66,2,[],rfl,.inr ⟨_,rfl,?_⟩,rfl,by decide,by decide,rfl⟩;show some [Value.int .i64 0,.int .i64 c,.int .i64 i0,.int .i64 0,.int .i64 (IntKind.i64.wrap ((c : Int)+1)),.int .i64 i1]=some _;rw [hw1 (by omega)]; rfl
def gG (k c lo j : Nat) : List Cel:=(List.range j).map fun i=>⟨k,c,lo+i⟩
theorem zmN (k c lo j : Nat) : (gG k c lo j).length=j:=by rw [gG,zyA,zB2]
theorem zp5 (k c lo j : Nat) : gG k c lo (j+1)=gG k c lo j++[⟨k,c,lo+j⟩]:=by rw [gG,zAX,zzL]; rfl
def foL (s : Sl) (c r : Nat) : Nat->List Cel
 | 0=>[]
 | 1=>zdJ s c r 0++[⟨2,c,r⟩,⟨2,c,r+1⟩]
 | _=>zdJ s c r 0++([⟨2,c,r⟩,⟨2,c,r+1⟩]++zdJ s c r 1)
theorem zxe (s : Sl) (c r : Nat) (hs : s.small) (hz : s.sz) (hzx : s.szX) (h : ∀ sd,sd<2->zdi s c r sd/\zdi s c (r+1) sd/\endI s c r sd<=endI s c (r+1) sd) (hr : ∀ t,s.S.xs[c]?=some t->r<=t.xs.length) :
  FnM PP 75 [s.V,Cel.V ⟨3,c,r⟩] (facts s.F) (zbD zao 3 (zbf s ⟨3,c,r⟩).length (rowV Cel.C (zbf s ⟨3,c,r⟩))):=by
 refine zzp zab mixed Tryz.func75 rfl rfl (zxW rfl) s.F_ok ?_;intro w hw;have hsm:=hs.1;have hs3:=hs.2.2.1;obtain ⟨t0,_,X0,e00⟩:=(h 0 (by omega)).1.x;obtain ⟨_,_,X1,e11⟩:=(h 1 (by omega)).1.x;have hcX:=(zyz.1 e11.hX).1;have hrt:=hr t0 e00.ht;have htl:=hs.2.2.2.2.1 t0 (zyq e00.ht);have hw1 : ∀ {n : Nat},n<=1000000000->IntKind.i64.wrap ((n : Int)+1)=((n+1 : Nat) : Int):=fun h=>by rw [wrap_i64 (by omega) (by omega)]; rfl
 have hAX : s.X.A.isSome=true:=zam (hw _ zBY) (by rw [zad zas]; omega);conv=>whnf
 refine zal (ι:=Nat) (fun sd=>⟨[(2,.o (.p 2 0)),(3,.o (.p 3 0)),(5,.o (.v (.int .i64 c))),(6,.o (.w 67)),(7,.o (.v (.int .i64 ((c+sd : Nat) : Int))))],[(2,.box (s.C.map AV.v) zaL),(3,.box ((Cel.C ⟨3,c,r⟩).map AV.v) zao),(67,.own zao 3 (foL s c r sd).length (rowV Cel.C (foL s c r sd)))],s.F⟩)
  (fun sd=>sd<=2) (fun sd=>2-sd) 0 (zyD _)
  ((zCa 6 67 68 zao 3 rfl rfl rfl).trans (zzi (fun k=>bif Nat.beq k 67 then 68 else k) ⟨rfl,rfl,rfl,rfl,rfl,trivial⟩ ⟨mrf rfl,mrf rfl,mrf rfl,trivial⟩ rfl (fun R hR=>hR))) ?_
 intro sd hsd;conv=>whnf
 by_cases hsd2 : sd=2
 ·subst hsd2;refine zac (zz9 (show ¬(((c+2 : Nat) : Int)<=IntKind.i64.wrap ((c : Int)+1)) by rw [hw1 (by omega)]; omega)) ?_;conv=>whnf
  exact ⟨67,rfl,rfl⟩
 refine zag (zz8 (show (((c+sd : Nat) : Int)<=IntKind.i64.wrap ((c : Int)+1)) by rw [hw1 (by omega)]; omega)) ?_;obtain ⟨hE0,hE1,hle⟩:=h sd (by omega);obtain ⟨t,l,X,e0⟩:=hE0.x;obtain ⟨t',l',X',e1⟩:=hE1.x;obtain rfl : t=t':=by have:=e0.ht; rw [e1.ht] at this; exact (zz1 this).symm
 obtain rfl : l=l':=by have:=e0.hl; rw [e1.hl] at this; exact (zz1 this).symm
 obtain rfl : X=X':=by have:=e0.hX; rw [e1.hX] at this; exact (zz1 this).symm
 have hX:=e0.hX;have zx:=hzx.X X (zyq hX);have h6:=(zyz.1 hX).1;have jX : (0 : Int)<=((c+sd : Nat) : Int)/\((c+sd : Nat) : Int)<(s.X.xs.length : Int):=by omega
 have hrt':=hr t e0.ht;have hh0:=zdp s c r t X hs hz e0.ht (zx.le (by decide)) (by omega);have hh1:=zdp s c (r+1) t X hs hz e0.ht (zx.le (by decide)) (by omega);have hv0:=zfH s (c+sd) l _ _ hs e0.hl e0.hi e0.hm;have hv1:=zfH s (c+sd) l _ _ hs e1.hl e1.hi e1.hm;rw [<-hw1 (n:=r) (by omega)] at hh1;have hhi:=hE1.lt hs;obtain ⟨L,hL⟩ : ∃ L,L=foL s c r sd:=⟨_,rfl⟩;have hLl : L.length<=100000000:=by
  have hl0:=(h 0 (by omega)).2.1.lt hs;have hlen : ∀ c lo hi,(zdh c lo hi++zc8 c lo hi).length<=2*hi+1:=fun c lo hi=>by
   rw [zz2,zdh,zc8,zyA,zyA,zB2,zB2]; omega
  have e0:=hlen (c+0) (endI s c r 0) (endI s c (r+1) 0);have : sd=0\/sd=1:=by omega
  rcases this with rfl | rfl
  ·rw [hL]; exact zyD _
  ·rw [hL,foL,zz2];show (zdh (c+0) (endI s c r 0) (endI s c (r+1) 0)++zc8 (c+0) (endI s c r 0) (endI s c (r+1) 0)).length+2<=_;omega
 have hnx : L++(zdh (c+sd) (endI s c r sd) (endI s c (r+1) sd)++zc8 (c+sd) (endI s c r sd) (endI s c (r+1) sd))++(if sd=0 then [⟨2,c,r⟩,⟨2,c,r+1⟩] else [])=foL s c r (sd+1):=by
  have : sd=0\/sd=1:=by omega
  rcases this with rfl | rfl
  ·rw [hL]; show ([]++zdJ s c r 0)++[⟨2,c,r⟩,⟨2,c,r+1⟩]=_; rfl
  ·rw [hL,zxI (by omega),zyP];show (zdJ s c r 0++[⟨2,c,r⟩,⟨2,c,r+1⟩])++zdJ s c r 1=_;rw [zyF]; rfl
 rw [<-hL];generalize endI s c r sd=lo at hv0 hle hnx ⊢;generalize endI s c (r+1) sd=hi at hv1 hle hnx hhi ⊢;conv=>whnf
 refine zak.qk ?_;conv=>whnf
 refine ⟨⟨jX.1,jX.2,hAX⟩,?_⟩;conv=>whnf
 refine zan.nat (A:=s.X.A) ratQ zas zBY rfl hX ?_;obtain ⟨x',rfl⟩ : ∃ z,z=X:=⟨_,rfl⟩;conv=>whnf
 refine cds hh0 ?_;conv=>whnf
 refine cds hv0 ?_;conv=>whnf
 refine ⟨⟨jX.1,jX.2,hAX⟩,?_⟩;conv=>whnf
 refine zan.nat (A:=s.X.A) ratQ zas zBY rfl hX ?_;obtain ⟨x2,rfl⟩ : ∃ z,z=x':=⟨_,rfl⟩;conv=>whnf
 refine cds hh1 ?_;conv=>whnf
 refine cds hv1 ?_;conv=>whnf
 refine zal (ι:=Nat) (fun j=>⟨[(2,.o (.p 2 0)),(3,.o (.p 3 0)),(5,.o (.v (.int .i64 c))),(6,.o (.w 67)),(7,.o (.v (.int .i64 ((c+sd : Nat) : Int)))),(8,.o (.v (.int .i64 lo))),(9,.o (.v (.int .i64 hi))),(10,.o (.v (.int .i64 ((lo+j : Nat) : Int))))],[(2,.box (s.C.map AV.v) zaL),(3,.box ((Cel.C ⟨3,c,r⟩).map AV.v) zao),(67,.own zao 3 (L++gG 0 (c+sd) lo j).length (rowV Cel.C (L++gG 0 (c+sd) lo j)))],s.F⟩)
  (fun j=>lo+j<=hi+1) (fun j=>hi+1-(lo+j)) 0 (by show lo+0<=hi+1; omega)
  (zzj ⟨rfl,rfl,rfl,rfl,rfl,rfl,rfl,rfl,trivial⟩ ⟨mrf rfl,mrf rfl,⟨_,rfl,by rw [show gG 0 (c+sd) lo 0=[] from rfl,zyP]; exact .refl _⟩,trivial⟩ (fun R hR=>hR)) ?_
 intro j hj;have hj : lo+j<=hi+1:=hj;conv=>whnf
 by_cases hjh : lo+j<=hi
 ·refine zag (zz8 (show ((lo+j : Nat) : Int)<=(hi : Int) by omega)) ?_;conv=>whnf
  refine ⟨by show (L++gG 0 (c+sd) lo j).length+1<=9223372036854775807/\((L++gG 0 (c+sd) lo j).length+1)*24<=140737488355328; rw [zz2,zmN]; omega,?_⟩;conv=>whnf
  refine ⟨j+1,by show lo+(j+1)<=hi+1; omega,by show hi+1-(lo+(j+1))<hi+1-(lo+j); omega,zzi (fun k=>bif Nat.beq k 67 then 113 else k) ⟨rfl,rfl,rfl,rfl,rfl,rfl,rfl,zaq (show lo+j<hi+1 by omega) (by omega),trivial⟩ ⟨mrf rfl,mrf rfl,⟨_,rfl,?_⟩,trivial⟩ rfl (fun R hR=>hR)⟩;show MEle (ME.own zao 3 ((L++gG 0 (c+sd) lo j).length+1) (app (rowV Cel.C (L++gG 0 (c+sd) lo j)) (Cel.C ⟨0,c+sd,lo+j⟩))) _;rw [cl1,zp5,<-zyF,zz2 (bs:=[_])]; exact .refl _
 refine zac (zz9 (show ¬((lo+j : Nat) : Int)<=(hi : Int) by omega)) ?_;obtain rfl : j=hi+1-lo:=by omega
 obtain ⟨M,hM⟩ : ∃ M,M=L++gG 0 (c+sd) lo (hi+1-lo):=⟨_,rfl⟩;have hMl : M.length<=200000000:=by rw [hM,zz2,zmN]; omega
 rw [<-hM];conv=>whnf
 refine zal (ι:=Nat) (fun j=>⟨[(2,.o (.p 2 0)),(3,.o (.p 3 0)),(5,.o (.v (.int .i64 c))),(6,.o (.w 67)),(7,.o (.v (.int .i64 ((c+sd : Nat) : Int)))),(9,.o (.v (.int .i64 hi))),(11,.o (.v (.int .i64 ((lo+j : Nat) : Int))))],[(2,.box (s.C.map AV.v) zaL),(3,.box ((Cel.C ⟨3,c,r⟩).map AV.v) zao),(67,.own zao 3 (M++gG 1 (c+sd) lo j).length (rowV Cel.C (M++gG 1 (c+sd) lo j)))],s.F⟩)
  (fun j=>lo+j<=hi) (fun j=>hi-(lo+j)) 0 (by show lo+0<=hi; omega)
  (zzj ⟨rfl,rfl,rfl,rfl,rfl,rfl,rfl,trivial⟩ ⟨mrf rfl,mrf rfl,⟨_,rfl,by rw [show gG 1 (c+sd) lo 0=[] from rfl,zyP]; exact .refl _⟩,trivial⟩ (fun R hR=>hR)) ?_
 intro j hj;have hj : lo+j<=hi:=hj;conv=>whnf
 by_cases hjh : lo+j<hi
 ·refine zag (zz8 (show ((lo+j : Nat) : Int)<(hi : Int) by omega)) ?_;conv=>whnf
  refine ⟨by show (M++gG 1 (c+sd) lo j).length+1<=9223372036854775807/\((M++gG 1 (c+sd) lo j).length+1)*24<=140737488355328; rw [zz2,zmN]; omega,?_⟩;conv=>whnf
  refine ⟨j+1,by show lo+(j+1)<=hi; omega,by show hi-(lo+(j+1))<hi-(lo+j); omega,zzi (fun k=>bif Nat.beq k 67 then 125 else k) ⟨rfl,rfl,rfl,rfl,rfl,rfl,zaq (show lo+j<hi+1 by omega) (by omega),trivial⟩ ⟨mrf rfl,mrf rfl,⟨_,rfl,?_⟩,trivial⟩ rfl (fun R hR=>hR)⟩;show MEle (ME.own zao 3 ((M++gG 1 (c+sd) lo j).length+1) (app (rowV Cel.C (M++gG 1 (c+sd) lo j)) (Cel.C ⟨1,c+sd,lo+j⟩))) _;rw [cl1,zp5,<-zyF,zz2 (bs:=[_])]; exact .refl _
 refine zac (zz9 (show ¬((lo+j : Nat) : Int)<(hi : Int) by omega)) ?_;obtain rfl : j=hi-lo:=by omega
 obtain ⟨N,hN⟩ : ∃ N,N=M++gG 1 (c+sd) lo (hi-lo):=⟨_,rfl⟩;have hNl : N.length<=300000000:=by rw [hN,zz2,zmN]; omega
 have hnx' : N++(if sd=0 then [⟨2,c,r⟩,⟨2,c,r+1⟩] else [])=foL s c r (sd+1):=by
  rw [<-hnx,hN,hM]; simp only [zyF]; rfl
 rw [<-hN];conv=>whnf
 by_cases hs0 : sd=0
 ·subst hs0;refine zag (zyY.2 (by omega)) ?_;conv=>whnf
  refine ⟨by show N.length+2<=9223372036854775807/\(N.length+2)*24<=140737488355328; omega,?_⟩;conv=>whnf
  refine ⟨1,by show 1<=2; omega,by show 2-1<2-0; omega,zzi (fun k=>bif Nat.beq k 67 then 140 else k) ⟨rfl,rfl,rfl,rfl,zaq (show c+0<c+1 by omega) (by omega),trivial⟩ ⟨mrf rfl,mrf rfl,⟨_,rfl,?_⟩,trivial⟩ rfl (fun R hR=>hR)⟩;rw [zxJ rfl] at hnx';rw [<-hnx'];show MEle (ME.own zao 3 (N.length+2) (app (rowV Cel.C N) [Value.int .i64 2,.int .i64 c,.int .i64 r,.int .i64 2,.int .i64 c,.int .i64 (IntKind.i64.wrap ((r : Int)+1))])) _;rw [hw1 (by omega),za4,zaE,zz2]; exact .refl _
 ·obtain rfl : sd=1:=by omega
  refine zac (zBO.2 (by omega)) ?_;conv=>whnf
  rw [zxI (by omega),zyP] at hnx';refine ⟨2,by show 2<=2; omega,by show 2-2<2-1; omega,zzj ⟨rfl,rfl,rfl,rfl,zaq (show c+1<c+2 by omega) (by omega),trivial⟩ ⟨mrf rfl,mrf rfl,⟨_,rfl,by rw [<-hnx']; exact .refl _⟩,trivial⟩ (fun R hR=>hR)⟩
theorem zkF (s : Sl) (x : Cel) (hs : s.small) (hz : s.sz) (hzx : s.szX) (hk : x.k<4) (hx : (x.r : Int)<cntK s x.k x.c) (hf : FcOk s x) :
  FnM PP 75 [s.V,x.V] (facts s.F) (zbD zao 3 (zbf s x).length (rowV Cel.C (zbf s x))):=by
 obtain ⟨k,c,r⟩:=x;have hsm:=zcm hs hk hx;have hk' : k=0\/k=1\/k=2\/k=3:=by have : k<4:=hk; omega
 rcases hk' with rfl | rfl | rfl | rfl
 ·exact zwB s c r
 ·exact zwK s c r hsm.2
 ·obtain ⟨h0,h1⟩:=hf.low (zxr 2);exact zw3 s c r hs hz hzx h0 h1 (fun t ht=>by
   obtain ⟨t',_,_,h1,_,_,h4,_⟩:=zaG (d:=2) hx;replace h1 : s.S.xs[c]?=some t':=h1;rw [ht] at h1; cases h1;replace h4 : r<t.xs.length+2:=h4;omega)
 ·obtain ⟨h0,h1⟩:=hf.low (show 2<=3 by omega);obtain ⟨⟨h2,h3⟩,h4,h5⟩:=hf.high rfl;exact zxe s c r hs hz hzx (fun sd hsd=>by
   have : sd=0\/sd=1:=by omega
   rcases this with rfl | rfl
   ·exact ⟨h0,h2,h4⟩
   ·exact ⟨h1,h3,h5⟩) (fun t ht=>by
   obtain ⟨t',_,_,h1,_,_,h4,_⟩:=zaG (d:=1) hx;replace h1 : s.S.xs[c]?=some t':=h1;rw [ht] at h1; cases h1;replace h4 : r<t.xs.length+1:=h4;omega)
section
variable {P : Program} {T : TT} {C : Cx} {E : Env} {st : SS}
def zwd (t es n : Nat) (xs : List Value) (r : Value) (l : List SV) (st : SS) : Prop:=∃ k c junk,l=[.o (.s k 0 n c),.o (.v r)]/\zqF st k t (xs++junk)/\xs.length=n*es/\n<=c/\c<=1000000/\(xs++junk).length=c*es
theorem zdD {t es n : Nat} {xs : List Value} {r : Value} {w : World} {N : Nat} {l : List SV} {w' : World} (h : zwd t es n xs r l st) (hm : zaV ⟨w,[],N⟩ E st.me st.re w') : zcl t es n xs r w (.returned (retV (l.map (SV.real E)))) w':=by
 obtain ⟨k,c,junk,rfl,h2,h3,h4,h5,h6⟩:=h;exact ⟨_,rfl,zkn hm h2 h3 h4 h5 h6,hm.ext.below⟩
end
theorem ztV (s : Sl) (x : Cel) (hL : s.L.xs.length=s.X.xs.length) (hS : s.S.xs.length+1=s.X.xs.length) (hs : s.small) (hz : s.sz) (hzx : s.szX) (hk : x.k<4) (hx : (x.r : Int)<cntK s x.k x.c) (hf : FcOk s x) :
  FnM PP 25 [s.V,x.V] (facts s.F) (zcl zao 3 (zbf s x).length (rowV Cel.C (zbf s x)) (.int .i64 0)):=by
 refine FnT.of zab mixed Tryz.func25 rfl rfl (zxW rfl) s.F_ok ?_;intro w hw;have his:=zeZ s x.k x.c x.r hL hS hs.1 hs.2.2.2.1 hs.2.2.2.2.1;rw [zdg hk,zz8 hx] at his;have hC:=zkF s x hs hz hzx hk hx hf;obtain ⟨L,hLL⟩ : ∃ L,L=zbf s x:=⟨_,rfl⟩;rw [<-hLL] at hC ⊢;conv=>whnf
 refine cfs his ?_;conv=>whnf
 refine zzs 13 hC.enters (zzq hC rfl (fun R h=>h)) rfl rfl ?_;conv=>whnf
 exact ⟨13,rfl,rfl⟩
theorem zqw (s : Sl) (k c r : Int) (hL : s.L.xs.length=s.X.xs.length) (hS : s.S.xs.length+1=s.X.xs.length) (hs : s.small) (h : isI s k c r=false) :
  FnM PP 25 [s.V,.agg ⟨celC k c r⟩] (facts s.F) (zcl zao 3 0 (rowV Cel.C []) (.int .i64 6)):=by
 refine zzm zab mixed Tryz.func25 rfl rfl (zxW rfl) s.F_ok (fun w l st E w' hp hm=>zdD hp hm) ?_;intro w hw;have his:=zeZ s k c r hL hS hs.1 hs.2.2.2.1 hs.2.2.2.2.1;rw [h] at his;conv=>whnf
 refine cfs his ?_;conv=>whnf
 exact ⟨10,0,[],rfl,.inr ⟨_,rfl,rfl⟩,rfl,by decide,by decide,rfl⟩
theorem zxi (A : Option Addr) (c : Nat) (L : List Cel) (x : Cel) (hl : L.length<=1000000000) :
   FnM PP 141 [.slice A L.length c,x.V] (facts [zai A (rowV Cel.C L)]) (zaR (.bool (decide (x∈L)))):=by
 refine zzo zab mixed Tryz.func141 rfl rfl (zxW rfl) (by simp [zzk]) ?_;intro w hw;obtain ⟨n,hn⟩ : ∃ n,n=L.length:=⟨_,rfl⟩;have hA : 0<n->A.isSome=true:=fun h=>zam (hw _ (zxA ..)) (by rw [zad zB0]; omega)
 rw [<-hn] at hl ⊢;conv=>whnf
 refine zal (ι:=Nat) (fun i=>⟨[(0,.o (.v (.slice A n c))),(3,.o (.p 3 0)),(5,.o (.v (.int .i64 i)))],[(3,.box (x.C.map AV.v) zao)],[zai A (rowV Cel.C L)]⟩)
   (fun i=>i<=n/\x ∉ L.take i) (fun i=>n-i) 0 ⟨zyD _,by simp⟩ (zzj ⟨rfl,rfl,rfl,trivial⟩ ⟨mrf rfl,trivial⟩ (fun R hR=>hR)) ?_
 intro i ⟨hi,ht⟩;conv=>whnf
 by_cases hin : i<n;rotate_left
 · refine zac (zz9 (show ¬(i : Int)<(n : Int) by omega)) ?_;conv=>whnf
   refine zaa ?_;rw [zyJ (by omega)] at ht;rw [zz9 ht]
 refine zag (zz8 (show (i : Int)<(n : Int) by omega)) ?_;obtain ⟨y,hy⟩ : ∃ y,L[i]?=some y:=⟨_,zyy (by omega)⟩;conv=>whnf
 refine zak.qk ?_;conv=>whnf
 refine ⟨⟨by omega,by omega,hA (by omega)⟩,?_⟩;conv=>whnf
 refine zzR (A:=A) (xs:=L) (j:=(i : Int)) Cel.C zB0 (zxA ..) rfl (by rw [zzS]; omega) (by decide) (fun h=>by cases h) ?_;intro y' hy';obtain rfl:=zbB hy' hy;conv=>whnf
 by_cases hxy : y'=x
 · refine zag ((zsd y' x).trans (zz8 hxy)) ?_;conv=>whnf
   refine zaa ?_;rw [zz8 (by rw [<-hxy]; exact zyq hy)]
 refine zac ((zsd y' x).trans (zz9 hxy)) ?_;conv=>whnf
 exact ⟨i+1,⟨by omega,by
   rw [zaD hy,zyK,zyZ];rintro (h | h)
   · exact ht h
   · exact hxy h.symm⟩,by show n-(i+1)<n-i; omega,zzj ⟨rfl,rfl,zaq hin (by omega),trivial⟩ ⟨mrf rfl,trivial⟩ (fun R hR=>hR)⟩
def zgi (s : Sl) (k : Nat) (i : Int) : List Cel:=(List.range (cntI s k i).toNat).map fun r=>⟨k,i.toNat,r⟩
def colJ (s : Sl) (i : Int) : Nat->List Cel
 | 0=>[]
 | j+1=>zgi s (3-j) i++colJ s i j
def zir (s : Sl) : Int->Nat->List Cel
 | _,0=>[]
 | i,n+1=>colJ s i 3++zir s (i+1) n
theorem zoF {s : Sl} {k : Nat} {i : Int} {r : Nat} (h : (r : Int)<cntI s k i) : (zgi s k i).drop r=⟨k,i.toNat,r⟩::(zgi s k i).drop (r+1):=by
 refine zeL ?_;rw [zgi,zx4,zyk (by omega)]; rfl
theorem zp1 {s : Sl} {k : Nat} {i : Int} {r : Nat} (h : ¬(r : Int)<cntI s k i) : (zgi s k i).drop r=[]:=by
 refine zzQ ?_;rw [zgi,zyA,zB2]; omega
theorem zq3 (s : Sl) (x : Cel) (p : Cel->Bool) (T : List Cel) (hL : s.L.xs.length=s.X.xs.length) (hS : s.S.xs.length+1=s.X.xs.length) (hs : s.small) (hz : s.sz) (hzx : s.szX) (hc : x.c<=1000000) (hF : ∀ d : Cel,d.k<4->(d.r : Int)<cntK s d.k d.c->FcOk s d)
  (hp : p=fun d=>decide (x∈zbf s d)) (hT : (zir s ((x.c : Int)-1) 2).filter p=T) (hn : T.length<=100000000) :
  FnM PP 77 [s.V,x.V] (facts s.F) (zbD zao 3 T.length (rowV Cel.C T)):=by
 refine zzp zab mixed Tryz.func77 rfl rfl (zxW rfl) s.F_ok ?_;intro w hw;have hs1:=hs.1;have hs4:=hs.2.2.2.1;have hs5:=hs.2.2.2.2.1;obtain ⟨k0,c,r0⟩:=x;replace hc : c<=1000000:=hc;replace hT : (zir s ((c : Int)-1) 2).filter p=T:=hT;have hw1 : IntKind.i64.wrap ((c : Int)-1)=(c : Int)-1:=wrap_i64 (by omega) (by omega);conv=>whnf
 refine zal (ι:=Nat×List Cel) (fun ⟨n,M⟩=>⟨[(2,.o (.p 2 0)),(3,.o (.p 3 0)),(5,.o (.w 10)),(6,.o (.v (.int .i64 ((c : Int)-1+n))))],[(2,.box (s.C.map AV.v) zaL),(3,.box ((Cel.C ⟨k0,c,r0⟩).map AV.v) zao),(10,.own zao 3 M.length (rowV Cel.C M))],s.F⟩)
  (fun ⟨n,M⟩=>n<=2/\M++(zir s ((c : Int)-1+n) (2-n)).filter p=T) (fun ⟨n,M⟩=>2-n) (0,[]) ⟨zyD _,by rw [<-hT]; simp⟩
  ((zCa 5 10 11 zao 3 rfl rfl rfl).trans (zzi (fun k=>bif Nat.beq k 10 then 11 else k) ⟨rfl,rfl,rfl,by show some (SV.o (.v (.int .i64 (IntKind.i64.wrap ((c : Int)-1)))))=some (SV.o (.v (.int .i64 ((c : Int)-1+(0 : Nat))))); rw [hw1]; simp,trivial⟩ ⟨mrf rfl,mrf rfl,mrf rfl,trivial⟩ rfl (fun R hR=>hR))) ?_
 rintro ⟨n,M⟩ ⟨hn2,hM⟩;conv=>whnf
 by_cases hn' : n=2
 ·subst hn';refine zac (zz9 (show ¬((c : Int)-1+(2 : Nat)<=(c : Int)) by omega)) ?_;rw [show 2-2=0 from rfl,zir,List.filter_nil,zyP] at hM;rw [hM];conv=>whnf
  exact ⟨10,rfl,rfl⟩
 refine zag (zz8 (show ((c : Int)-1+(n : Nat)<=(c : Int)) by omega)) ?_;obtain ⟨i,hi⟩ : ∃ i,i=(c : Int)-1+(n : Nat):=⟨_,rfl⟩;have hwi : IntKind.i64.wrap (i+1)=(c : Int)-1+((n+1 : Nat) : Int):=by rw [wrap_i64 (by omega) (by omega)]; omega
 rw [show 2-n=(2-(n+1))+1 by omega,zir,<-hi,zCf,show i+1=(c : Int)-1+((n+1 : Nat) : Int) by omega] at hM;rw [<-hi];obtain ⟨U,hU⟩ : ∃ U,U=(zir s ((c : Int)-1+((n+1 : Nat) : Int)) (2-(n+1))).filter p:=⟨_,rfl⟩;rw [<-hU] at hM;conv=>whnf
 refine zal (ι:=Nat×List Cel) (fun ⟨j,M⟩=>⟨[(2,.o (.p 2 0)),(3,.o (.p 3 0)),(5,.o (.w 10)),(6,.o (.v (.int .i64 i))),(7,.o (.v (.int .i64 ((j+1 : Nat) : Int))))],[(2,.box (s.C.map AV.v) zaL),(3,.box ((Cel.C ⟨k0,c,r0⟩).map AV.v) zao),(10,.own zao 3 M.length (rowV Cel.C M))],s.F⟩)
  (fun ⟨j,M⟩=>j<=3/\M++((colJ s i (3-j)).filter p++U)=T) (fun ⟨j,M⟩=>3-j) (0,M) ⟨zyD _,hM⟩
  (zzj ⟨rfl,rfl,rfl,zyr (fun z=>some (SV.o (.v (.int .i64 z)))) hi.symm,rfl,trivial⟩ ⟨mrf rfl,mrf rfl,mrf rfl,trivial⟩ (fun R hR=>hR)) ?_
 rintro ⟨j,M⟩ ⟨hj,hM⟩;conv=>whnf
 by_cases hj3 : j=3
 ·subst hj3;rw [show 3-3=0 from rfl,colJ,List.filter_nil,zzJ,hU] at hM;conv=>whnf
  exact ⟨(n+1,M),⟨by omega,hM⟩,by show 2-(n+1)<2-n; omega,zzj ⟨rfl,rfl,rfl,zyr (fun z=>some (SV.o (.v (.int .i64 z)))) hwi,trivial⟩ ⟨mrf rfl,mrf rfl,mrf rfl,trivial⟩ (fun R hR=>hR)⟩
 refine zag (zz8 (show (((j+1 : Nat) : Int)<=3) by omega)) ?_;rw [show 3-j=(2-j)+1 by omega,colJ,show 3-(2-j)=j+1 by omega,zCf,zyF] at hM;have hrow:=zqh s ((j+1 : Nat) : Int) i hL hS hs1 hs4 hs5;conv=>whnf
 refine zal (ι:=Nat×List Cel) (fun ⟨r,N⟩=>⟨[(2,.o (.p 2 0)),(3,.o (.p 3 0)),(5,.o (.w 10)),(6,.o (.v (.int .i64 i))),(7,.o (.v (.int .i64 ((j+1 : Nat) : Int)))),(8,.o (.v (.int .i64 r)))],[(2,.box (s.C.map AV.v) zaL),(3,.box ((Cel.C ⟨k0,c,r0⟩).map AV.v) zao),(10,.own zao 3 N.length (rowV Cel.C N))],s.F⟩)
  (fun ⟨r,N⟩=>N++(((zgi s (j+1) i).drop r).filter p++((colJ s i (2-j)).filter p++U))=T) (fun ⟨r,N⟩=>(cntI s ((j+1 : Nat) : Int) i).toNat-r) (0,M) (show M++(((zgi s (j+1) i).drop 0).filter p++((colJ s i (2-j)).filter p++U))=T by rw [zAJ]; exact hM)
  (zzj ⟨rfl,rfl,rfl,rfl,rfl,rfl,trivial⟩ ⟨mrf rfl,mrf rfl,mrf rfl,trivial⟩ (fun R hR=>hR)) ?_
 rintro ⟨r,N⟩ hN;replace hN : N++(((zgi s (j+1) i).drop r).filter p++((colJ s i (2-j)).filter p++U))=T:=hN;conv=>whnf
 refine cfs hrow ?_;conv=>whnf
 by_cases hr : (r : Int)<cntI s ((j+1 : Nat) : Int) i;rotate_left
 ·refine zac (zz9 hr) ?_;rw [zp1 hr,List.filter_nil,zzJ] at hN;conv=>whnf
  exact ⟨(j+1,N),⟨by omega,by rw [show 3-(j+1)=2-j by omega]; exact hN⟩,by show 3-(j+1)<3-j; omega,zzj ⟨rfl,rfl,rfl,rfl,zaq (show j+1<5 by omega) (by omega),trivial⟩ ⟨mrf rfl,mrf rfl,mrf rfl,trivial⟩ (fun R hR=>hR)⟩
 refine zag (zz8 hr) ?_;obtain ⟨i',rfl⟩ : ∃ i' : Nat,i=i':=by
  have : 0<=i:=by
   by_cases h0 : 0<=i
   ·exact h0
   ·rw [cntI,zxI (fun h=>h0 h.1)] at hr; omega
  exact zBr this
 have hr' : (r : Int)<cntK s (j+1) i':=by rw [zgV s (j+1) i' (by omega)] at hr; exact hr
 have hrs:=zcm hs (show j+1<4 by omega) hr';have hfc:=zkF s ⟨j+1,i',r⟩ hs hz hzx (show j+1<4 by omega) hr' (hF ⟨j+1,i',r⟩ (show j+1<4 by omega) hr');have hfl:=ziB hs (x:=⟨j+1,i',r⟩) (show j+1<4 by omega) (hF ⟨j+1,i',r⟩ (show j+1<4 by omega) hr');rw [zoF hr,zCg] at hN;have hpd : p ⟨j+1,i',r⟩=decide ((⟨k0,c,r0⟩ : Cel)∈zbf s ⟨j+1,i',r⟩):=by rw [hp]
 rw [show (i' : Int).toNat=i' from rfl,hpd] at hN;obtain ⟨F,hFd⟩ : ∃ F,F=zbf s ⟨j+1,i',r⟩:=⟨_,rfl⟩;rw [<-hFd] at hfc hfl hN;have hct : ∀ A c',F.length<=c'->FnM PP 141 [.slice A F.length c',(⟨k0,c,r0⟩ : Cel).V] (facts [zai A (rowV Cel.C F)]) (zaR (.bool (decide ((⟨k0,c,r0⟩ : Cel)∈F)))):=fun A c' _=>zxi A c' F ⟨k0,c,r0⟩ hfl
 have hNl : N.length<=100000000:=by
  have:=zyr List.length hN;rw [zz2] at this;omega
 obtain ⟨pv,hpv⟩ : ∃ pv,pv=decide ((⟨k0,c,r0⟩ : Cel)∈F):=⟨_,rfl⟩;rw [<-hpv] at hct hN;clear hpv hpd;conv=>whnf
 refine zak.qk ?_;conv=>whnf
 refine zA8 hfc.enters (zzq hfc rfl (fun R hR=>hR)) ?_;conv=>whnf
 refine zA9 (hct none _ (zxr _)).enters (zzW (x:=.o (.w 38)) (fun z=>[z,(⟨k0,c,r0⟩ : Cel).V]) (zzU rfl) (zxA ..) (fun _=>rfl) hct) ?_
 cases pv with
 | false =>
  rw [zxI (by decide)] at hN;conv=>whnf
  exact ⟨(r+1,N),hN,by show (cntI s ((j+1 : Nat) : Int) i').toNat-(r+1)<(cntI s ((j+1 : Nat) : Int) i').toNat-r; omega,zzj ⟨rfl,rfl,rfl,rfl,rfl,zaq (show r<r+1 by omega) (by omega),trivial⟩ ⟨mrf rfl,mrf rfl,mrf rfl,trivial⟩ (fun R hR=>hR)⟩
 | true =>
  rw [zxJ rfl] at hN;conv=>whnf
  refine ⟨by show N.length+1<=9223372036854775807/\(N.length+1)*24<=140737488355328; omega,?_⟩;conv=>whnf
  refine ⟨(r+1,N++[⟨j+1,i',r⟩]),by show (N++[_])++_=T; rw [zyF]; exact hN,by show (cntI s ((j+1 : Nat) : Int) i').toNat-(r+1)<(cntI s ((j+1 : Nat) : Int) i').toNat-r; omega,zzi (fun k=>bif Nat.beq k 10 then 44 else k) ⟨rfl,rfl,rfl,rfl,rfl,zaq (show r<r+1 by omega) (by omega),trivial⟩ ⟨mrf rfl,mrf rfl,⟨_,rfl,?_⟩,trivial⟩ rfl (fun R hR=>hR)⟩;rw [zz2,<-cl1]; exact .refl _
theorem zv7 (s : Sl) (x : Cel) (p : Cel->Bool) (T : List Cel) (hL : s.L.xs.length=s.X.xs.length) (hS : s.S.xs.length+1=s.X.xs.length) (hs : s.small) (hz : s.sz) (hzx : s.szX) (hk : x.k<4) (hx : (x.r : Int)<cntK s x.k x.c) (hF : ∀ d : Cel,d.k<4->(d.r : Int)<cntK s d.k d.c->FcOk s d)
  (hp : p=fun d=>decide (x∈zbf s d)) (hT : (zir s ((x.c : Int)-1) 2).filter p=T) (hn : T.length<=100000000) :
  FnM PP 27 [s.V,x.V] (facts s.F) (zcl zao 3 T.length (rowV Cel.C T) (.int .i64 0)):=by
 refine FnT.of zab mixed Tryz.func27 rfl rfl (zxW rfl) s.F_ok ?_;intro w hw;have his:=zeZ s x.k x.c x.r hL hS hs.1 hs.2.2.2.1 hs.2.2.2.2.1;rw [zdg hk,zz8 hx] at his;have hC:=zq3 s x p T hL hS hs hz hzx (zcm hs hk hx).1 hF hp hT hn;conv=>whnf
 refine cfs his ?_;conv=>whnf
 refine zzs 13 hC.enters (zzq hC rfl (fun R h=>h)) rfl rfl ?_;conv=>whnf
 exact ⟨13,rfl,rfl⟩
theorem zsu (s : Sl) (k c r : Int) (hL : s.L.xs.length=s.X.xs.length) (hS : s.S.xs.length+1=s.X.xs.length) (hs : s.small) (h : isI s k c r=false) :
  FnM PP 27 [s.V,.agg ⟨celC k c r⟩] (facts s.F) (zcl zao 3 0 (rowV Cel.C []) (.int .i64 6)):=by
 refine zzm zab mixed Tryz.func27 rfl rfl (zxW rfl) s.F_ok (fun w l st E w' hp hm=>zdD hp hm) ?_;intro w hw;have his:=zeZ s k c r hL hS hs.1 hs.2.2.2.1 hs.2.2.2.2.1;rw [h] at his;conv=>whnf
 refine cfs his ?_;conv=>whnf
 exact ⟨10,0,[],rfl,.inr ⟨_,rfl,rfl⟩,rfl,by decide,by decide,rfl⟩
theorem zrO (s : Sl) (x : Cel) (hL : s.L.xs.length=s.X.xs.length) (hS : s.S.xs.length+1=s.X.xs.length) (hs : s.small) (hz : s.sz) (hzx : s.szX) (hk : x.k<4) (hx : (x.r : Int)<cntK s x.k x.c) :
  FnM PP 23 [s.V,x.V] (facts s.F) (zaR (.tuple #[pV (PQ (cenP s x)),.int .i64 0])):=by
 refine zzo zab mixed Tryz.func23 rfl rfl (zxW rfl) s.F_ok ?_;intro w hw;have his:=zeZ s x.k x.c x.r hL hS hs.1 hs.2.2.2.1 hs.2.2.2.2.1;rw [zdg hk,zz8 hx] at his;have hC:=ziF s x hs hz hzx hk hx;conv=>whnf
 refine cfs his ?_;conv=>whnf
 refine cfs hC ?_;conv=>whnf
 exact zau rfl
theorem zoC (s : Sl) (k c r : Int) (hL : s.L.xs.length=s.X.xs.length) (hS : s.S.xs.length+1=s.X.xs.length) (hs : s.small) (h : isI s k c r=false) :
  FnM PP 23 [s.V,.agg ⟨celC k c r⟩] (facts s.F) (zaR (.tuple #[pV (PQ V0),.int .i64 6])):=by
 refine zzo zab mixed Tryz.func23 rfl rfl (zxW rfl) s.F_ok ?_;intro w hw;have his:=zeZ s k c r hL hS hs.1 hs.2.2.2.1 hs.2.2.2.2.1;rw [h] at his;conv=>whnf
 refine cfs his ?_;conv=>whnf
 refine zau ?_;rw [PQ,show V0.x=0 from rfl,show V0.y=0 from rfl,zd8]; rfl
theorem zuT (s : Sl) (x : Cel) (hL : s.L.xs.length=s.X.xs.length) (hS : s.S.xs.length+1=s.X.xs.length) (hs : s.small) (hk : x.k<3) (hx : (x.r : Int)<cntK s x.k x.c) :
  FnM PP 30 [s.V,x.V] (facts s.F) (zaR (.tuple #[qV (ziv s x),.int .i64 0])):=by
 refine zzo zab mixed Tryz.func30 rfl rfl (zxW rfl) s.F_ok ?_;intro w hw;have his:=zeZ s x.k x.c x.r hL hS hs.1 hs.2.2.2.1 hs.2.2.2.2.1;rw [zdg (by omega),zz8 hx] at his;rw [ziv,zxI (by omega),q0];conv=>whnf
 refine cfs his ?_;conv=>whnf
 refine zag (by show (!((x.k : Int)==3))=true; simp; omega) ?_;conv=>whnf
 exact zau rfl
theorem zt9 (s : Sl) (c r : Nat) (hL : s.L.xs.length=s.X.xs.length) (hS : s.S.xs.length+1=s.X.xs.length) (hs : s.small) (hz : s.sz) (hzx : s.szX) (hx : (r : Int)<cntK s 3 c) :
  FnM PP 30 [s.V,Cel.V ⟨3,c,r⟩] (facts s.F) (zaR (.tuple #[qV (ziv s ⟨3,c,r⟩),.int .i64 0])):=by
 refine zzo zab mixed Tryz.func30 rfl rfl (zxW rfl) s.F_ok ?_;intro w hw;have his:=zeZ s (3 : Nat) c r hL hS hs.1 hs.2.2.2.1 hs.2.2.2.2.1;rw [zdg (by omega),zz8 hx] at his;obtain ⟨t,x,y,h1,h2,h3,h4,h5⟩:=zaG (d:=1) hx;have hsm:=hs.1;have htl:=hs.2.2.2.2.1 t (zyq h1);have hw1 : ∀ {n : Nat},n<=1000000000->IntKind.i64.wrap ((n : Int)+1)=((n+1 : Nat) : Int):=fun h=>by rw [wrap_i64 (by omega) (by omega)]; rfl
 have zx:=hzx.X x (zyq h2);have zy:=hzx.X y (zyq h3);have zm : Sz KY ((x+y)/2):=((zx.add zy).div (show Sz 2 (2 : Rat) from ⟨by decide,by decide⟩)).le (by decide);have h6:=(zyz.1 h2).1;have h7:=(zyz.1 h3).1;have hAX : s.X.A.isSome=true:=zam (hw _ zBY) (by rw [zad zas]; omega);have jX : (0 : Int)<=(c : Int)/\(c : Int)<(s.X.xs.length : Int):=by omega
 have jX1 : 0<=IntKind.i64.wrap ((c : Int)+1)/\IntKind.i64.wrap ((c : Int)+1)<(s.X.xs.length : Int):=by rw [hw1 (by omega)]; omega
 have hh0:=zdp s c r t ((x+y)/2) hs hz h1 zm (by omega);have hh1:=zdp s c (r+1) t ((x+y)/2) hs hz h1 zm (by omega);rw [<-hw1 (n:=r) (by omega)] at hh1;have har : ziv s ⟨3,c,r⟩=(y-x)*((zaJ s t ((x+y)/2)).getD (r+1) 0-(zaJ s t ((x+y)/2)).getD r 0):=by
  simp only [ziv]; rw [zxJ trivial,zah h2,zah h3,zah h1,Rat.mul_comm]
 have zp:=(zfC hz (l:=t) (row:=r) zm).2;have zp':=(zfC hz (l:=t) (row:=r+1) zm).2;replace zp : Sz 400000 ((zaJ s t ((x+y)/2)).getD r 0):=zp;replace zp' : Sz 400000 ((zaJ s t ((x+y)/2)).getD (r+1) 0):=zp';rw [har];have hdx:=zex (Q y) (Q x) (zy.q.le (by decide)) (zx.q.le (by decide));have hmid:=zf3 x y (zx.le (by decide)) (zy.le (by decide));generalize (x+y)/2=z at hmid hh0 hh1 zp zp' ⊢;generalize (zaJ s t z).getD (r+1) 0=b at hh1 zp' ⊢;generalize (zaJ s t z).getD r 0=a at hh0 zp ⊢;have hsub:=zex (Q b) (Q a) (zp'.q.le (by decide)) (zp.q.le (by decide));have hmul:=ziD (Q (y-x)) (Q (b-a)) ((zy.sub zx).q.le (by decide)) ((zp'.sub zp).q.le (by decide))
 rw [Q_v,Q_v] at hsub hdx hmul;conv=>whnf
 refine cfs his ?_;conv=>whnf
 refine zak.qk ?_;conv=>whnf
 refine ⟨⟨jX.1,jX.2,hAX⟩,?_⟩;conv=>whnf
 refine zan.nat (A:=s.X.A) ratQ zas zBY rfl h2 ?_;obtain ⟨x',rfl⟩ : ∃ z,z=x:=⟨_,rfl⟩;conv=>whnf
 refine ⟨⟨jX1.1,jX1.2,hAX⟩,?_⟩;conv=>whnf
 refine zan.nat (A:=s.X.A) ratQ zas zBY (zyr (fun z : Int=>s.X.A.map (fun a=>a.add (z.toNat*3))) (hw1 (n:=c) (by omega))) h3 ?_;obtain ⟨y',rfl⟩ : ∃ z,z=y:=⟨_,rfl⟩;conv=>whnf
 refine cd hmid ?_;conv=>whnf
 refine zak.qk ?_;conv=>whnf
 refine ⟨⟨jX1.1,jX1.2,hAX⟩,?_⟩;conv=>whnf
 refine zan.nat (A:=s.X.A) ratQ zas zBY (zyr (fun z : Int=>s.X.A.map (fun a=>a.add (z.toNat*3))) (hw1 (n:=c) (by omega))) h3 ?_;obtain ⟨y2,rfl⟩ : ∃ z,z=y':=⟨_,rfl⟩;conv=>whnf
 refine ⟨⟨jX.1,jX.2,hAX⟩,?_⟩;conv=>whnf
 refine zan.nat (A:=s.X.A) ratQ zas zBY rfl h2 ?_;obtain ⟨x2,rfl⟩ : ∃ z,z=x':=⟨_,rfl⟩;conv=>whnf
 refine cd hdx ?_;conv=>whnf
 refine cds hh1 ?_;conv=>whnf
 refine cds hh0 ?_;conv=>whnf
 refine cd hsub ?_;conv=>whnf
 refine cd hmul ?_;conv=>whnf
 exact zau rfl
theorem zrr (s : Sl) (k c r : Int) (hL : s.L.xs.length=s.X.xs.length) (hS : s.S.xs.length+1=s.X.xs.length) (hs : s.small) (h : isI s k c r=false) :
  FnM PP 30 [s.V,.agg ⟨celC k c r⟩] (facts s.F) (zaR (.tuple #[qV 0,.int .i64 6])):=by
 refine zzo zab mixed Tryz.func30 rfl rfl (zxW rfl) s.F_ok ?_;intro w hw;have his:=zeZ s k c r hL hS hs.1 hs.2.2.2.1 hs.2.2.2.2.1;rw [h] at his;rw [q0];conv=>whnf
 refine cfs his ?_;conv=>whnf
 exact zau rfl
theorem zwq {a b p : V} (hab : a≠b) (hle : leP2 a b) : (decide (cmpQ ((b-a).cross (p-a)) 0=0)&&zep a b p)=zbW a b p:=by
 rw [zyV,zxV,zxY];constructor
 ·rintro ⟨h1,h2⟩;unfold zep at h2;rw [zxV,zxY,zxY,zb8,zb8] at h2;obtain ⟨t,ht,rfl⟩:=zre hab (zbt.1 h1) h2.1 h2.2;exact ztn hab ht.1 ht.2
 ·intro h;have h1 : cmpQ ((b-a).cross (p-a)) 0=0:=by
   unfold zbW at h;rw [zxV,zxY] at h;exact h.1
  obtain ⟨t,ht,rfl⟩:=zlP hab h;exact ⟨h1,by rw [<-zia hab hle]; exact zbX.2 ht⟩
theorem r_On (a b p : V) (hab : a≠b) (hle : leP2 a b) (ha : SzV KP a) (hb : SzV KP b) (hp : SzV 2000000 p) :
  Fn PP 84 [sV ⟨PQ a,PQ b⟩,pV (PQ p)] (.bool (zbW a b p)):=by
 refine zzn zab mixed Tryz.func84 rfl rfl (zxW rfl) ?_;intro w;have ho:=zni (PQ a) (PQ b) (PQ p) (ha.q.le (by decide)) (hb.q.le (by decide)) (hp.q.le (by decide));have hr:=zim ⟨PQ a,PQ b⟩ ⟨ha.q.le (by decide),hb.q.le (by decide)⟩;have hbt:=zhV ⟨PQ a,PQ b⟩ (PQ p) ⟨ha.q.le (by decide),hb.q.le (by decide)⟩ (hp.q.le (by decide));simp only [PQ_v] at ho hr hbt;rw [zhw hle] at hr;have he:=zwq (p:=p) hab hle;conv=>whnf
 refine zak.qk ?_;conv=>whnf
 refine cd ho ?_;conv=>whnf
 by_cases h0 : cmpQ ((b-a).cross (p-a)) 0=0;rotate_left
 ·refine zac (zBO.2 h0) ?_;rw [zz9 h0,Bool.false_and] at he;conv=>whnf
  rw [<-he];exact zaa rfl
 refine zag (zyY.2 h0) ?_;rw [zz8 h0,zCh] at he;conv=>whnf
 refine cd hr ?_;conv=>whnf
 refine cd hbt ?_;conv=>whnf
 rw [<-he];exact zaa rfl
theorem zl0 (s : Sl) (k c r : Int) (hL : s.L.xs.length=s.X.xs.length) (hS : s.S.xs.length+1=s.X.xs.length) (hs : s.small) (h : isI s k c r=false) :
  FnM PP 28 [s.V,.agg ⟨celC k c r⟩] (facts s.F) (zcl zaw 6 0 (rowV ptQ []) (.int .i64 6)):=by
 refine zzm zab mixed Tryz.func28 rfl rfl (zxW rfl) s.F_ok (fun w l st E w' hp hm=>zdD hp hm) ?_;intro w hw;have his:=zeZ s k c r hL hS hs.1 hs.2.2.2.1 hs.2.2.2.2.1;rw [h] at his;conv=>whnf
 refine cfs his ?_;conv=>whnf
 exact ⟨16,0,[],rfl,.inr ⟨_,rfl,rfl⟩,rfl,by decide,by decide,rfl⟩
theorem zuL (s : Sl) (k c r : Nat) (hk : k<2) (hL : s.L.xs.length=s.X.xs.length) (hS : s.S.xs.length+1=s.X.xs.length) (hs : s.small) (hx : (r : Int)<cntK s k c) :
  FnM PP 28 [s.V,Cel.V ⟨k,c,r⟩] (facts s.F) (zcl zaw 6 (crnL s ⟨k,c,r⟩).length (rowV ptQ (crnL s ⟨k,c,r⟩)) (.int .i64 0)):=by
 refine zzm zab mixed Tryz.func28 rfl rfl (zxW rfl) s.F_ok (fun w l st E w' hp hm=>zdD hp hm) ?_;intro w hw;have his:=zeZ s k c r hL hS hs.1 hs.2.2.2.1 hs.2.2.2.2.1;rw [zdg (by omega),zz8 hx] at his;have hsm:=hs.1;have hs4:=hs.2.2.2.1;have hw1 : ∀ {n : Nat},n<=1000000000->IntKind.i64.wrap ((n : Int)+1)=((n+1 : Nat) : Int):=fun h=>by rw [wrap_i64 (by omega) (by omega)]; rfl
 have hk' : k=0\/k=1:=by omega
 rcases hk' with rfl | rfl
 all_goals
  obtain ⟨l,x,h1,h2,h3⟩:=zaZ hx;obtain ⟨y,hy⟩ : ∃ y,l.xs[r]?=some y:=⟨_,zyy (by omega)⟩;have h4:=(zyz.1 h1).1;have h5:=(zyz.1 h2).1;have hlm:=zyq h1;have hll:=hs4 l hlm;have hAX : s.X.A.isSome=true:=zam (hw _ zBY) (by rw [zad zas]; omega);have jX : (0 : Int)<=(c : Int)/\(c : Int)<(s.X.xs.length : Int):=by omega
  have jL : (0 : Int)<=(c : Int)/\(c : Int)<(s.L.xs.length : Int):=by omega
  have jl : (0 : Int)<=(r : Int)/\(r : Int)<(l.xs.length : Int):=by omega
  have jl1 : r+1<l.xs.length->0<=IntKind.i64.wrap ((r : Int)+1)/\IntKind.i64.wrap ((r : Int)+1)<(l.xs.length : Int):=fun h=>by rw [hw1 (by omega)]; omega
  have hAL : s.L.A.isSome=true:=zam (hw _ zBW) (by rw [zad zBT]; omega);have hAl : l.A.isSome=true:=zam (hw _ (zBZ hlm)) (by rw [zad zas]; omega);have hgl : (s.L.xs.map (·.xs))[c]?=some l.xs:=by rw [zx4,h1]; rfl
  conv=>whnf
  refine cfs his ?_;conv=>whnf
  refine ⟨⟨jX.1,jX.2,hAX⟩,?_⟩;conv=>whnf
  refine zan.nat (A:=s.X.A) ratQ zas zBY rfl h2 ?_;obtain ⟨x',rfl⟩ : ∃ z,z=x:=⟨_,rfl⟩;conv=>whnf
  refine zak.qk ?_;conv=>whnf
  refine ⟨⟨jL.1,jL.2,hAL⟩,?_⟩;conv=>whnf
  refine zzR (A:=s.L.A) (xs:=s.L.xs) (j:=(c : Int)) Ln.C zBT zBW rfl (by rw [zzS]; omega) (by decide) (fun _=>rfl) ?_;intro l' hl';obtain rfl:=zbB hl' h1;conv=>whnf
  refine ⟨⟨jl.1,jl.2,hAl⟩,?_⟩;conv=>whnf
  refine zan.nat (A:=l'.A) ratQ zas (zBZ hlm) rfl hy ?_;obtain ⟨y',rfl⟩ : ∃ z,z=y:=⟨_,rfl⟩;conv=>whnf
 ·rw [show crnL s ⟨0,c,r⟩=[⟨x',y'⟩] by simp only [crnL]; rw [zah h2,zah hgl,zah hy]];exact ⟨39,1,[],rfl,.inr ⟨_,rfl,rfl⟩,rfl,zxr 1,by decide,rfl⟩
 ·obtain ⟨z,hz⟩ : ∃ y,l'.xs[r+1]?=some y:=⟨_,zyy (by omega)⟩;refine ⟨⟨jL.1,jL.2,hAL⟩,?_⟩;conv=>whnf
  refine zzR (A:=s.L.A) (xs:=s.L.xs) (j:=(c : Int)) Ln.C zBT zBW rfl (by rw [zzS]; omega) (by decide) (fun _=>rfl) ?_;intro l2 hl2;obtain rfl:=zbB hl2 h1;conv=>whnf
  refine ⟨⟨(jl1 (by omega)).1,(jl1 (by omega)).2,hAl⟩,?_⟩;conv=>whnf
  refine zan.nat (A:=l2.A) ratQ zas (zBZ hlm) (zyr (fun z : Int=>l2.A.map (fun a=>a.add (z.toNat*3))) (hw1 (n:=r) (by omega))) hz ?_;obtain ⟨z',rfl⟩ : ∃ q,q=z:=⟨_,rfl⟩;conv=>whnf
  rw [show crnL s ⟨1,c,r⟩=[⟨x',y'⟩,⟨x',z'⟩] by simp only [crnL]; rw [zah h2,zah hgl,zah hy,zah hz]];exact ⟨65,2,[],rfl,.inr ⟨_,rfl,rfl⟩,rfl,zxr 2,by decide,rfl⟩
theorem zu4 (s : Sl) (c r : Nat) (hL : s.L.xs.length=s.X.xs.length) (hS : s.S.xs.length+1=s.X.xs.length) (hs : s.small) (hz : s.sz) (hzx : s.szX) (hx : (r : Int)<cntK s 2 c) :
  FnM PP 28 [s.V,Cel.V ⟨2,c,r⟩] (facts s.F) (zcl zaw 6 (crnL s ⟨2,c,r⟩).length (rowV ptQ (crnL s ⟨2,c,r⟩)) (.int .i64 0)):=by
 refine zzm zab mixed Tryz.func28 rfl rfl (zxW rfl) s.F_ok (fun w l st E w' hp hm=>zdD hp hm) ?_;intro w hw;have his:=zeZ s (2 : Nat) c r hL hS hs.1 hs.2.2.2.1 hs.2.2.2.2.1;rw [zdg (by omega),zz8 hx] at his;obtain ⟨t,x,y,h1,h2,h3,h4,h5⟩:=zaG (d:=2) hx;have hsm:=hs.1;have htl:=hs.2.2.2.2.1 t (zyq h1);have hw1 : ∀ {n : Nat},n<=1000000000->IntKind.i64.wrap ((n : Int)+1)=((n+1 : Nat) : Int):=fun h=>by rw [wrap_i64 (by omega) (by omega)]; rfl
 have zx:=hzx.X x (zyq h2);have zy:=hzx.X y (zyq h3);have h6:=(zyz.1 h2).1;have h7:=(zyz.1 h3).1;have hAX : s.X.A.isSome=true:=zam (hw _ zBY) (by rw [zad zas]; omega);have jX : (0 : Int)<=(c : Int)/\(c : Int)<(s.X.xs.length : Int):=by omega
 have jX1 : 0<=IntKind.i64.wrap ((c : Int)+1)/\IntKind.i64.wrap ((c : Int)+1)<(s.X.xs.length : Int):=by rw [hw1 (by omega)]; omega
 have hh0:=zdp s c r t x hs hz h1 (zx.le (by decide)) (by omega);have hh1:=zdp s c r t y hs hz h1 (zy.le (by decide)) (by omega);rw [show crnL s ⟨2,c,r⟩=[onP s t r x,onP s t r y] by simp only [crnL]; rw [zah h2,zah h3,zah h1]];conv=>whnf
 refine cfs his ?_;conv=>whnf
 refine ⟨⟨jX.1,jX.2,hAX⟩,?_⟩;conv=>whnf
 refine zan.nat (A:=s.X.A) ratQ zas zBY rfl h2 ?_;obtain ⟨x',rfl⟩ : ∃ z,z=x:=⟨_,rfl⟩;conv=>whnf
 refine ⟨⟨jX1.1,jX1.2,hAX⟩,?_⟩;conv=>whnf
 refine zan.nat (A:=s.X.A) ratQ zas zBY (zyr (fun z : Int=>s.X.A.map (fun a=>a.add (z.toNat*3))) (hw1 (n:=c) (by omega))) h3 ?_;obtain ⟨y',rfl⟩ : ∃ z,z=y:=⟨_,rfl⟩;conv=>whnf
 refine zak.qk ?_;conv=>whnf
 refine cds hh0 ?_;conv=>whnf
 refine cds hh1 ?_;conv=>whnf
 exact ⟨88,2,[],rfl,.inr ⟨_,rfl,rfl⟩,rfl,zxr 2,by decide,rfl⟩
def crR (s : Sl) (t : Ln Nat) (r : Nat) (x y : Rat) : List V :=
 [onP s t r x,onP s t r y]++((if (onP s t (r+1) y).y=(onP s t r y).y then [] else [onP s t (r+1) y])++(if (onP s t (r+1) x).y=(onP s t r x).y then [] else [onP s t (r+1) x]))
theorem zvc {s : Sl} {t : Ln Nat} {r : Nat} {x y : Rat} (h : x≠y) : crn3 s t r x y=crR s t r x y:=by
 unfold crn3 crR;have e1 : ∀ a : Nat,(onP s t a x).x=x:=fun _=>rfl
 have e2 : ∀ a : Nat,(onP s t a y).x=y:=fun _=>rfl
 have n1 : onP s t r y≠onP s t r x:=fun k=>h (by have:=zyr V.x k; rw [e1,e2] at this; exact this.symm)
 have n2 : onP s t (r+1) y≠onP s t (r+1) x:=fun k=>h (by have:=zyr V.x k; rw [e1,e2] at this; exact this.symm)
 have n3 : onP s t (r+1) x≠onP s t r y:=fun k=>h (by have:=zyr V.x k; rw [e1,e2] at this; exact this)
 have m1 : onP s t (r+1) y=onP s t r y↔(onP s t (r+1) y).y=(onP s t r y).y:=⟨fun k=>by rw [k],fun k=>zBz rfl k⟩;have m2 : onP s t (r+1) x=onP s t r x↔(onP s t (r+1) x).y=(onP s t r x).y:=⟨fun k=>by rw [k],fun k=>zBz rfl k⟩;have n4 : onP s t r x≠onP s t (r+1) y:=fun k=>h (by have:=zyr V.x k; rw [e1,e2] at this; exact this)
 by_cases h1 : onP s t (r+1) y=onP s t r y
 ·rw [zxJ (m1.1 h1)];by_cases h2 : onP s t (r+1) x=onP s t r x
  ·rw [zxJ (m2.1 h2),h1,h2];simp only [ddp,ddpG,zxI n1,if_true,zxI n1.symm];rw [unw,zxJ ⟨show 1<3 by decide,rfl⟩];rfl
  ·rw [zxI (fun k=>h2 (m2.2 k)),h1];simp only [ddp,ddpG,zxI n1,if_true,zxI n3];rw [unw,zxI (fun k=>h2 (by have:=k.2; simpa using this.symm))];rfl
 ·rw [zxI (fun k=>h1 (m1.2 k))];by_cases h2 : onP s t (r+1) x=onP s t r x
  ·rw [zxJ (m2.1 h2),h2];simp only [ddp,ddpG,zxI n1,zxI h1,zxI n4];rw [unw,zxJ ⟨show 1<4 by decide,rfl⟩];rfl
  ·rw [zxI (fun k=>h2 (m2.2 k))];simp only [ddp,ddpG,zxI n1,zxI h1,zxI n2.symm];rw [unw,zxI (fun k=>h2 (by have:=k.2; simpa using this.symm))];rfl
theorem zva (s : Sl) (c r : Nat) (hL : s.L.xs.length=s.X.xs.length) (hS : s.S.xs.length+1=s.X.xs.length) (hs : s.small) (hz : s.sz) (hzx : s.szX) (hx : (r : Int)<cntK s 3 c) (hne : ∀ x y,s.X.xs[c]?=some x->s.X.xs[c+1]?=some y->x≠y) :
  FnM PP 28 [s.V,Cel.V ⟨3,c,r⟩] (facts s.F) (zcl zaw 6 (crnL s ⟨3,c,r⟩).length (rowV ptQ (crnL s ⟨3,c,r⟩)) (.int .i64 0)):=by
 refine zzl zab mixed Tryz.func28 rfl rfl (zxW rfl) s.F_ok (fun w l st E w' hp hm=>zeU hp hm) ?_;intro w hw;have his:=zeZ s (3 : Nat) c r hL hS hs.1 hs.2.2.2.1 hs.2.2.2.2.1;rw [zdg (by omega),zz8 hx] at his;obtain ⟨t,x,y,h1,h2,h3,h4,h5⟩:=zaG (d:=1) hx;have hsm:=hs.1;have htl:=hs.2.2.2.2.1 t (zyq h1);have hw1 : ∀ {n : Nat},n<=1000000000->IntKind.i64.wrap ((n : Int)+1)=((n+1 : Nat) : Int):=fun h=>by rw [wrap_i64 (by omega) (by omega)]; rfl
 have zx:=hzx.X x (zyq h2);have zy:=hzx.X y (zyq h3);have h6:=(zyz.1 h2).1;have h7:=(zyz.1 h3).1;have hAX : s.X.A.isSome=true:=zam (hw _ zBY) (by rw [zad zas]; omega);have jX : (0 : Int)<=(c : Int)/\(c : Int)<(s.X.xs.length : Int):=by omega
 have jX1 : 0<=IntKind.i64.wrap ((c : Int)+1)/\IntKind.i64.wrap ((c : Int)+1)<(s.X.xs.length : Int):=by rw [hw1 (by omega)]; omega
 have hh0:=zdp s c r t x hs hz h1 (zx.le (by decide)) (by omega);have hh1:=zdp s c r t y hs hz h1 (zy.le (by decide)) (by omega);have hg0:=zdp s c (r+1) t x hs hz h1 (zx.le (by decide)) (by omega);have hg1:=zdp s c (r+1) t y hs hz h1 (zy.le (by decide)) (by omega);rw [<-hw1 (n:=r) (by omega)] at hg0 hg1;rw [show crnL s ⟨3,c,r⟩=crR s t r x y by rw [<-zvc (hne x y h2 h3)]; simp only [crnL]; rw [zah h2,zah h3,zah h1],crR,onP,onP,onP,onP];have n1:=hne x y h2 h3;generalize (zaJ s t x).getD r 0=a at hh0 ⊢;generalize (zaJ s t y).getD r 0=b at hh1 ⊢;generalize (zaJ s t x).getD (r+1) 0=d at hg0 ⊢;generalize (zaJ s t y).getD (r+1) 0=e at hg1 ⊢
 refine zy9 zab mixed ?_;conv=>whnf
 refine zy9 zab mixed ?_;conv=>whnf
 refine cfs his ?_;conv=>whnf
 refine zy9 zab mixed ?_;conv=>whnf
 refine zy9 zab mixed ?_;conv=>whnf
 refine ⟨⟨jX.1,jX.2,hAX⟩,?_⟩;conv=>whnf
 refine zan.nat (A:=s.X.A) ratQ zas zBY rfl h2 ?_;obtain ⟨x',rfl⟩ : ∃ z,z=x:=⟨_,rfl⟩;conv=>whnf
 refine zy9 zab mixed ?_;conv=>whnf
 refine zy9 zab mixed ?_;conv=>whnf
 refine ⟨⟨jX1.1,jX1.2,hAX⟩,?_⟩;conv=>whnf
 refine zan.nat (A:=s.X.A) ratQ zas zBY (zyr (fun z : Int=>s.X.A.map (fun a=>a.add (z.toNat*3))) (hw1 (n:=c) (by omega))) h3 ?_;obtain ⟨y',rfl⟩ : ∃ z,z=y:=⟨_,rfl⟩;conv=>whnf
 refine zy9 zab mixed ?_;conv=>whnf
 refine zak.qk ?_;conv=>whnf
 refine cds hh0 ?_;conv=>whnf
 refine cds hh1 ?_;conv=>whnf
 refine zy8 ?_ (SLe.own 9 88 4 zaw 6 2 rfl rfl rfl rfl (by decide) rfl rfl);refine zy9 zab mixed ?_;conv=>whnf
 refine zy7 zab mixed ?_;conv=>whnf
 refine cfs hg1 ?_;conv=>whnf
 refine zak.qk ?_;conv=>whnf
 refine ⟨⟨by decide,show (1 : Int)<2 by decide⟩,?_⟩;conv=>whnf
 refine ⟨by decide,?_⟩;conv=>whnf
 refine zbi.fld (xs:=[(⟨x',a⟩ : V),⟨y',b⟩]) (x:=⟨y',b⟩) (j:=1) (o:=3) (m:=3) ptQ za9 rfl rfl (by decide) (by decide) (fun h=>by cases h) ?_;conv=>whnf
 by_cases he : e=b
 ·refine zac (zyr (!·) ((eqRV e b).trans (zz8 he))) ?_;rw [zxJ he];conv=>whnf
  refine cfs hg0 ?_;conv=>whnf
  refine zak.qk ?_;conv=>whnf
  refine ⟨⟨by decide,show (0 : Int)<2 by decide⟩,?_⟩;conv=>whnf
  refine ⟨show 0<2 by decide,?_⟩;conv=>whnf
  refine zbi.fld (xs:=[(⟨x',a⟩ : V),⟨y',b⟩]) (x:=⟨x',a⟩) (j:=0) (o:=3) (m:=3) ptQ za9 rfl rfl (by decide) (by decide) (fun h=>by cases h) ?_;conv=>whnf
  by_cases hd : d=a
  ·refine zac (zyr (!·) ((eqRV d a).trans (zz8 hd))) ?_;rw [zxJ hd];conv=>whnf
   exact ⟨4,rfl,rfl⟩
  ·refine zag (zyr (!·) ((eqRV d a).trans (zz9 hd))) ?_;rw [zxI hd];conv=>whnf
   refine ⟨by decide,?_⟩;conv=>whnf
   exact ⟨130,rfl,rfl⟩
 ·refine zag (zyr (!·) ((eqRV e b).trans (zz9 he))) ?_;rw [zxI he];conv=>whnf
  refine ⟨by decide,?_⟩;conv=>whnf
  refine cfs hg0 ?_;conv=>whnf
  refine zak.qk ?_;conv=>whnf
  refine ⟨⟨by decide,show (0 : Int)<3 by decide⟩,?_⟩;conv=>whnf
  refine ⟨show 0<3 by decide,?_⟩;conv=>whnf
  refine zbi.fld (xs:=[(⟨x',a⟩ : V),⟨y',b⟩,⟨y',e⟩]) (x:=⟨x',a⟩) (j:=0) (o:=3) (m:=3) ptQ za9 rfl rfl (by decide) (by decide) (fun h=>by cases h) ?_;conv=>whnf
  by_cases hd : d=a
  ·refine zac (zyr (!·) ((eqRV d a).trans (zz8 hd))) ?_;rw [zxJ hd];conv=>whnf
   exact ⟨111,rfl,rfl⟩
  ·refine zag (zyr (!·) ((eqRV d a).trans (zz9 hd))) ?_;rw [zxI hd];conv=>whnf
   refine ⟨by decide,?_⟩;conv=>whnf
   exact ⟨130,rfl,rfl⟩
def covN (P : List (V×V)) (p : V) (i : Nat) : Bool:=match P[i]? with
 | none=>false
 | some e=>!decide (e.1=e.2)&&zbW e.1 e.2 p
theorem zvd {lo hi : V} {e : V×V} : leP2 (clE lo hi e).1 (clE lo hi e).2:=by
 have hr : ∀ a : V,leP2 a a:=fun a=>zb8.1 (by rw [zaI.2 rfl]; decide)
 have ho : ∀ a b : V,leP2 (ordV a b).1 (ordV a b).2:=fun a b=>by
  unfold ordV;split
  ·rename_i h; exact zb8.1 (by rw [zmy]; show -cmpV a b<=0; omega)
  ·rename_i h; exact zb8.1 (by show cmpV a b<=0; omega)
 unfold clE;split
 ·exact hr _
 ·split
  ·exact hr _
  ·exact ho _ _
theorem zue {lo hi : V} {e : V×V} (hlo : SzV K0 lo) (hhi : SzV K0 hi) (he : SzV K0 e.1/\SzV K0 e.2) : SzV KP (clE lo hi e).1/\SzV KP (clE lo hi e).2:=by
 have z0 : SzV KP V0:=⟨(show Sz 1 (0 : Rat) from ⟨by decide,by decide⟩).le (by decide),(show Sz 1 (0 : Rat) from ⟨by decide,by decide⟩).le (by decide)⟩;unfold clE;split
 ·exact ⟨z0,z0⟩
 ·rename_i c d h;split
  ·exact ⟨z0,z0⟩
  ·obtain ⟨z1,z2⟩:=zfs hlo hhi he.1 he.2 h;exact zlV z1 z2
theorem ztG (s : Sl) (x : Cel) (p : V) (T : List Nat) (hL : s.L.xs.length=s.X.xs.length) (hS : s.S.xs.length+1=s.X.xs.length) (hs : s.small) (hz : s.sz) (hzx : s.szX) (hk : x.k<4) (hx : (x.r : Int)<cntK s x.k x.c)
  (hlx : s.lo.x<=s.hi.x) (hly : s.lo.y<=s.hi.y) (hl : s.sg.xs.length<=400) (hp : cenP s x=p) (hpz : SzV 2000000 p) (hT : (List.range s.sg.xs.length).filter (covN (s.sg.xs.map (clE s.lo s.hi)) p)=T) :
  FnM PP 31 [s.V,x.V] (facts s.F) (zcl zbw 1 T.length (rowV intC T) (.int .i64 0)):=by
 refine FnT.of zab mixed Tryz.func31 rfl rfl (zxW rfl) s.F_ok ?_;intro w hw;have his:=zeZ s x.k x.c x.r hL hS hs.1 hs.2.2.2.1 hs.2.2.2.2.1;rw [zdg hk,zz8 hx] at his;have hC:=ziF s x hs hz hzx hk hx;rw [hp] at hC;have hcl:=zkC s.lo s.hi s.sg.A s.sg.c s.sg.xs hz.lo hz.hi hlx hly hz.sg hl;obtain ⟨P,hP⟩ : ∃ P,P=s.sg.xs.map (clE s.lo s.hi):=⟨_,rfl⟩;obtain ⟨n,hn⟩ : ∃ n,n=s.sg.xs.length:=⟨_,rfl⟩;have hPl : P.length=n:=by rw [hP,zyA,hn]
 have hPo : ∀ e∈P,leP2 e.1 e.2/\SzV KP e.1/\SzV KP e.2:=fun e he=>by
  rw [hP] at he;obtain ⟨e0,he0,rfl⟩:=zx1.1 he;exact ⟨zvd,zue hz.lo hz.hi (hz.sg e0 he0).1⟩
 rw [<-hP,<-hn] at hT;rw [<-hn] at hl;have hcl' : FnM PP 46 [bxV ⟨PQ s.lo,PQ s.hi⟩,.slice s.sg.A s.sg.xs.length s.sg.c] (facts [zai s.sg.A (rowV sgq s.sg.xs)]) (zbD za8 12 n (rowV sgq P)):=by rw [hP,hn]; exact hcl
 clear hcl;obtain ⟨F,hF⟩ : ∃ F : Nat->List Nat,F=fun i=>(List.range i).filter (covN P p):=⟨_,rfl⟩
 have F0 : F 0=[]:=by rw [hF]; rfl
 have Fs : ∀ i,F (i+1)=F i++if covN P p i then [i] else []:=fun i=>by
  rw [hF]; show (List.range (i+1)).filter _=_;rw [zAX,zCf,zCg]; rfl
 have FT : F n=T:=by rw [hF]; exact hT
 have Fl : ∀ i,(F i).length<=i:=fun i=>by rw [hF]; exact zxs (zCe _ _) (by rw [zB2]; omega)
 clear hF hT hP;conv=>whnf
 refine cfs his ?_;conv=>whnf
 refine cfs hC ?_;conv=>whnf
 refine zzs 23 hcl'.enters (zzq hcl' rfl (fun R hR=>by rw [zyZ.1 hR]; exact Sl.F_sg)) rfl rfl ?_;conv=>whnf
 refine zal (ι:=Nat) (fun i=>⟨[(6,.o (.w 10)),(7,.o (.p 7 0)),(8,.o (.w 23)),(9,.o (.v (.int .i64 i)))],[(7,ptB (PQ p)),(10,.own zbw 1 (F i).length (rowV intC (F i))),(23,.own za8 12 n (rowV sgq P))],s.F⟩)
  (fun i=>i<=n) (fun i=>n-i) 0 (zyD _)
  ((zCa 6 10 11 zbw 1 rfl rfl rfl).trans (zzi (fun k=>bif Nat.beq k 10 then 11 else k) ⟨rfl,rfl,rfl,rfl,trivial⟩ ⟨mrf rfl,⟨_,rfl,by rw [F0]; exact .refl _⟩,mrf rfl,trivial⟩ rfl (fun R hR=>hR))) ?_
 intro i hi0;have hFi:=Fl i;conv=>whnf
 by_cases hin : i<n;rotate_left
 ·refine zac (zz9 (show ¬(i : Int)<(n : Int) by omega)) ?_;have hi0 : i<=n:=hi0;obtain rfl : i=n:=by omega
  rw [FT];conv=>whnf
  exact ⟨10,rfl,rfl⟩
 refine zag (zz8 (show (i : Int)<(n : Int) by omega)) ?_;obtain ⟨e,he⟩ : ∃ e,P[i]?=some e:=⟨_,zyy (by omega)⟩;obtain ⟨ho,za,zb⟩:=hPo e (zyq he);have hcv : covN P p i=(!decide (e.1=e.2)&&zbW e.1 e.2 p):=by rw [covN,he]
 have hFs:=Fs i;rw [hcv] at hFs;clear hcv;conv=>whnf
 refine zak.qk ?_;conv=>whnf
 refine ⟨by show (0 : Int)<=(i : Int)/\(i : Int)<n; omega,?_⟩;conv=>whnf
 refine zzT sgq zaT (k:=i) (by show (i : Int).toNat*12=i*12; rw [zzS]) (by omega) (by decide) (fun h=>by cases h) ?_;intro e' he';obtain rfl : e'=e:=by rw [he] at he'; exact (zz1 he').symm
 conv=>whnf
 refine cd (zlg e'.1 e'.2) ?_;conv=>whnf
 by_cases hne : e'.1=e'.2
 ·refine zac (zyr (!·) (zz8 hne)) ?_;rw [zz8 hne,Bool.not_true,Bool.false_and,zxI (by decide),zyP] at hFs;conv=>whnf
  refine ⟨i+1,by show i+1<=n; omega,by show n-(i+1)<n-i; omega,zzj ⟨rfl,rfl,rfl,zaq hin (by omega),trivial⟩ ⟨mrf rfl,⟨_,rfl,by rw [hFs]; exact .refl _⟩,mrf rfl,trivial⟩ (fun R hR=>hR)⟩
 refine zag (zyr (!·) (zz9 hne)) ?_;rw [zz9 hne,Bool.not_false,zCh] at hFs;conv=>whnf
 refine ⟨by show (0 : Int)<=(i : Int)/\(i : Int)<n; omega,?_⟩;conv=>whnf
 refine zzT sgq zaT (k:=i) (by show (i : Int).toNat*12=i*12; rw [zzS]) (by omega) (by decide) (fun h=>by cases h) ?_;intro e2 he2;obtain rfl : e2=e':=by rw [he] at he2; exact (zz1 he2).symm
 conv=>whnf
 refine cd (r_On e2.1 e2.2 p hne ho za zb hpz) ?_
 cases hb : zbW e2.1 e2.2 p with
 | false =>
  rw [hb,zxI (by decide),zyP] at hFs;conv=>whnf
  refine ⟨i+1,by show i+1<=n; omega,by show n-(i+1)<n-i; omega,zzj ⟨rfl,rfl,rfl,zaq hin (by omega),trivial⟩ ⟨mrf rfl,⟨_,rfl,by rw [hFs]; exact .refl _⟩,mrf rfl,trivial⟩ (fun R hR=>hR)⟩
 | true =>
  rw [hb,zxJ rfl] at hFs;conv=>whnf
  refine ⟨by show (F i).length+1<=9223372036854775807/\((F i).length+1)*8<=140737488355328; omega,?_⟩;conv=>whnf
  refine ⟨i+1,by show i+1<=n; omega,by show n-(i+1)<n-i; omega,zzi (fun k=>bif Nat.beq k 10 then 47 else k) ⟨rfl,rfl,rfl,zaq hin (by omega),trivial⟩ ⟨mrf rfl,⟨_,rfl,?_⟩,mrf rfl,trivial⟩ rfl (fun R hR=>hR)⟩;rw [hFs,<-int1,zz2]; exact .refl _
theorem zo7 (s : Sl) (k c r : Int) (hL : s.L.xs.length=s.X.xs.length) (hS : s.S.xs.length+1=s.X.xs.length) (hs : s.small) (h : isI s k c r=false) :
  FnM PP 31 [s.V,.agg ⟨celC k c r⟩] (facts s.F) (zcl zbw 1 0 (rowV intC []) (.int .i64 6)):=by
 refine zzm zab mixed Tryz.func31 rfl rfl (zxW rfl) s.F_ok (fun w l st E w' hp hm=>zdD hp hm) ?_;intro w hw;have his:=zeZ s k c r hL hS hs.1 hs.2.2.2.1 hs.2.2.2.2.1;rw [h] at his;conv=>whnf
 refine cfs his ?_;conv=>whnf
 exact ⟨10,0,[],rfl,.inr ⟨_,rfl,rfl⟩,rfl,by decide,by decide,rfl⟩
theorem zkL (s : Sl) (k c r : Int) (hs : s.small) (h : isI s k c r=false) :
  FnM PP 16 [s.V,.agg ⟨celC k c r⟩] (facts s.F) (zaR (.tuple #[pV (PQ V0),.int .i64 6])):=by
 refine zzo zab mixed Tryz.func16 rfl rfl (zxW rfl) s.F_ok ?_;intro w hw;have his:=zfb s k c r hs;rw [h] at his;conv=>whnf
 refine cfs his ?_;conv=>whnf
 refine zau ?_;rw [PQ,show V0.x=0 from rfl,show V0.y=0 from rfl,zd8]; rfl
theorem zoH (s : Sl) (k c r : Int) (hs : s.small) (h : isI s k c r=false) :
  FnM PP 29 [s.V,.agg ⟨celC k c r⟩] (facts s.F) (zaR (.tuple #[qV 0,.int .i64 6])):=by
 refine zzo zab mixed Tryz.func29 rfl rfl (zxW rfl) s.F_ok ?_;intro w hw;have his:=zfb s k c r hs;rw [h] at his;rw [q0];conv=>whnf
 refine cfs his ?_;conv=>whnf
 exact zau rfl
theorem zmk (s : Sl) (k c r : Int) (hs : s.small) (h : isI s k c r=false) :
  FnM PP 24 [s.V,.agg ⟨celC k c r⟩] (facts s.F) (zcl zao 3 0 (rowV Cel.C []) (.int .i64 6)):=by
 refine zzm zab mixed Tryz.func24 rfl rfl (zxW rfl) s.F_ok (post:=fun l st=>l=[.o (.v nilV),.o (.v (.int .i64 6))]) (fun w l st E w' hp hm=>by subst hp; exact ⟨_,rfl,zyQ _ _ _ _,hm.ext.below⟩) ?_;intro w hw;have his:=zfb s k c r hs;rw [h] at his;conv=>whnf
 refine cfs his ?_;conv=>whnf
theorem zn6 (s : Sl) (k c r : Int) (hs : s.small) (h : isI s k c r=false) :
  FnM PP 26 [s.V,.agg ⟨celC k c r⟩] (facts s.F) (zcl zao 3 0 (rowV Cel.C []) (.int .i64 6)):=by
 refine zzm zab mixed Tryz.func26 rfl rfl (zxW rfl) s.F_ok (post:=fun l st=>l=[.o (.v nilV),.o (.v (.int .i64 6))]) (fun w l st E w' hp hm=>by subst hp; exact ⟨_,rfl,zyQ _ _ _ _,hm.ext.below⟩) ?_;intro w hw;have his:=zfb s k c r hs;rw [h] at his;conv=>whnf
 refine cfs his ?_;conv=>whnf
theorem zjF (s : Sl) (k c r : Int) (hs : s.small) (h : isI s k c r=false) :
  FnM PP 15 [s.V,.agg ⟨celC k c r⟩] (facts s.F) (zcl zaw 6 0 (rowV ptQ []) (.int .i64 6)):=by
 refine zzm zab mixed Tryz.func15 rfl rfl (zxW rfl) s.F_ok (post:=fun l st=>l=[.o (.v nilV),.o (.v (.int .i64 6))]) (fun w l st E w' hp hm=>by subst hp; exact ⟨_,rfl,zyQ _ _ _ _,hm.ext.below⟩) ?_;intro w hw;have his:=zfb s k c r hs;rw [h] at his;conv=>whnf
 refine cfs his ?_;conv=>whnf
theorem zml (s : Sl) (k c r : Int) (hs : s.small) (h : isI s k c r=false) :
  FnM PP 17 [s.V,.agg ⟨celC k c r⟩] (facts s.F) (zcl zbw 1 0 (rowV intC []) (.int .i64 6)):=by
 refine zzm zab mixed Tryz.func17 rfl rfl (zxW rfl) s.F_ok (post:=fun l st=>l=[.o (.v nilV),.o (.v (.int .i64 6))]) (fun w l st E w' hp hm=>by subst hp; exact ⟨_,rfl,zyQ _ _ _ _,hm.ext.below⟩) ?_;intro w hw;have his:=zfb s k c r hs;rw [h] at his;conv=>whnf
 refine cfs his ?_;conv=>whnf
theorem zwh (A B : Option Addr) (c d : Nat) (xs ys : List V) (hx : xs.length<=1000000) :
  FnM PP 34 [.slice A xs.length c,.slice B ys.length d] (facts [zai A (rowV ptQ xs),zai B (rowV ptQ ys)]) (zaR (.bool (decide (xs=ys)))):=by
 refine zzo zab mixed Tryz.func34 rfl rfl (zxW rfl) (fun R hR=>by simp only [zy1,zBL,or_false] at hR; rcases hR with rfl | rfl <;> exact zzk _ _) ?_;intro w hw;have hA : 0<xs.length->A.isSome=true:=fun h=>zam (zbz hw).1 (by rw [zad za9]; omega)
 have hB : 0<ys.length->B.isSome=true:=fun h=>zam (zbz hw).2 (by rw [zad za9]; omega)
 conv=>whnf
 by_cases hl : xs.length=ys.length;rotate_left
 ·refine zag (show (!((xs.length : Int)==(ys.length : Int)))=true by rw [zzh,zBO]; omega) ?_;conv=>whnf
  refine zaa (zyr Value.bool ?_);rw [zz9 (fun h=>hl (by rw [h]))]
 refine zac (show (!((xs.length : Int)==(ys.length : Int)))=false by rw [zyM,zyY]; omega) ?_;conv=>whnf
 refine zal (ι:=Nat) (fun i=>⟨[(0,.o (.v (.slice A xs.length c))),(1,.o (.v (.slice B ys.length d))),(12,.o (.v (.int .i64 xs.length))),(13,.o (.v (.int .i64 i)))],[],[zai A (rowV ptQ xs),zai B (rowV ptQ ys)]⟩)
  (fun i=>i<=xs.length/\xs.take i=ys.take i) (fun i=>xs.length-i) 0 ⟨zyD _,rfl⟩
  (zzj ⟨rfl,rfl,rfl,rfl,trivial⟩ trivial (fun R hR=>hR)) ?_
 rintro i ⟨hi0,hi1⟩;conv=>whnf
 by_cases hi : i<xs.length;rotate_left
 ·refine zac (zz9 (show ¬(i : Int)<(xs.length : Int) by omega)) ?_;rw [zyJ (by omega),zyJ (by omega)] at hi1;conv=>whnf
  exact zaa (zyr Value.bool (zz8 hi1).symm)
 refine zag (zz8 (show (i : Int)<(xs.length : Int) by omega)) ?_;obtain ⟨x,hx1⟩ : ∃ x,xs[i]?=some x:=⟨_,zyy hi⟩;obtain ⟨y,hy1⟩ : ∃ y,ys[i]?=some y:=⟨_,zyy (by omega)⟩;conv=>whnf
 refine zak.qk ?_;conv=>whnf
 refine ⟨⟨by omega,by omega,hA (by omega)⟩,?_⟩;conv=>whnf
 refine zan.nat (A:=A) ptQ za9 (zxA ..) rfl hx1 ?_;obtain ⟨x',rfl⟩ : ∃ z,z=x:=⟨_,rfl⟩;conv=>whnf
 refine ⟨⟨by omega,by omega,hB (by omega)⟩,?_⟩;conv=>whnf
 refine zan.nat (A:=B) ptQ za9 (zxB _ (zxA ..)) rfl hy1 ?_;obtain ⟨y',rfl⟩ : ∃ z,z=y:=⟨_,rfl⟩;conv=>whnf
 by_cases hxy : x'=y';rotate_left
 ·refine zag (zyr (!·) ((eqPV x' y').trans (zz9 hxy))) ?_;conv=>whnf
  refine zaa (zyr Value.bool (zz9 (fun h=>hxy ?_)).symm);rw [h] at hx1; rw [hx1] at hy1; exact zz1 hy1
 refine zac (zyr (!·) ((eqPV x' y').trans (zz8 hxy))) ?_;conv=>whnf
 exact ⟨i+1,⟨by omega,by rw [zaD hx1,zaD hy1,hi1,hxy]⟩,by show xs.length-(i+1)<xs.length-i; omega,zzj ⟨rfl,rfl,rfl,zaq hi (by omega),trivial⟩ trivial (fun S hS=>hS)⟩
def orB (a b p : V) : Bool:=decide (cmpQ ((b-a).cross (p-a)) 0<=0)
def zuW (L : List V) (p : V) (i : Nat) : Bool:=orB (L.getD i ⟨0,0⟩) (L.getD ((i+1)%L.length) ⟨0,0⟩) p
def conB (k : Nat) (L : List V) (p : V) : Bool :=
 if k=0 then decide (L.length=1)&&decide (cmpV (L.getD 0 ⟨0,0⟩) p=0)
 else if L.length=2 then decide (k≠3)&&(zbW (L.getD 0 ⟨0,0⟩) (L.getD 1 ⟨0,0⟩) p&&(decide (cmpV (L.getD 0 ⟨0,0⟩) p≠0)&&decide (cmpV (L.getD 1 ⟨0,0⟩) p≠0)))
 else !((List.range L.length).any (zuW L p))&&(decide (k=3)&&decide (2<L.length))
end Go.Sx
end
section
namespace Go.Sx
def zgQ (H : List Rat) (flat : Bool) (r : Nat) (y : Rat) : Prop:=if flat then H[r]?=some y else ∃ a b,H[r]?=some a/\H[r+1]?=some b/\a<y/\y<b
theorem zqn {l : List Rat} (h : Asc l) {m : Rat} (hm : m∈l) (hle : ∀ z∈l,m<=z) : l[0]?=some m:=by
 obtain ⟨j,hj⟩:=zCd hm;by_cases h0 : j=0
 ·rw [h0] at hj; exact hj
 ·obtain ⟨x,hx⟩ : ∃ x,l[0]?=some x:=⟨_,zyy (by have:=(zyz.1 hj).1; omega)⟩;have:=zba h hx hj (by omega);have:=hle x (zyq hx);grind
theorem zq2 {l : List Rat} (h : Asc l) {m : Rat} (hm : m∈l) (hle : ∀ z∈l,z<=m) : l[l.length-1]?=some m:=by
 obtain ⟨j,hj⟩:=zCd hm;have hl:=(zyz.1 hj).1;by_cases h0 : j=l.length-1
 ·rw [h0] at hj; exact hj
 ·obtain ⟨x,hx⟩ : ∃ x,l[l.length-1]?=some x:=⟨_,zyy (by omega)⟩;have:=zba h hj hx (by omega);have:=hle x (zyq hx);grind
structure zik (H : List Rat) (lo hi : Rat) : Prop where
 asc : Asc H
 first : H[0]?=some lo
 last : H[H.length-1]?=some hi
theorem zik.mem {H : List Rat} {lo hi : Rat} (h : zik H lo hi) {i : Nat} {x : Rat} (hx : H[i]?=some x) : lo<=x/\x<=hi:=by
 have hl:=(zyz.1 hx).1;constructor
 ·by_cases h0 : i=0
  ·subst h0; rw [h.first] at hx; cases hx; exact zBR
  ·exact zBU (zba h.asc h.first hx (by omega))
 ·by_cases h0 : i=H.length-1
  ·subst h0; rw [h.last] at hx; cases hx; exact zBR
  ·exact zBU (zba h.asc hx h.last (by omega))
theorem zik.bd {H : List Rat} {lo hi : Rat} (h : zik H lo hi) {f : Bool} {r : Nat} {y : Rat} (h1 : zgQ H f r y) : lo<=y/\y<=hi:=by
 unfold zgQ at h1
 cases f <;> simp only [if_true,if_false,zyi] at h1
 ·obtain ⟨a,b,a1,b1,c1,d1⟩:=h1;have:=h.mem a1;have:=h.mem b1;exact ⟨by grind,by grind⟩
 ·exact h.mem h1
theorem zpK {s : Sl} (hs : s.is) (hx : s.lo.x<=s.hi.x) : zik s.X.xs s.lo.x s.hi.x:=⟨Sl.is_asc hs,Sl.is_first hs hx,Sl.is_last hs hx⟩
theorem zvJ {s : Sl} (hy : s.lo.y<=s.hi.y) {X : Rat} : ∀ y∈ysL s.lo s.hi (pcsL s.lo s.hi s.sg.xs) X,s.lo.y<=y/\y<=s.hi.y:=fun y hm=>by
 rw [ysL,zbv] at hm;rcases zy1.1 hm with rfl | hm
 ·exact ⟨zBR,hy⟩
 rcases zy1.1 hm with rfl | hm
 ·exact ⟨hy,zBR⟩
 obtain ⟨p,hp,h⟩:=zBP.1 hm;obtain ⟨e,he⟩:=zdA hp;rcases zyK.1 h with h | h
 ·split at h
  ·simp only [zy1,zBL,or_false] at h;rcases h with rfl | rfl
   ·exact he.ia.2
   ·exact he.ib.2
  ·cases h
 ·cases hh : hgtO p X with
  | none=>rw [hh] at h; cases h
  | some z =>
   rw [hh] at h;rw [zyZ.1 (show y∈[z] from h)];exact (zd6 he.ia he.ib (zfk hh).2).2
theorem zl1 {s : Sl} (hs : s.is) {c : Nat} {X : Rat} {l : Ln Rat} (hx : s.X.xs[c]?=some X) (hl : s.L.xs[c]?=some l) : l.xs=ysL s.lo s.hi (pcsL s.lo s.hi s.sg.xs) X:=by
 have h:=zyr (fun z : List (List Rat)=>z[c]?) hs.2.1;simp only [zx4,hx,hl,zxp] at h;exact zz1 h
theorem zfJ {s : Sl} (hs : s.is) (hy : s.lo.y<=s.hi.y) {c : Nat} {X : Rat} {l : Ln Rat} (hx : s.X.xs[c]?=some X) (hl : s.L.xs[c]?=some l) : zik l.xs s.lo.y s.hi.y:=by
 rw [zl1 hs hx hl];have ha : Asc (ysL s.lo s.hi (pcsL s.lo s.hi s.sg.xs) X):=zdt _;exact ⟨ha,zqn ha (zbv.2 (zxA ..)) (fun z hz=>(zvJ hy z hz).1),zq2 ha (zbv.2 (zxB _ (zxA ..))) (fun z hz=>(zvJ hy z hz).2)⟩
theorem zkU (s : Sl) (t : Ln Nat) (x : Rat) : (zaJ s t x)[0]?=some s.lo.y/\(zaJ s t x)[(zaJ s t x).length-1]?=some s.hi.y:=by
 refine ⟨rfl,?_⟩;have : (zaJ s t x).length-1=t.xs.length+1:=by simp [zaJ]
 rw [this,zaJ,zB3,zyg (by simp)]; simp
def colH (s : Sl) (line : Bool) (c : Nat) (x : Rat) : Option (List Rat):=if line then (s.L.xs[c]?).map (·.xs) else (s.S.xs[c]?).map fun t=>zaJ s t x
def inC (s : Sl) (x : Cel) (p : V) : Prop:=zgQ s.X.xs (decide (x.k<2)) x.c p.x/\∃ H,colH s (decide (x.k<2)) x.c p.x=some H/\zgQ H (decide (x.k%2=0)) x.r p.y
theorem zmc {s : Sl} (hs : s.is) (hy : s.lo.y<s.hi.y) {f : Bool} {c : Nat} {x : Rat} {H : List Rat} (h1 : zgQ s.X.xs f c x) (h2 : colH s f c x=some H) : zik H s.lo.y s.hi.y:=by
 unfold zgQ at h1;unfold colH at h2
 cases f <;> simp only [if_true,if_false,zyi] at h1 h2
 ·obtain ⟨X,Y,a1,b1,c1,d1⟩:=h1
  cases ht : s.S.xs[c]? with
  | none=>rw [ht] at h2; cases h2
  | some t =>
   rw [ht] at h2; cases h2;exact ⟨zdV hs hy ⟨a1,b1⟩ ht c1 d1,(zkU s t x).1,(zkU s t x).2⟩
 ·cases hl : s.L.xs[c]? with
  | none=>rw [hl] at h2; cases h2
  | some l=>rw [hl] at h2; cases h2; exact zfJ hs (zBU hy) h1 hl
theorem ztL {s : Sl} (hs : s.is) (hx : s.lo.x<=s.hi.x) (hy : s.lo.y<s.hi.y) {x : Cel} {p : V} (h : inC s x p) : inX s.lo s.hi p:=by
 obtain ⟨a1,H,a2,a3⟩:=h;exact ⟨(zpK hs hx).bd a1,(zmc hs hy a1 a2).bd a3⟩
theorem zc3 {a b p : V} (hab : a≠b) : zbW a b p=true↔onS a b p:=by
 refine ⟨zlP hab,?_⟩;rintro ⟨t,⟨t0,t1⟩,rfl⟩;unfold zbW;simp only [zxV,zxY,zxF];refine ⟨zbt.2 ?_,?_,.inl (fun h=>hab (zaI.1 h))⟩
 ·show (b.x-a.x)*((a.y+(b.y-a.y)*t)-a.y)-(b.y-a.y)*((a.x+(b.x-a.x)*t)-a.x)=0;grind
 ·by_cases h0 : t=0
  ·rw [h0,V.at_zero,zaI.2 rfl]; simp
  by_cases h1 : t=1
  ·rw [h1,V.at_one,zaI.2 (show b=b from rfl)]; simp
  rw [zhv (by grind),zgp (by grind)];rcases zgb a b with h | h | h <;> rw [h] <;> decide
theorem zqC {X Y a b x h : Rat} (hXY : X<Y) : onS ⟨X,a⟩ ⟨Y,b⟩ ⟨x,h⟩↔X<=x/\x<=Y/\h*(Y-X)=a*(Y-x)+b*(x-X):=by
 constructor
 ·intro o;have c:=zhI (zeO (⟨X,a⟩ : V) ⟨Y,b⟩) (zfF (⟨X,a⟩ : V) ⟨Y,b⟩) o;obtain ⟨t,⟨t0,t1⟩,e⟩:=o;have ex : x=X+(Y-X)*t:=zyr V.x e;have k1:=zBE (show 0<=Y-X by grind) t0;have k2:=zBE (show 0<=Y-X by grind) (show 0<=1-t by grind);exact ⟨by grind,by grind,by grind⟩
 ·rintro ⟨h1,h2,h3⟩;exact zo6 (zeO _ _) (zfF _ _) hXY h1 h2 (by grind)
theorem zjK {X y y' x h : Rat} (hy : y<y') : onS ⟨X,y⟩ ⟨X,y'⟩ ⟨x,h⟩↔x=X/\y<=h/\h<=y':=by
 constructor
 ·rintro ⟨t,⟨t0,t1⟩,e⟩;have ex : x=X+(X-X)*t:=zyr V.x e;have ey : h=y+(y' - y)*t:=zyr V.y e;have k1:=zBE (show 0<=y' - y by grind) t0;have k2:=zBE (show 0<=y' - y by grind) (show 0<=1-t by grind);exact ⟨by grind,by grind,by grind⟩
 ·rintro ⟨rfl,h1,h2⟩;obtain ⟨u,hd,u0,u1,_⟩:=zdO (d:=h-y) (g:=y' - h) (by grind) (by grind) (by grind);refine ⟨u,⟨u0,u1⟩,?_⟩;show (⟨x,h⟩ : V)=⟨x+(x-x)*u,y+(y' - y)*u⟩
  congr 1 <;> grind
def orR (a b p : V) : Prop:=0<(b-a).cross (p-a)
theorem zfi {a b p : V} : orB a b p=false↔orR a b p:=by
 unfold orB orR;rw [zBN,zl7];exact zz7
theorem zkE (A B C p : V) : conB 3 [A,B,C] p=true↔orR A B p/\orR B C p/\orR C A p:=by
 have e : conB 3 [A,B,C] p=(!(orB A B p||(orB B C p||(orB C A p||false)))&&(true&&true)):=by simp [conB,zuW,zAX]
 rw [e,<-zfi,<-zfi,<-zfi]
 cases orB A B p <;> cases orB B C p <;> cases orB C A p <;> simp
theorem zqJ (A B C D p : V) : conB 3 [A,B,C,D] p=true↔orR A B p/\orR B C p/\orR C D p/\orR D A p:=by
 have e : conB 3 [A,B,C,D] p=(!(orB A B p||(orB B C p||(orB C D p||(orB D A p||false))))&&(true&&true)):=by simp [conB,zuW,zAX]
 rw [e,<-zfi,<-zfi,<-zfi,<-zfi]
 cases orB A B p <;> cases orB B C p <;> cases orB C D p <;> cases orB D A p <;> simp
theorem ze7 {x y u v a b : Rat} : orR ⟨x,y⟩ ⟨u,v⟩ ⟨a,b⟩↔0<(u-x)*(b-y)-(v-y)*(a-x):=Iff.rfl
theorem zcw {a b : Rat} (h : 0<a*b) (ha : 0<=a) : 0<b:=by
 refine zz7.1 fun hb=>?_
 have:=zBE ha (show 0<=-b by grind);grind
theorem zn0 {X Y a b a' b' : Rat} (hXY : X<Y) (h1 : a<=a') (h2 : b<=b') (h3 : a<a'\/b<b') :
  (a<a'/\b<b'/\unw (ddp [⟨X,a⟩,⟨Y,b⟩,⟨Y,b'⟩,(⟨X,a'⟩ : V)])=[⟨X,a⟩,⟨Y,b⟩,⟨Y,b'⟩,⟨X,a'⟩])\/(a<a'/\b=b'/\unw (ddp [⟨X,a⟩,⟨Y,b⟩,⟨Y,b'⟩,(⟨X,a'⟩ : V)])=[⟨X,a⟩,⟨Y,b⟩,⟨X,a'⟩]) \/
  (a=a'/\b<b'/\unw (ddp [⟨X,a⟩,⟨Y,b⟩,⟨Y,b'⟩,(⟨X,a'⟩ : V)])=[⟨X,a⟩,⟨Y,b⟩,⟨Y,b'⟩]):=by
 have n1 : ¬(⟨Y,b⟩ : V)=⟨X,a⟩:=fun h=>by have:=zyr V.x h; simp only at this; grind
 have n2 : ¬(⟨X,a'⟩ : V)=⟨Y,b'⟩:=fun h=>by have:=zyr V.x h; simp only at this; grind
 have d1 : ∀ l,ddpG (⟨X,a⟩ : V) (⟨Y,b⟩::l)=⟨Y,b⟩::ddpG ⟨Y,b⟩ l:=fun l=>by rw [ddpG,zxI n1]
 have d3 : ddpG (⟨Y,b'⟩ : V) [⟨X,a'⟩]=[⟨X,a'⟩]:=by rw [ddpG,zxI n2]; rfl
 have e0 : ddp [⟨X,a⟩,⟨Y,b⟩,⟨Y,b'⟩,(⟨X,a'⟩ : V)]=⟨X,a⟩::⟨Y,b⟩::ddpG ⟨Y,b⟩ [⟨Y,b'⟩,⟨X,a'⟩]:=by rw [ddp,d1]
 by_cases ha : a<a'
 ·have n3 : ¬(⟨X,a⟩ : V)=⟨X,a'⟩:=fun h=>by have:=zyr V.y h; simp only at this; grind
  by_cases hb : b<b'
  ·left
   refine ⟨ha,hb,?_⟩;have n4 : ¬(⟨Y,b'⟩ : V)=⟨Y,b⟩:=fun h=>by have:=zyr V.y h; simp only at this; grind
   rw [e0,ddpG,zxI n4,d3];unfold unw;rw [zxI (fun h=>n3 (zz1 h.2))]
  ·right; left
   have e : b=b':=by grind
   subst e;refine ⟨ha,rfl,?_⟩;rw [e0,ddpG,zxJ rfl,d3];unfold unw;rw [zxI (fun h=>n3 (zz1 h.2))]
 ·right; right
  have e : a=a':=by grind
  subst e;have hb : b<b':=by grind
  refine ⟨rfl,hb,?_⟩;have n4 : ¬(⟨Y,b'⟩ : V)=⟨Y,b⟩:=fun h=>by have:=zyr V.y h; simp only at this; grind
  rw [e0,ddpG,zxI n4,d3];unfold unw;rw [zxJ ⟨by simp,rfl⟩]; rfl
theorem con3 {X Y a b a' b' : Rat} (hXY : X<Y) (h1 : a<=a') (h2 : b<=b') (h3 : a<a'\/b<b') {x y : Rat} : conB 3 (unw (ddp [⟨X,a⟩,⟨Y,b⟩,⟨Y,b'⟩,(⟨X,a'⟩ : V)])) ⟨x,y⟩=true ↔
  X<x/\x<Y/\a*(Y-x)+b*(x-X)<y*(Y-X)/\y*(Y-X)<a'*(Y-x)+b'*(x-X):=by
 rcases zn0 hXY h1 h2 h3 with ⟨ha,hb,e⟩ | ⟨ha,hb,e⟩ | ⟨ha,hb,e⟩
 ·rw [e,zqJ,ze7,ze7,ze7,ze7];constructor
  ·rintro ⟨k1,k2,k3,k4⟩;have q1:=zcw (a:=b' - b) (b:=Y-x) (by grind) (by grind);have q2:=zcw (a:=a' - a) (b:=x-X) (by grind) (by grind);exact ⟨by grind,by grind,by grind,by grind⟩
  ·rintro ⟨k1,k2,k3,k4⟩;have q1:=zBB (show 0<b' - b by grind) (show 0<Y-x by grind);have q2:=zBB (show 0<a' - a by grind) (show 0<x-X by grind);exact ⟨by grind,by grind,by grind,by grind⟩
 ·subst hb;rw [e,zkE,ze7,ze7,ze7];constructor
  ·rintro ⟨k1,k2,k3⟩;have q1:=zcw (a:=a' - a) (b:=Y-x) (by grind) (by grind);have q2:=zcw (a:=a' - a) (b:=x-X) (by grind) (by grind);exact ⟨by grind,by grind,by grind,by grind⟩
  ·rintro ⟨k1,k2,k3,k4⟩;have q2:=zBB (show 0<a' - a by grind) (show 0<x-X by grind);exact ⟨by grind,by grind,by grind⟩
 ·subst ha;rw [e,zkE,ze7,ze7,ze7];constructor
  ·rintro ⟨k1,k2,k3⟩;have q1:=zcw (a:=b' - b) (b:=Y-x) (by grind) (by grind);have q2:=zcw (a:=b' - b) (b:=x-X) (by grind) (by grind);exact ⟨by grind,by grind,by grind,by grind⟩
  ·rintro ⟨k1,k2,k3,k4⟩;have q2:=zBB (show 0<b' - b by grind) (show 0<Y-x by grind);exact ⟨by grind,by grind,by grind⟩
theorem zc1 {a b c : Rat} (hc : 0<c) : a*c<b*c↔a<b:=by
 constructor
 ·intro h;have:=zcw (a:=c) (b:=b-a) (by grind) (by grind);grind
 ·intro h;have:=zBB (show 0<b-a by grind) hc;grind
theorem zbS {a b c : Rat} (hc : 0<c) (h : a*c=b*c) : a=b:=by
 have h3 : (a-b)*c=0:=by grind
 rcases zBF.1 h3 with h4 | h4 <;> grind
theorem zph {s : Sl} (hs : s.is) (hy : s.lo.y<s.hi.y) {x : Cel} (hk : x.k<4) (hx : (x.r : Int)<cntK s x.k x.c) (p : V) : conB x.k (crnL s x) p=true↔inC s x p:=by
 obtain ⟨k,c,r⟩:=x;obtain ⟨px,py⟩:=p;have hk' : k=0\/k=1\/k=2\/k=3:=by have : k<4:=hk; omega
 rcases hk' with rfl | rfl | rfl | rfl
 · obtain ⟨l,X,h1,h2,h3⟩:=zaZ (show (r : Int)<zb2 s 0 c from hx);obtain ⟨y,hy'⟩ : ∃ y,l.xs[r]?=some y:=⟨_,zyy (by omega)⟩;rw [show crnL s ⟨0,c,r⟩=[⟨X,y⟩] by simp only [crnL]; rw [zah h2,zah (show (s.L.xs.map (·.xs))[c]?=some l.xs by rw [zx4,h1]; rfl),zah hy']];have e : conB 0 [(⟨X,y⟩ : V)] ⟨px,py⟩=(true&&decide (cmpV ⟨X,y⟩ ⟨px,py⟩=0)):=rfl;show conB 0 _ _=true↔_;rw [e,zCh,zxY,zaI];constructor
   · intro h;obtain ⟨rfl,rfl⟩:=V.mk.inj h;exact ⟨h2,l.xs,by show (s.L.xs[c]?).map (·.xs)=_; rw [h1]; rfl,hy'⟩
   · rintro ⟨a1,H,a2,a3⟩;have a1 : s.X.xs[c]?=some px:=a1;have a2 : (s.L.xs[c]?).map (·.xs)=some H:=a2;have a3 : H[r]?=some py:=a3;rw [h1] at a2; cases a2;rw [h2] at a1; cases a1;simp only at a3;rw [hy'] at a3; cases a3;rfl
 · obtain ⟨l,X,h1,h2,h3⟩:=zaZ (show (r : Int)<zb2 s 1 c from hx);obtain ⟨y,hy'⟩ : ∃ y,l.xs[r]?=some y:=⟨_,zyy (by omega)⟩;obtain ⟨y',hy''⟩ : ∃ y,l.xs[r+1]?=some y:=⟨_,zyy (by omega)⟩;have hlt : y<y':=zba (zfJ hs (zBU hy) h2 h1).asc hy' hy'' (by omega);rw [show crnL s ⟨1,c,r⟩=[⟨X,y⟩,⟨X,y'⟩] by simp only [crnL]; rw [zah h2,zah (show (s.L.xs.map (·.xs))[c]?=some l.xs by rw [zx4,h1]; rfl),zah hy',zah hy'']];have e : conB 1 [(⟨X,y⟩ : V),⟨X,y'⟩] ⟨px,py⟩=(true&&(zbW ⟨X,y⟩ ⟨X,y'⟩ ⟨px,py⟩&&(decide (cmpV ⟨X,y⟩ ⟨px,py⟩≠0)&&decide (cmpV ⟨X,y'⟩ ⟨px,py⟩≠0)))):=rfl;show conB 1 _ _=true↔_;rw [e,zCh,zxV,zxV,zxY,zxY,zc3 (fun h=>by have:=zyr V.y h; simp only at this; grind),zjK hlt]
   constructor
   · rintro ⟨⟨rfl,b1,b2⟩,b3,b4⟩;have c1 : y≠py:=fun h=>b3 (zaI.2 (by rw [h]))
     have c2 : y'≠py:=fun h=>b4 (zaI.2 (by rw [h]))
     exact ⟨h2,l.xs,by show (s.L.xs[c]?).map (·.xs)=_; rw [h1]; rfl,y,y',hy',hy'',by grind,by grind⟩
   · rintro ⟨a1,H,a2,a3⟩;have a1 : s.X.xs[c]?=some px:=a1;have a2 : (s.L.xs[c]?).map (·.xs)=some H:=a2;have a3 : ∃ a b,H[r]?=some a/\H[r+1]?=some b/\a<py/\py<b:=a3;rw [h1] at a2; cases a2;rw [h2] at a1; cases a1;obtain ⟨a,b,k1,k2,k3,k4⟩:=a3;simp only at k1 k2;rw [hy'] at k1; cases k1;rw [hy''] at k2; cases k2;refine ⟨⟨rfl,by grind,by grind⟩,fun h=>?_,fun h=>?_⟩
     · have:=zyr V.y (zaI.1 h); simp only at this; grind
     · have:=zyr V.y (zaI.1 h); simp only at this; grind
 · obtain ⟨t,X,Y,h1,h2,h3,h4,h5⟩:=zaG (show (r : Int)<za6 s 2 c from hx);have hN : Nx s c X Y:=⟨h2,h3⟩;have hXY:=hN.lt hs;obtain ⟨a,b,g1,g2,_,_,g5⟩:=zbQ hs hy hN h1 (r:=r) (by omega);rw [show crnL s ⟨2,c,r⟩=[⟨X,a⟩,⟨Y,b⟩] by simp only [crnL,onP]; rw [zah h2,zah h3,zah h1,zah g1,zah g2]];have e : conB 2 [(⟨X,a⟩ : V),⟨Y,b⟩] ⟨px,py⟩=(true&&(zbW ⟨X,a⟩ ⟨Y,b⟩ ⟨px,py⟩&&(decide (cmpV ⟨X,a⟩ ⟨px,py⟩≠0)&&decide (cmpV ⟨Y,b⟩ ⟨px,py⟩≠0)))):=rfl;show conB 2 _ _=true↔_;rw [e,zCh,zxV,zxV,zxY,zxY,zc3 (fun h=>by have:=zyr V.x h; simp only at this; grind),zqC hXY];constructor
   · rintro ⟨⟨b1,b2,b5⟩,b3,b4⟩;have c1 : X≠px:=fun h=>b3 (zaI.2 (by
       subst h;rw [zbS (show 0<Y-X by grind) (show py*(Y-X)=a*(Y-X) by grind)]))
     have c2 : Y≠px:=fun h=>b4 (zaI.2 (by
       subst h;rw [zbS (show 0<Y-X by grind) (show py*(Y-X)=b*(Y-X) by grind)]))
     obtain ⟨h,q1,q2⟩:=g5 px b1 b2;rw [<-b5] at q2;rw [zbS (by grind) q2] at q1;exact ⟨⟨X,Y,h2,h3,by grind,by grind⟩,zaJ s t px,by show (s.S.xs[c]?).map (fun t=>zaJ s t px)=_; rw [h1]; rfl,by
       show zgQ (zaJ s t px) (decide ((2 : Nat)%2=0)) r py;rw [show decide ((2 : Nat)%2=0)=true by decide];exact q1⟩
   · rintro ⟨⟨X',Y',k1,k2,k3,k4⟩,H,a2,a3⟩;have k1 : s.X.xs[c]?=some X':=k1;have k2 : s.X.xs[c+1]?=some Y':=k2;have k3 : X' < px:=k3;have k4 : px<Y':=k4;rw [h2] at k1; cases k1;rw [h3] at k2; cases k2;have a2 : (s.S.xs[c]?).map (fun t=>zaJ s t px)=some H:=a2;rw [h1] at a2; cases a2;have a3 : zgQ (zaJ s t px) true r py:=by
       have h : zgQ (zaJ s t px) (decide ((2 : Nat)%2=0)) r py:=a3;rwa [show decide ((2 : Nat)%2=0)=true by decide] at h
     have a3 : (zaJ s t px)[r]?=some py:=a3;obtain ⟨h,q1,q2⟩:=g5 px (by grind) (by grind);rw [a3] at q1; cases q1;refine ⟨⟨by grind,by grind,q2⟩,fun h=>?_,fun h=>?_⟩
     · have:=zyr V.x (zaI.1 h); simp only at this; grind
     · have:=zyr V.x (zaI.1 h); simp only at this; grind
 · obtain ⟨t,X,Y,h1,h2,h3,h4,h5⟩:=zaG (show (r : Int)<za6 s 1 c from hx);have hN : Nx s c X Y:=⟨h2,h3⟩;have hXY:=hN.lt hs;obtain ⟨a,b,g1,g2,_,_,g5⟩:=zbQ hs hy hN h1 (r:=r) (by omega);obtain ⟨a',b',g1',g2',_,_,g5'⟩:=zbQ hs hy hN h1 (r:=r+1) (by omega);obtain ⟨m1,m2,m3⟩:=zkb hs hy hN h1 (show r<r+1 by omega) g1 g2 g1' g2';rw [show crnL s ⟨3,c,r⟩=unw (ddp [⟨X,a⟩,⟨Y,b⟩,⟨Y,b'⟩,⟨X,a'⟩]) by simp only [crnL,crn3,onP]; rw [zah h2,zah h3,zah h1,zah g1,zah g2,zah g1',zah g2']];show conB 3 _ _=true↔_;rw [con3 hXY m1 m2 m3];constructor
   · rintro ⟨b1,b2,b3,b4⟩;obtain ⟨h,q1,q2⟩:=g5 px (by grind) (by grind);obtain ⟨h',q1',q2'⟩:=g5' px (by grind) (by grind);rw [<-q2,zc1 (by grind)] at b3;rw [<-q2',zc1 (by grind)] at b4;refine ⟨⟨X,Y,h2,h3,b1,b2⟩,zaJ s t px,by show (s.S.xs[c]?).map (fun t=>zaJ s t px)=_; rw [h1]; rfl,?_⟩;show zgQ (zaJ s t px) (decide ((3 : Nat)%2=0)) r py;rw [show decide ((3 : Nat)%2=0)=false by decide];exact ⟨h,h',q1,q1',b3,b4⟩
   · rintro ⟨⟨X',Y',k1,k2,k3,k4⟩,H,a2,a3⟩;have k1 : s.X.xs[c]?=some X':=k1;have k2 : s.X.xs[c+1]?=some Y':=k2;have k3 : X' < px:=k3;have k4 : px<Y':=k4;rw [h2] at k1; cases k1;rw [h3] at k2; cases k2;have a2 : (s.S.xs[c]?).map (fun t=>zaJ s t px)=some H:=a2;rw [h1] at a2; cases a2;have a3 : zgQ (zaJ s t px) false r py:=by
       have h : zgQ (zaJ s t px) (decide ((3 : Nat)%2=0)) r py:=a3;rwa [show decide ((3 : Nat)%2=0)=false by decide] at h
     obtain ⟨h,h',q1,q1',b3,b4⟩:=(show ∃ a b,(zaJ s t px)[r]?=some a/\(zaJ s t px)[r+1]?=some b/\a<py/\py<b from a3);obtain ⟨z,w1,w2⟩:=g5 px (by grind) (by grind);obtain ⟨z',w1',w2'⟩:=g5' px (by grind) (by grind);rw [q1] at w1; cases w1;rw [q1'] at w1'; cases w1';refine ⟨k3,k4,?_,?_⟩
     · rw [<-w2,zc1 (by grind)]; exact b3
     · rw [<-w2',zc1 (by grind)]; exact b4
instance (lo hi p : V) : Decidable (inX lo hi p):=inferInstanceAs (Decidable (_/\_))
theorem ziS {m : Rat} {k : Nat} : ∀ {p : Rat} {L : List (Rat×Nat)},(m,k)∈L->m=p\/∃ k',k'∈fstG p L/\(m,k')∈L
 | p,(y,i)::r,h=>by
  simp only [fstG];rcases zy1.1 h with h | h
  ·cases h
   by_cases e : p=m
   ·exact .inl e.symm
   ·exact .inr ⟨k,by rw [zxI e]; exact zxA ..,zxA ..⟩
  ·rcases ziS (p:=y) h with h2 | ⟨k',h2,h3⟩
   ·subst h2;by_cases e : p=m
    ·exact .inl e.symm
    ·exact .inr ⟨i,by rw [zxI e]; exact zxA ..,zxA ..⟩
   ·refine .inr ⟨k',?_,zxB _ h3⟩;split
    ·exact h2
    ·exact zxB _ h2
 | p,[],h=>by cases h
theorem zoc {m : Rat} {k : Nat} {L : List (Rat×Nat)} (h : (m,k)∈L) : ∃ k',k'∈fstL L/\(m,k')∈L:=by
 cases L with
 | nil=>cases h
 | cons e r =>
  obtain ⟨y,i⟩:=e;rcases zy1.1 h with h | h
  ·cases h; exact ⟨k,zxA ..,zxA ..⟩
  ·rcases ziS (p:=y) h with h2 | ⟨k',h2,h3⟩
   ·subst h2; exact ⟨i,zxA ..,zxA ..⟩
   ·exact ⟨k',zxB _ h2,zxB _ h3⟩
theorem zto {s : Sl} (hs : s.is) (hy : s.lo.y<s.hi.y) {c : Nat} {X Y : Rat} (hN : Nx s c X Y) {t : Ln Nat} (ht : s.S.xs[c]?=some t) {k : Nat} {p : Pc} (hp : Ed s X Y k p) : ∃ k'∈t.xs,∀ x,X<=x->x<=Y->hgtS s x k'=hgtS s x k:=by
 have hXY:=hN.lt hs;have ht':=Sl.is_strip_at hs hN.x hN.y ht;have oA:=hp.on X (by grind) (by grind);have oB:=hp.on Y (by grind) (by grind);have hA : hgtO p X=some (hgtS s X k):=by unfold hgtO; rw [zef hp.nv oA]; rfl
 have hB : hgtO p Y=some (hgtS s Y k):=by unfold hgtO; rw [zef hp.nv oB]; rfl
 have hc : ((hgtS s X k+hgtS s Y k)/2,k)∈crsL s.lo s.hi (pcsL s.lo s.hi s.sg.xs) X Y:=by
  refine zyU.2 ⟨p,hp.mem,?_⟩;unfold crsO;rw [hA,hB];simp only;rw [zxI hp.no,hp.i]
 obtain ⟨k',h1,h2⟩:=zoc ((zb0 _).mem_iff.2 hc);refine ⟨k',by rw [ht']; exact h1,?_⟩;have hk' : k'∈zdN s.lo s.hi (pcsL s.lo s.hi s.sg.xs) X Y:=h1;obtain ⟨q,hq⟩:=zvn hXY hk';have hm:=(zoK ((zb0 _).mem_iff.1 h2)).1;simp only at hm;rw [zma hq hXY] at hm;have n1 : ¬hgtS s X k<hgtS s X k':=fun h=>zgW hs hN hq hp h (by grind)
 have n2 : ¬hgtS s X k' < hgtS s X k:=fun h=>zgW hs hN hp hq h (by grind)
 have e1 : hgtS s X k'=hgtS s X k:=by grind
 have e2 : hgtS s Y k'=hgtS s Y k:=by grind
 intro x h3 h4;have l1:=hq.lin hXY h3 h4;have l2:=hp.lin hXY h3 h4;rw [e1,e2,<-l2] at l1;exact zbS (by grind) l1
theorem zrg {s : Sl} {X Y x : Rat} {k : Nat} {p : Pc} (h : Ed s X Y k p) (h1 : X<=x) (h2 : x<=Y) : hgtS s x k∈ysL s.lo s.hi (pcsL s.lo s.hi s.sg.xs) x:=by
 rw [ysL,zbv,zy1,zy1,zBP];refine .inr (.inr ⟨p,h.mem,zBV _ ?_⟩);unfold hgtO;rw [zef h.nv (h.on x h1 h2)];exact zxA ..
theorem zdP (a b : V) : a.at b (1/2)=⟨(a.x+b.x)/2,(a.y+b.y)/2⟩:=by
 show (⟨a.x+(b.x-a.x)*(1/2),a.y+(b.y-a.y)*(1/2)⟩ : V)=_
 congr 1 <;> grind
theorem zp9 {s : Sl} (hs : s.is) (hy : s.lo.y<s.hi.y) {x : Cel} (hk : x.k<4) (hx : (x.r : Int)<cntK s x.k x.c) : inC s x (cenP s x)/\∀ q∈crnL s x,inC s x (q.at (cenP s x) (1/2)):=by
 rw [<-zph hs hy hk hx]
 suffices h : conB x.k (crnL s x) (cenP s x)=true/\∀ q∈crnL s x,conB x.k (crnL s x) (q.at (cenP s x) (1/2))=true from ⟨h.1,fun q hq=>(zph hs hy hk hx _).1 (h.2 q hq)⟩
 obtain ⟨k,c,r⟩:=x;have hk' : k=0\/k=1\/k=2\/k=3:=by have : k<4:=hk; omega
 rcases hk' with rfl | rfl | rfl | rfl
 ·obtain ⟨l,X,h1,h2,h3⟩:=zaZ (show (r : Int)<zb2 s 0 c from hx);obtain ⟨y,hy'⟩ : ∃ y,l.xs[r]?=some y:=⟨_,zyy (by omega)⟩;have e0 : cenP s ⟨0,c,r⟩=⟨X,y⟩:=by simp only [cenP]; rw [zah h2,zah (show (s.L.xs.map (·.xs))[c]?=some l.xs by rw [zx4,h1]; rfl),zah hy']
  rw [e0,show crnL s ⟨0,c,r⟩=[⟨X,y⟩] by simp only [crnL]; rw [zah h2,zah (show (s.L.xs.map (·.xs))[c]?=some l.xs by rw [zx4,h1]; rfl),zah hy']];have e : ∀ p,conB 0 [(⟨X,y⟩ : V)] p=(true&&decide (cmpV ⟨X,y⟩ p=0)):=fun p=>rfl
  have hc : conB 0 [(⟨X,y⟩ : V)] ⟨X,y⟩=true:=by rw [e,zCh,zxY,zaI]
  refine ⟨hc,fun q hq=>?_⟩;rw [zyZ.1 hq,zdP,show (X+X)/2=X by grind,show (y+y)/2=y by grind];exact hc
 ·obtain ⟨l,X,h1,h2,h3⟩:=zaZ (show (r : Int)<zb2 s 1 c from hx);obtain ⟨y,hy'⟩ : ∃ y,l.xs[r]?=some y:=⟨_,zyy (by omega)⟩;obtain ⟨y',hy''⟩ : ∃ y,l.xs[r+1]?=some y:=⟨_,zyy (by omega)⟩;have hlt : y<y':=zba (zfJ hs (zBU hy) h2 h1).asc hy' hy'' (by omega);have e0 : cenP s ⟨1,c,r⟩=⟨X,(y+y')/2⟩:=by
   simp only [cenP,midV]; rw [zah h2,zah (show (s.L.xs.map (·.xs))[c]?=some l.xs by rw [zx4,h1]; rfl),zah hy',zah hy'']
   congr 1; grind
  rw [e0,show crnL s ⟨1,c,r⟩=[⟨X,y⟩,⟨X,y'⟩] by simp only [crnL]; rw [zah h2,zah (show (s.L.xs.map (·.xs))[c]?=some l.xs by rw [zx4,h1]; rfl),zah hy',zah hy'']];have e : ∀ p,conB 1 [(⟨X,y⟩ : V),⟨X,y'⟩] p=(true&&(zbW ⟨X,y⟩ ⟨X,y'⟩ p&&(decide (cmpV ⟨X,y⟩ p≠0)&&decide (cmpV ⟨X,y'⟩ p≠0)))):=fun p=>rfl
  have hc : ∀ h,y<h->h<y'->conB 1 [(⟨X,y⟩ : V),⟨X,y'⟩] ⟨X,h⟩=true:=fun h k1 k2=>by
   rw [e,zCh,zxV,zxV,zxY,zxY,zc3 (fun h=>by have:=zyr V.y h; simp only at this; grind),zjK hlt];refine ⟨⟨rfl,by grind,by grind⟩,fun h=>?_,fun h=>?_⟩
   ·have:=zyr V.y (zaI.1 h); simp only at this; grind
   ·have:=zyr V.y (zaI.1 h); simp only at this; grind
  refine ⟨hc _ (by grind) (by grind),fun q hq=>?_⟩;simp only [zy1,zBL,or_false] at hq;rcases hq with rfl | rfl
  ·rw [zdP,show (X+X)/2=X by grind]; exact hc _ (by grind) (by grind)
  ·rw [zdP,show (X+X)/2=X by grind]; exact hc _ (by grind) (by grind)
 ·obtain ⟨t,X,Y,h1,h2,h3,h4,h5⟩:=zaG (show (r : Int)<za6 s 2 c from hx);have hN : Nx s c X Y:=⟨h2,h3⟩;have hXY:=hN.lt hs;obtain ⟨a,b,g1,g2,_,_,g5⟩:=zbQ hs hy hN h1 (r:=r) (by omega);obtain ⟨m,gm,gl⟩:=g5 ((X+Y)/2) (by grind) (by grind);have em : m=(a+b)/2:=zbS (show 0<Y-X by grind) (by grind);have e0 : cenP s ⟨2,c,r⟩=⟨(X+Y)/2,(a+b)/2⟩:=by simp only [cenP,onP]; rw [zah h2,zah h3,zah h1,zah gm,em]
  rw [e0,show crnL s ⟨2,c,r⟩=[⟨X,a⟩,⟨Y,b⟩] by simp only [crnL,onP]; rw [zah h2,zah h3,zah h1,zah g1,zah g2]];have e : ∀ p,conB 2 [(⟨X,a⟩ : V),⟨Y,b⟩] p=(true&&(zbW ⟨X,a⟩ ⟨Y,b⟩ p&&(decide (cmpV ⟨X,a⟩ p≠0)&&decide (cmpV ⟨Y,b⟩ p≠0)))):=fun p=>rfl
  have hc : ∀ x h,X<x->x<Y->h*(Y-X)=a*(Y-x)+b*(x-X)->conB 2 [(⟨X,a⟩ : V),⟨Y,b⟩] ⟨x,h⟩=true:=fun x h k1 k2 k3=>by
   rw [e,zCh,zxV,zxV,zxY,zxY,zc3 (fun h=>by have:=zyr V.x h; simp only at this; grind),zqC hXY];refine ⟨⟨by grind,by grind,k3⟩,fun h=>?_,fun h=>?_⟩
   ·have:=zyr V.x (zaI.1 h); simp only at this; grind
   ·have:=zyr V.x (zaI.1 h); simp only at this; grind
  refine ⟨hc _ _ (by grind) (by grind) (by grind),fun q hq=>?_⟩;simp only [zy1,zBL,or_false] at hq;rcases hq with rfl | rfl
  ·rw [zdP]; exact hc _ _ (by grind) (by grind) (by grind)
  ·rw [zdP]; exact hc _ _ (by grind) (by grind) (by grind)
 ·obtain ⟨t,X,Y,h1,h2,h3,h4,h5⟩:=zaG (show (r : Int)<za6 s 1 c from hx);have hN : Nx s c X Y:=⟨h2,h3⟩;have hXY:=hN.lt hs;obtain ⟨a,b,g1,g2,_,_,g5⟩:=zbQ hs hy hN h1 (r:=r) (by omega);obtain ⟨a',b',g1',g2',_,_,g5'⟩:=zbQ hs hy hN h1 (r:=r+1) (by omega);obtain ⟨m1,m2,m3⟩:=zkb hs hy hN h1 (show r<r+1 by omega) g1 g2 g1' g2';obtain ⟨m,gm,gl⟩:=g5 ((X+Y)/2) (by grind) (by grind);obtain ⟨m',gm',gl'⟩:=g5' ((X+Y)/2) (by grind) (by grind);have em : m=(a+b)/2:=zbS (show 0<Y-X by grind) (by grind);have em' : m'=(a'+b')/2:=zbS (show 0<Y-X by grind) (by grind);have e0 : cenP s ⟨3,c,r⟩=⟨(X+Y)/2,(a+b+a'+b')/4⟩:=by
   simp only [cenP,onP,midV]; rw [zah h2,zah h3,zah h1,zah gm,zah gm',em,em']
   congr 1 <;> grind
  rw [e0,show crnL s ⟨3,c,r⟩=unw (ddp [⟨X,a⟩,⟨Y,b⟩,⟨Y,b'⟩,⟨X,a'⟩]) by simp only [crnL,crn3,onP]; rw [zah h2,zah h3,zah h1,zah g1,zah g2,zah g1',zah g2']];have hW:=zBB (show 0<Y-X by grind) (show 0<a'+b' - a-b by grind);have hW1:=zBE (show 0<=Y-X by grind) (show 0<=a' - a by grind);have hW2:=zBE (show 0<=Y-X by grind) (show 0<=b' - b by grind);refine ⟨(con3 hXY m1 m2 m3).2 ⟨by grind,by grind,by grind,by grind⟩,fun q hq=>?_⟩;have hq' : q∈[⟨X,a⟩,⟨Y,b⟩,⟨Y,b'⟩,(⟨X,a'⟩ : V)]:=by
   refine zlR.1 ?_;unfold unw at hq;split at hq
   ·exact zxP hq
   ·exact hq
  simp only [zy1,zBL,or_false] at hq';rcases hq' with rfl | rfl | rfl | rfl
  ·rw [zdP]; exact (con3 hXY m1 m2 m3).2 ⟨by grind,by grind,by grind,by grind⟩
  ·rw [zdP]; exact (con3 hXY m1 m2 m3).2 ⟨by grind,by grind,by grind,by grind⟩
  ·rw [zdP]; exact (con3 hXY m1 m2 m3).2 ⟨by grind,by grind,by grind,by grind⟩
  ·rw [zdP]; exact (con3 hXY m1 m2 m3).2 ⟨by grind,by grind,by grind,by grind⟩
end Go.Sx
end
section
namespace Go.Sx
open Go Go.Proofs
theorem zww {A B : V} (h : A.x<B.x) {x : Rat} (h1 : A.x<=x) (h2 : x<=B.x) : ∃ y,onS A B ⟨x,y⟩:=by
 obtain ⟨u,hu,u0,u1,_⟩:=zdO (d:=x-A.x) (g:=B.x-x) (by grind) (by grind) (by grind);refine ⟨A.y+(B.y-A.y)*u,u,⟨u0,u1⟩,?_⟩;show (⟨x,_⟩ : V)=⟨A.x+(B.x-A.x)*u,A.y+(B.y-A.y)*u⟩
 congr 1
 grind
theorem on_x {A B : V} (h : A.x<=B.x) {p : V} (ho : onS A B p) : A.x<=p.x/\p.x<=B.x:=by
 obtain ⟨u,⟨u0,u1⟩,e⟩:=ho;have ex : p.x=A.x+(B.x-A.x)*u:=zyr V.x e;have k1:=zBE (show 0<=B.x-A.x by grind) u0;have k2:=zBE (show 0<=B.x-A.x by grind) (show 0<=1-u by grind);constructor <;> grind
theorem zvy (s : Sl) (t : Ln Nat) (x : Rat) : (zaJ s t x)[0]?=some s.lo.y:=rfl
theorem ztc (s : Sl) (t : Ln Nat) (x : Rat) : (zaJ s t x)[t.xs.length+1]?=some s.hi.y:=by
 rw [zaJ,zB3,zyg (by rw [zyA]; omega),zyA,zAI]; rfl
theorem ztj {s : Sl} {t : Ln Nat} {j k : Nat} (h : t.xs[j]?=some k) (x : Rat) : (zaJ s t x)[j+1]?=some (hgtS s x k):=by
 rw [zaJ,zB3,zyd (by rw [zyA]; exact (zyz.1 h).1),zx4,h]; rfl
theorem zkx {s : Sl} (hs : s.is) (hy : s.lo.y<s.hi.y) {c : Nat} {X Y : Rat} (hN : Nx s c X Y) {t : Ln Nat} (ht : s.S.xs[c]?=some t) {p : Pc} (hp : p∈pcsL s.lo s.hi s.sg.xs) {x y : Rat} (h1 : X<x) (h2 : x<Y) (ho : onS p.a p.b ⟨x,y⟩) :
  ∃ r,r<t.xs.length+2/\(zaJ s t x)[r]?=some y/\∀ x',X<=x'->x'<=Y->∃ h,(zaJ s t x')[r]?=some h/\onS p.a p.b ⟨x',h⟩:=by
 have hXY:=hN.lt hs;obtain ⟨e,he⟩:=zdA hp;have hle:=zkh hp;have ha:=hN.none hs (x:=p.a.x) (by rw [hs.1]; exact ziH.2 (.inr (.inr (.inl ⟨p,hp,.inl rfl⟩))));have hb:=hN.none hs (x:=p.b.x) (by rw [hs.1]; exact ziH.2 (.inr (.inr (.inl ⟨p,hp,.inr rfl⟩))));have hax : p.a.x<=p.b.x:=by unfold leP2 ltP2 at hle; grind
 obtain ⟨a1,b1⟩:=on_x hax ho;have a1 : p.a.x<=x:=a1;have b1 : x<=p.b.x:=b1;have a2 : p.a.x<=X:=by grind
 have b2 : Y<=p.b.x:=by grind
 have hlt : p.a.x<p.b.x:=by grind
 have nv : (p.b-p.a).x≠0:=fun h=>by have : p.b.x-p.a.x=0:=h; grind
 have hH : ∀ x',X<=x'->x'<=Y->onS p.a p.b ⟨x',hgtS s x' p.i⟩:=fun x' c1 c2=>by
  obtain ⟨h,hh⟩:=zww hlt (x:=x') (by grind) (by grind);rw [zh2 he nv hh]; exact hh
 have hy0 : hgtS s x p.i=y:=zh2 he nv ho;have oX:=hH X (by grind) (by grind);have oY:=hH Y (by grind) (by grind);have iX:=(zd6 he.ia he.ib oX).2;have iY:=(zd6 he.ia he.ib oY).2;by_cases hno : hgtS s X p.i=hgtS s Y p.i/\(hgtS s X p.i=s.lo.y\/hgtS s X p.i=s.hi.y)
 ·have flat : ∀ x',X<=x'->x'<=Y->hgtS s x' p.i=hgtS s X p.i:=fun x' c1 c2=>by
   have hc:=zhI oX oY (hH x' c1 c2);rw [<-hno.1,Rat.sub_self,Rat.zero_mul] at hc;rcases zBF.1 hc with h | h <;> grind
  rcases hno.2 with e1 | e1
  ·refine ⟨0,by omega,?_,fun x' c1 c2=>⟨s.lo.y,rfl,?_⟩⟩
   ·rw [zvy,<-hy0,flat x (by grind) (by grind),e1]
   ·have:=hH x' c1 c2; rw [flat x' c1 c2,e1] at this; exact this
  ·refine ⟨t.xs.length+1,by omega,?_,fun x' c1 c2=>⟨s.hi.y,ztc s t x',?_⟩⟩
   ·rw [ztc,<-hy0,flat x (by grind) (by grind),e1]
   ·have:=hH x' c1 c2; rw [flat x' c1 c2,e1] at this; exact this
 ·have hE : Ed s X Y p.i p:=⟨hp,rfl,nv,hH,⟨iX.1,iY.1⟩,⟨iX.2,iY.2⟩,hno⟩;obtain ⟨k',hk',hh⟩:=zto hs hy hN ht hE;obtain ⟨j,hj⟩:=zCd hk';refine ⟨j+1,by have:=(zyz.1 hj).1; omega,?_,fun x' c1 c2=>⟨_,ztj hj x',?_⟩⟩
  ·rw [ztj hj,hh x (by grind) (by grind),hy0]
  ·rw [hh x' c1 c2]; exact hH x' c1 c2
theorem zuH {l : List Rat} (h : Asc l) {i j : Nat} {x : Rat} (hi : l[i]?=some x) (hj : l[j]?=some x) : i=j:=by
 rcases zBt i j with k | k | k
 ·have:=zba h hi hj k; grind
 ·exact k
 ·have:=zba h hj hi k; grind
theorem zgx {s : Sl} {t : Ln Nat} {r : Nat} {x h : Rat} (hh : (zaJ s t x)[r]?=some h) : onP s t r x=⟨x,h⟩:=by rw [onP,zah hh]
theorem zos {s : Sl} (hs : s.is) (hy : s.lo.y<s.hi.y) {x : Cel} (hk : x.k<4) (hx : (x.r : Int)<cntK s x.k x.c) {p : Pc} (hp : p∈pcsL s.lo s.hi s.sg.xs) (ho : onS p.a p.b (cenP s x)) : x.k≠3/\∀ q∈crnL s x,onS p.a p.b q:=by
 obtain ⟨k,c,r⟩:=x;have hk' : k=0\/k=1\/k=2\/k=3:=by have : k<4:=hk; omega
 rcases hk' with rfl | rfl | rfl | rfl
 ·refine ⟨(show (0 : Nat)≠3 by decide),fun q hq=>?_⟩;obtain rfl : q=_:=zyZ.1 hq;exact ho
 ·refine ⟨(show (1 : Nat)≠3 by decide),fun q hq=>?_⟩;obtain ⟨l,X,hl,hX,hr⟩:=zaZ (show (r : Int)<zb2 s 1 c from hx);obtain ⟨y0,hy0⟩ : ∃ y,l.xs[r]?=some y:=⟨_,zyy (by omega)⟩;obtain ⟨y1,hy1⟩ : ∃ y,l.xs[r+1]?=some y:=⟨_,zyy (by omega)⟩;have hll : (s.L.xs.map (·.xs)).getD c []=l.xs:=zah (by rw [zx4,hl]; rfl);have hlX:=zl1 hs hX hl;have hasc : Asc l.xs:=by rw [hlX]; exact zdt _
  have hlt:=zba hasc hy0 hy1 (by omega);have ho : onS p.a p.b ⟨X,(y0+y1)/2⟩:=by
   have e : cenP s ⟨1,c,r⟩=⟨X,(y0+y1)/2⟩:=by
    show midV ⟨s.X.xs.getD c 0,((s.L.xs.map (·.xs)).getD c []).getD r 0⟩ ⟨s.X.xs.getD c 0,((s.L.xs.map (·.xs)).getD c []).getD (r+1) 0⟩=_;rw [hll,zah hX,zah hy0,zah hy1,midV]
    congr 1; grind
   rw [e] at ho; exact ho
  have hq : q=⟨X,y0⟩\/q=⟨X,y1⟩:=by
   have e : crnL s ⟨1,c,r⟩=[⟨X,y0⟩,⟨X,y1⟩]:=by
    show [(⟨s.X.xs.getD c 0,((s.L.xs.map (·.xs)).getD c []).getD r 0⟩ : V),⟨s.X.xs.getD c 0,((s.L.xs.map (·.xs)).getD c []).getD (r+1) 0⟩]=_;rw [hll,zah hX,zah hy0,zah hy1]
   rw [e] at hq;simpa using hq
  have btw : ∀ y∈l.xs,y<=(y0+y1)/2->y<=y0:=fun y hm h=>by
   obtain ⟨j,hj⟩:=zCd hm;by_cases hjr : j<r
   ·exact zBU (zba hasc hj hy0 hjr)
   ·by_cases hjr : j=r
    ·subst hjr; rw [hy0] at hj; cases hj; exact zBR
    ·by_cases hj2 : j=r+1
     ·subst hj2; rw [hy1] at hj; cases hj; grind
     ·have:=zba hasc hy1 hj (by omega); grind
  have btw2 : ∀ y∈l.xs,(y0+y1)/2<=y->y1<=y:=fun y hm h=>by
   obtain ⟨j,hj⟩:=zCd hm;by_cases hjr : j<r
   ·have:=zba hasc hj hy0 hjr; grind
   ·by_cases hjr : j=r
    ·subst hjr; rw [hy0] at hj; cases hj; grind
    ·by_cases hj2 : j=r+1
     ·subst hj2; rw [hy1] at hj; cases hj; exact zBR
     ·exact zBU (zba hasc hy1 hj (by omega))
  by_cases hv : p.a.x=p.b.x
  ·have hle:=zkh hp;obtain ⟨e,he⟩:=zdA hp;have hyy : p.a.y<p.b.y:=by
    unfold leP2 ltP2 at hle;by_cases h3 : p.a.y=p.b.y
    ·exact absurd (show p.a=p.b from by cases hpa : p.a; cases hpb : p.b; rw [hpa,hpb] at h3 hv; simp only at h3 hv; rw [h3,hv]) he.ne
    ·grind
   have ev : ∀ {x h : Rat},onS p.a p.b ⟨x,h⟩↔x=p.a.x/\p.a.y<=h/\h<=p.b.y:=fun {x h}=>by
    have e1 : p.b=⟨p.a.x,p.b.y⟩:=by rw [hv]
    have:=zjK (X:=p.a.x) (x:=x) (h:=h) hyy;rw [e1]; exact this
   obtain ⟨ex,m1,m2⟩:=ev.1 ho;have mem : ∀ y,(y=p.a.y\/y=p.b.y)->y∈l.xs:=fun y h=>by
    rw [hlX];refine zbv.2 (zxB _ (zxB _ (zBP.2 ⟨p,hp,zyT _ ?_⟩)));rw [zxJ ⟨hv,ex.symm⟩];simpa using h
   have l1:=btw p.a.y (mem _ (.inl rfl)) m1;have l2:=btw2 p.b.y (mem _ (.inr rfl)) m2;rcases hq with rfl | rfl
   ·exact ev.2 ⟨ex,l1,by grind⟩
   ·exact ev.2 ⟨ex,by grind,l2⟩
  ·exfalso;have nv : (p.b-p.a).x≠0:=fun h=>hv (by have : p.b.x-p.a.x=0:=h; grind)
   have hO : hgtO p X=some ((y0+y1)/2):=by unfold hgtO; rw [zef nv ho]; rfl
   have hm : (y0+y1)/2∈l.xs:=by
    rw [hlX];refine zbv.2 (zxB _ (zxB _ (zBP.2 ⟨p,hp,zBV _ ?_⟩)));rw [hO]; exact zyZ.2 rfl
   have:=btw _ hm zBR;grind
 ·refine ⟨(show (2 : Nat)≠3 by decide),fun q hq=>?_⟩;obtain ⟨t,X,Y,ht,hX,hY,hr,_⟩:=zaG (show (r : Int)<za6 s 2 c from hx);have hN : Nx s c X Y:=⟨hX,hY⟩;have hXY:=hN.lt hs;have hm1 : X<(X+Y)/2:=by grind
  have hm2 : (X+Y)/2<Y:=by grind
  obtain ⟨a,b,ha,hb,_,_,hrow⟩:=zbQ hs hy hN ht hr;obtain ⟨h,hh,_⟩:=hrow ((X+Y)/2) (by grind) (by grind);have ett : s.S.xs.getD c ⟨none,0,[]⟩=t:=zah ht;have eC : cenP s ⟨2,c,r⟩=⟨(X+Y)/2,h⟩:=by
   show onP s (s.S.xs.getD c ⟨none,0,[]⟩) r ((s.X.xs.getD c 0+s.X.xs.getD (c+1) 0)/2)=_;rw [ett,zah hX,zah hY,zgx hh]
  rw [eC] at ho;obtain ⟨r',hr',h1,h2⟩:=zkx hs hy hN ht hp hm1 hm2 ho;obtain rfl : r=r':=zuH (zdV hs hy hN ht hm1 hm2) hh h1;have hq : q=onP s t r X\/q=onP s t r Y:=by
   have e : crnL s ⟨2,c,r⟩=[onP s t r X,onP s t r Y]:=by
    show [onP s (s.S.xs.getD c ⟨none,0,[]⟩) r (s.X.xs.getD c 0),onP s (s.S.xs.getD c ⟨none,0,[]⟩) r (s.X.xs.getD (c+1) 0)]=_;rw [ett,zah hX,zah hY]
   rw [e] at hq;simpa using hq
  rcases hq with rfl | rfl
  ·obtain ⟨h',e1,e2⟩:=h2 X (by grind) (by grind);rw [zgx e1]; exact e2
  ·obtain ⟨h',e1,e2⟩:=h2 Y (by grind) (by grind);rw [zgx e1]; exact e2
 ·exfalso;obtain ⟨t,X,Y,ht,hX,hY,hr,_⟩:=zaG (show (r : Int)<za6 s 1 c from hx);have hN : Nx s c X Y:=⟨hX,hY⟩;have hXY:=hN.lt hs;have hm1 : X<(X+Y)/2:=by grind
  have hm2 : (X+Y)/2<Y:=by grind
  obtain ⟨_,_,_,_,_,_,hrow⟩:=zbQ hs hy hN ht (r:=r) (by omega);obtain ⟨h,hh,_⟩:=hrow ((X+Y)/2) (by grind) (by grind);obtain ⟨_,_,_,_,_,_,hrow'⟩:=zbQ hs hy hN ht (r:=r+1) (by omega);obtain ⟨h',hh',_⟩:=hrow' ((X+Y)/2) (by grind) (by grind);have hasc:=zdV hs hy hN ht hm1 hm2;have hlt:=zba hasc hh hh' (by omega);have ett : s.S.xs.getD c ⟨none,0,[]⟩=t:=zah ht;have eC : cenP s ⟨3,c,r⟩=⟨(X+Y)/2,(h+h')/2⟩:=by
   show midV (onP s (s.S.xs.getD c ⟨none,0,[]⟩) r ((s.X.xs.getD c 0+s.X.xs.getD (c+1) 0)/2)) (onP s (s.S.xs.getD c ⟨none,0,[]⟩) (r+1) ((s.X.xs.getD c 0+s.X.xs.getD (c+1) 0)/2))=_;rw [ett,zah hX,zah hY,zgx hh,zgx hh',midV]
   congr 1; grind
  rw [eC] at ho;obtain ⟨r',hr',h1,h2⟩:=zkx hs hy hN ht hp hm1 hm2 ho;rcases zBt r' r with k | k | k
  ·have:=zba hasc h1 hh k; grind
  ·subst k;have:=zz1 (hh.symm.trans h1);grind
  ·by_cases k2 : r'=r+1
   ·subst k2;have:=zz1 (hh'.symm.trans h1);grind
   ·have:=zba hasc hh' h1 (by omega); grind
theorem zoD {s : Sl} (hs : s.is) (hy : s.lo.y<s.hi.y) {x : Cel} (hk : x.k<3) (hx : (x.r : Int)<cntK s x.k x.c) {A B : V} (h : ∀ q∈crnL s x,onS A B q) : onS A B (cenP s x):=by
 obtain ⟨k,c,r⟩:=x;have hk' : k=0\/k=1\/k=2:=by have : k<3:=hk; omega
 rcases hk' with rfl | rfl | rfl
 ·exact h _ (zyZ.2 rfl)
 ·have h1:=h _ (zxA ..);have h2:=h _ (zxB _ (zyZ.2 rfl));exact zjb h1 h2
 ·obtain ⟨t,X,Y,ht,hX,hY,hr,_⟩:=zaG (show (r : Int)<za6 s 2 c from hx);have hN : Nx s c X Y:=⟨hX,hY⟩;have hXY:=hN.lt hs;obtain ⟨a,b,ha,hb,_,_,hrow⟩:=zbQ hs hy hN ht hr;obtain ⟨z,hz,ez⟩:=hrow ((X+Y)/2) (by grind) (by grind);have ett : s.S.xs.getD c ⟨none,0,[]⟩=t:=zah ht;have eC : cenP s ⟨2,c,r⟩=⟨(X+Y)/2,z⟩:=by
   show onP s (s.S.xs.getD c ⟨none,0,[]⟩) r ((s.X.xs.getD c 0+s.X.xs.getD (c+1) 0)/2)=_;rw [ett,zah hX,zah hY,zgx hz]
  have e : crnL s ⟨2,c,r⟩=[⟨X,a⟩,⟨Y,b⟩]:=by
   show [onP s (s.S.xs.getD c ⟨none,0,[]⟩) r (s.X.xs.getD c 0),onP s (s.S.xs.getD c ⟨none,0,[]⟩) r (s.X.xs.getD (c+1) 0)]=_;rw [ett,zah hX,zah hY,zgx ha,zgx hb]
  rw [e] at h;have h1:=h _ (zxA ..);have h2:=h _ (zxB _ (zyZ.2 rfl));have:=zjb h1 h2;have ez2 : z=(a+b)/2:=by
   have : (z-(a+b)/2)*(Y-X)=0:=by grind
   rcases zBF.1 this with k | k <;> grind
  rw [eC,ez2]; exact this
theorem zmx {s : Sl} {p : Pc} (hp : p∈pcsL s.lo s.hi s.sg.xs) (L : List V) : covB L p=true↔∀ q∈L,onS p.a p.b q:=by
 obtain ⟨e,he⟩:=zdA hp;rw [covB,zzh,zxk];refine forall_congr' fun q=>forall_congr' fun hq=>?_
 rw [<-zc3 he.ne]
 cases zbW p.a p.b q <;> simp
theorem zkr {s : Sl} {x : Cel} {i : Nat} : i∈zcQ s x↔x.k≠3/\∃ p∈pcsL s.lo s.hi s.sg.xs,p.i=i/\∀ q∈crnL s x,onS p.a p.b q:=by
 unfold zcQ;by_cases h : x.k=3
 ·rw [zxJ h]; exact ⟨fun k=>(by cases k),fun k=>absurd h k.1⟩
 rw [zxI h,zx1];constructor
 ·rintro ⟨p,hp,rfl⟩;obtain ⟨h1,h2⟩:=zAo.1 hp;exact ⟨h,p,h1,rfl,(zmx h1 _).1 h2⟩
 ·rintro ⟨_,p,h1,rfl,h2⟩;exact ⟨p,zAo.2 ⟨h1,(zmx h1 _).2 h2⟩,rfl⟩
def onE (lo hi : V) (e : V×V) (v : V) : Bool:=match zch ⟨PQ lo,PQ hi⟩ e.1 e.2 with
 | none=>false
 | some (c,d)=>!decide (c=d)&&zbW e.1 e.2 v
theorem zmg {lo hi : V} {e : V×V} {c d v : V} (h : zch ⟨PQ lo,PQ hi⟩ e.1 e.2=some (c,d)) (hcd : c≠d) : onS c d v↔onS e.1 e.2 v/\inX lo hi v:=by
 obtain ⟨l,u,hlu,l0,u1,rfl,rfl,hiff⟩:=ziO h;have ic:=(hiff l).1 ⟨zBR,hlu⟩;have iu:=(hiff u).1 ⟨hlu,zBR⟩;constructor
 ·intro ho;exact ⟨zeb ⟨l,ic.1,rfl⟩ ⟨u,iu.1,rfl⟩ ho,zd6 ic.2 iu.2 ho⟩
 ·rintro ⟨⟨t,ht,rfl⟩,hin⟩;obtain ⟨h1,h2⟩:=(hiff t).2 ⟨ht,hin⟩;have hne : l≠u:=fun k=>hcd (by rw [k])
  obtain ⟨z,hz,z0,z1,_⟩:=zdO (d:=t-l) (g:=u-t) (by grind) (by grind) (by grind);refine ⟨z,⟨z0,z1⟩,?_⟩;have e1 : t=l+(u-l)*z:=by grind
  show (⟨e.1.x+(e.2.x-e.1.x)*t,e.1.y+(e.2.y-e.1.y)*t⟩ : V)=⟨(e.1.x+(e.2.x-e.1.x)*l)+((e.1.x+(e.2.x-e.1.x)*u)-(e.1.x+(e.2.x-e.1.x)*l))*z,(e.1.y+(e.2.y-e.1.y)*l)+((e.1.y+(e.2.y-e.1.y)*u)-(e.1.y+(e.2.y-e.1.y)*l))*z⟩;rw [e1]
  congr 1 <;> grind
theorem zo4 {c d v : V} : onS (ordV c d).1 (ordV c d).2 v↔onS c d v:=by
 unfold ordV;split
 ·exact zmB
 ·exact Iff.rfl
theorem zsF {lo hi : V} {E : List (V×V)} {i : Nat} {e : V×V} (he : E[i]?=some e) {p : Pc} (hp : p∈pcsL lo hi E) (hi' : p.i=i) : ∃ c d,zch ⟨PQ lo,PQ hi⟩ e.1 e.2=some (c,d)/\c≠d/\p.a=(ordV c d).1/\p.b=(ordV c d).2:=by
 have key : ∀ (l : List (V×V)) (i : Nat),p∈pcsF lo hi i l->∃ j e,l[j]?=some e/\pcsO lo hi e (i+j)=some p:=fun l=>by
  induction l with
  | nil=>intro i h; cases h
  | cons e r ih =>
   intro i h;rcases zyK.1 h with h | h
   ·refine ⟨0,e,rfl,?_⟩
    cases ho : pcsO lo hi e i with
    | none=>rw [ho] at h; cases h
    | some q=>rw [ho] at h; rw [zyZ.1 h]
   ·obtain ⟨j,e',h1,h2⟩:=ih (i+1) h;exact ⟨j+1,e',by rw [zB3]; exact h1,by rw [show i+(j+1)=i+1+j by omega]; exact h2⟩
 obtain ⟨j,e',h1,h2⟩:=key E 0 hp;rw [zyo] at h2;unfold pcsO at h2;split at h2
 ·cases h2
 ·rename_i c d hc;split at h2
  ·cases h2
  ·rename_i hcd
   cases h2
   have : j=i:=hi';subst this;rw [he] at h1
   cases h1
   exact ⟨c,d,hc,hcd,rfl,rfl⟩
theorem zsG {lo hi : V} {E : List (V×V)} {i : Nat} {e : V×V} (he : E[i]?=some e) {c d : V} (hc : zch ⟨PQ lo,PQ hi⟩ e.1 e.2=some (c,d)) (hcd : c≠d) : (⟨(ordV c d).1,(ordV c d).2,i⟩ : Pc)∈pcsL lo hi E:=by
 have key : ∀ (l : List (V×V)) (k j : Nat),l[j]?=some e->k+j=i->(⟨(ordV c d).1,(ordV c d).2,i⟩ : Pc)∈pcsF lo hi k l:=fun l=>by
  induction l with
  | nil=>intro k j h; simp at h
  | cons a r ih =>
   intro k j h hk
   cases j with
   | zero =>
    cases h
    refine zyT _ ?_;have : pcsO lo hi e k=some ⟨(ordV c d).1,(ordV c d).2,i⟩:=by
     unfold pcsO; rw [hc]; simp only; rw [zxI hcd,show k=i by omega]
    rw [this]; exact zyZ.2 rfl
   | succ j=>exact zBV _ (ih (k+1) j (by rw [zB3] at h; exact h) (by omega))
 exact key E 0 i he (zyo _)
theorem ztD {lo hi : V} {E : List (V×V)} {i : Nat} {e : V×V} (he : E[i]?=some e) (hne : e.1≠e.2) {v : V} (hv : inX lo hi v) : onE lo hi e v=true↔∃ p∈pcsL lo hi E,p.i=i/\onS p.a p.b v:=by
 unfold onE;constructor
 ·intro h;split at h
  ·cases h
  ·rename_i c d hc;rw [zxV,zzh,zBN,zc3 hne] at h;exact ⟨_,zsG he hc h.1,rfl,zo4.2 ((zmg hc h.1).2 ⟨h.2,hv⟩)⟩
 ·rintro ⟨p,hp,hi',ho⟩;obtain ⟨c,d,hc,hcd,e1,e2⟩:=zsF he hp hi';rw [e1,e2,zo4,zmg hc hcd] at ho;rw [hc];show (!decide (c=d)&&zbW e.1 e.2 v)=true;rw [zxV,zzh,zBN,zc3 hne];exact ⟨hcd,ho.1⟩
theorem zqU {s : Sl} (hs : s.is) (hx : s.lo.x<=s.hi.x) (hy : s.lo.y<s.hi.y) {x : Cel} (hk : x.k<4) (hc : (x.r : Int)<cntK s x.k x.c) : inX s.lo s.hi (cenP s x):=ztL hs hx hy (zp9 hs hy hk hc).1
theorem zsk {s : Sl} (hs : s.is) (hx : s.lo.x<=s.hi.x) (hy : s.lo.y<s.hi.y) {x : Cel} (hk : x.k<4) (hc : (x.r : Int)<cntK s x.k x.c) {i : Nat} {e : V×V} (he : s.sg.xs[i]?=some e) (hne : e.1≠e.2) : i∈zcQ s x↔onE s.lo s.hi e (cenP s x)=true:=by
 rw [zkr,ztD he hne (zqU hs hx hy hk hc)];constructor
 ·rintro ⟨h3,p,hp,hi,h⟩;exact ⟨p,hp,hi,zoD hs hy (by omega) hc h⟩
 ·rintro ⟨p,hp,hi,h⟩;obtain ⟨h1,h2⟩:=zos hs hy hk hc hp h;exact ⟨h1,p,hp,hi,h2⟩
end Go.Sx
end
section
namespace Go.Sx
theorem zwj {l : List Rat} {h : Rat} (hm : h∈l) : l[l.idxOf h]?=some h:=by
 have hlt:=List.idxOf_lt_length_of_mem hm;rw [zyy hlt,List.getElem_idxOf]
theorem zt6 {s : Sl} (hs : s.is) (hy : s.lo.y<s.hi.y) {c : Nat} {X Y : Rat} (hN : Nx s c X Y) {t : Ln Nat} (ht : s.S.xs[c]?=some t) {r : Nat} (hr : r<t.xs.length+2) {x h : Rat} (hx : x=X\/x=Y) (hh : (zaJ s t x)[r]?=some h) : h∈ysL s.lo s.hi (pcsL s.lo s.hi s.sg.xs) x:=by
 have hXY:=hN.lt hs;have hm:=zyq hh;rw [zaJ] at hm;rcases zy1.1 hm with rfl | hm
 ·rw [ysL,zbv]; exact zxA ..
 rcases zyK.1 hm with hm | hm
 ·obtain ⟨k,hk,rfl⟩:=zx1.1 hm;obtain ⟨p,hp⟩:=(zin hs hy hN ht).2 k hk;exact zrg hp (by rcases hx with rfl | rfl <;> grind) (by rcases hx with rfl | rfl <;> grind)
 ·rw [zyZ.1 hm,ysL,zbv]; exact zxB _ (zxA ..)
theorem zqO {s : Sl} (hs : s.is) (hy : s.lo.y<s.hi.y) {c r sd : Nat} {X Y : Rat} (hN : Nx s c X Y) {t : Ln Nat} (ht : s.S.xs[c]?=some t) (hr : r<t.xs.length+2) (hsd : sd<2) : ∃ Z l h,(Z=X/\sd=0\/Z=Y/\sd=1)/\s.X.xs[c+sd]?=some Z/\s.L.xs[c+sd]?=some l/\(zaJ s t Z)[r]?=some h/\l.xs[endI s c r sd]?=some h/\Asc l.xs:=by
 obtain ⟨e1,e2,e3⟩:=Sl.is_len hs;obtain ⟨a,b,g1,g2,_,_,_⟩:=zbQ hs hy hN ht hr;have h1:=(zyz.1 hN.x).1;have h2:=(zyz.1 hN.y).1;obtain ⟨Z,h,hZ,hZx,hh⟩ : ∃ Z h,(Z=X/\sd=0\/Z=Y/\sd=1)/\s.X.xs[c+sd]?=some Z/\(zaJ s t Z)[r]?=some h:=by
  match sd,hsd with
  | 0,_=>exact ⟨X,a,.inl ⟨rfl,rfl⟩,hN.x,g1⟩
  | 1,_=>exact ⟨Y,b,.inr ⟨rfl,rfl⟩,hN.y,g2⟩
 obtain ⟨l,hl⟩ : ∃ l,s.L.xs[c+sd]?=some l:=⟨_,zyy (by omega)⟩;have hm : h∈l.xs:=by
  rw [zl1 hs hZx hl];exact zt6 hs hy hN ht hr (by rcases hZ with ⟨h,_⟩ | ⟨h,_⟩; exact .inl h; exact .inr h) hh
 refine ⟨Z,l,h,hZ,hZx,hl,hh,?_,(zfJ hs (zBU hy) hZx hl).asc⟩;have : endI s c r sd=l.xs.idxOf h:=by
  unfold endI;rw [zah hl,zah ht,zah hZx];show l.xs.idxOf ((zaJ s t Z).getD r 0)=_;rw [zah hh]
 rw [this]; exact zwj hm
theorem ziX {s : Sl} (hs : s.is) (hy : s.lo.y<s.hi.y) {c r sd : Nat} {X Y : Rat} (hN : Nx s c X Y) {t : Ln Nat} (ht : s.S.xs[c]?=some t) (hr : r<t.xs.length+2) (hsd : sd<2) : zdi s c r sd:=by
 obtain ⟨Z,l,h,_,hZ,hl,hh,hi,ha⟩:=zqO hs hy hN ht hr hsd;refine ⟨⟨t,ht⟩,⟨Z,hZ⟩,⟨l,hl⟩,fun t' X' l' h1 h2 h3=>?_⟩;rw [ht] at h1; cases h1;rw [hZ] at h2; cases h2;rw [hl] at h3; cases h3;have e : (onP s t r Z).y=h:=by show (zaJ s t Z).getD r 0=h; rw [zah hh]
 rw [e];refine ⟨hi,fun j hj hj2=>?_⟩;have:=zba ha hj2 hi hj; grind
theorem zm5 {s : Sl} (hs : s.is) (hy : s.lo.y<s.hi.y) {c r sd : Nat} {X Y : Rat} (hN : Nx s c X Y) {t : Ln Nat} (ht : s.S.xs[c]?=some t) (hr : r+1<t.xs.length+2) (hsd : sd<2) : endI s c r sd<=endI s c (r+1) sd:=by
 obtain ⟨Z,l,h,hZ1,hZ,hl,hh,hi,ha⟩:=zqO hs hy hN ht (show r<t.xs.length+2 by omega) hsd;obtain ⟨Z',l',h',hZ1',hZ',hl',hh',hi',_⟩:=zqO hs hy hN ht hr hsd;rw [hZ] at hZ'; cases hZ';rw [hl] at hl'; cases hl';obtain ⟨a,b,g1,g2,_,_,_⟩:=zbQ hs hy hN ht (r:=r) (by omega);obtain ⟨a',b',g1',g2',_,_,_⟩:=zbQ hs hy hN ht hr;obtain ⟨m1,m2,_⟩:=zkb hs hy hN ht (show r<r+1 by omega) g1 g2 g1' g2';have hle : h<=h':=by
  rcases hZ1 with ⟨rfl,_⟩ | ⟨rfl,_⟩
  ·rw [hh] at g1; cases g1; rw [hh'] at g1'; cases g1'; exact m1
  ·rw [hh] at g2; cases g2; rw [hh'] at g2'; cases g2'; exact m2
 refine Nat.not_lt.1 fun hlt=>?_
 have:=zba ha hi' hi hlt; grind
theorem ztJ {s : Sl} (hs : s.is) (hy : s.lo.y<s.hi.y) {x : Cel} (hk : x.k<4) (hx : (x.r : Int)<cntK s x.k x.c) : FcOk s x:=by
 obtain ⟨k,c,r⟩:=x;have hk' : k=0\/k=1\/k=2\/k=3:=by have : k<4:=hk; omega
 rcases hk' with rfl | rfl | rfl | rfl
 · exact ⟨fun h=>absurd h (show ¬2<=0 by decide),fun h=>absurd h (show ¬0=3 by decide)⟩
 · exact ⟨fun h=>absurd h (show ¬2<=1 by decide),fun h=>absurd h (show ¬1=3 by decide)⟩
 · obtain ⟨t,X,Y,h1,h2,h3,h4,h5⟩:=zaG (show (r : Int)<za6 s 2 c from hx);exact ⟨fun _=>⟨ziX hs hy ⟨h2,h3⟩ h1 h4 (by decide),ziX hs hy ⟨h2,h3⟩ h1 h4 (by decide)⟩,fun h=>absurd h (show ¬2=3 by decide)⟩
 · obtain ⟨t,X,Y,h1,h2,h3,h4,h5⟩:=zaG (show (r : Int)<za6 s 1 c from hx);exact ⟨fun _=>⟨ziX hs hy ⟨h2,h3⟩ h1 (by show r<_; omega) (by decide),ziX hs hy ⟨h2,h3⟩ h1 (by show r<_; omega) (by decide)⟩,
     fun _=>⟨⟨ziX hs hy ⟨h2,h3⟩ h1 (by show r+1<_; omega) (by decide),ziX hs hy ⟨h2,h3⟩ h1 (by show r+1<_; omega) (by decide)⟩,zm5 hs hy ⟨h2,h3⟩ h1 (by show r+1<_; omega) (by decide),zm5 hs hy ⟨h2,h3⟩ h1 (by show r+1<_; omega) (by decide)⟩⟩
theorem zog {s : Sl} {d f : Cel} (hd : d.k<4) (h : f∈zbf s d) : f.k<d.k:=by
 obtain ⟨k,c,r⟩:=d;have hk' : k=0\/k=1\/k=2\/k=3:=by have : k<4:=hd; omega
 rcases hk' with rfl | rfl | rfl | rfl
 ·cases h
 ·have h : f∈[(⟨0,c,r⟩ : Cel),⟨0,c,r+1⟩]:=h;simp only [zy1,zBL,or_false] at h;rcases h with rfl | rfl <;> exact (show 0<1 by decide)
 ·have h : f∈[(⟨0,c,endI s c r 0⟩ : Cel),⟨0,c+1,endI s c r 1⟩]:=h;simp only [zy1,zBL,or_false] at h;rcases h with rfl | rfl <;> exact (show 0<2 by decide)
 ·have h : f∈zdJ s c r 0++(([⟨2,c,r⟩,⟨2,c,r+1⟩] : List Cel)++zdJ s c r 1):=h;simp only [zyK,zy1,zBL,or_false] at h;show f.k<3;rcases h with h | (rfl | rfl) | h
  ·obtain ⟨_,h2⟩:=zfv h; omega
  ·exact (show 2<3 by decide)
  ·exact (show 2<3 by decide)
  ·obtain ⟨_,h2⟩:=zfv h; omega
theorem zhA (s : Sl) (k c : Nat) (hk : k<4) : zgi s k (c : Int)=zcN s k c:=by
 rw [zgi,zgV s k c hk,zcN]; rfl
theorem zjY (s : Sl) (c : Nat) : colJ s (c : Int) 3=colF s c 3:=by
 simp only [colJ,colF];rw [zhA s _ c (by omega),zhA s _ c (by omega),zhA s _ c (by omega)]
theorem zrf (s : Sl) : colJ s (-1) 3=[]:=by
 have h : ∀ k,zgi s k (-1)=[]:=fun k=>by
  rw [zgi,show cntI s k (-1)=0 from zxI (fun h=>by omega)]; rfl
 simp only [colJ,h]; rfl
theorem zfa {s : Sl} {x : Cel} {p q : Cel->Bool} (hp : p=fun d=>decide (x∈zbf s d)) (hq : q=fun d=>decide (x.k<d.k)&&decide (x∈zbf s d)) (c : Nat) : (colF s c 3).filter p=(colF s c 4).filter q:=by
 have hpq : ∀ d : Cel,d.k<4->p d=q d:=fun d hd=>by
  rw [hp,hq];show decide (x∈zbf s d)=(decide (x.k<d.k)&&decide (x∈zbf s d));by_cases h : x∈zbf s d
  ·rw [zz8 h,zz8 (zog hd h)]; rfl
  ·rw [zz9 h,Bool.and_false]
 have e : colF s c 4=zcN s 0 c++colF s c 3:=rfl;have z : (zcN s 0 c).filter q=[]:=by
  rw [List.filter_eq_nil_iff];intro d hd;obtain ⟨r,_,rfl⟩:=zx1.1 hd;rw [<-hpq ⟨0,c,r⟩ (show 0<4 by decide),hp];exact fun h=>by have:=zA0 h; cases this
 rw [e,zCf,z,zzJ];refine List.filter_congr fun d hd=>hpq d ?_
 simp only [colF,zyK,zBL,or_false] at hd;rcases hd with hd | hd | hd <;> (obtain ⟨r,_,rfl⟩:=zx1.1 hd; first | exact (show 1<4 by decide) | exact (show 2<4 by decide) | exact (show 3<4 by decide))
theorem zuA {s : Sl} {x : Cel} {p : Cel->Bool} (hp : p=fun d=>decide (x∈zbf s d)) : (zir s ((x.c : Int)-1) 2).filter p=zfo s x:=by
 obtain ⟨q,hq⟩ : ∃ q : Cel->Bool,q=fun d=>decide (x.k<d.k)&&decide (x∈zbf s d):=⟨_,rfl⟩
 rw [zfo,<-hq];obtain ⟨k,c,r⟩:=x;show (zir s ((c : Int)-1) 2).filter p=(zcW s (c-1) (c+1-(c-1))).filter q
 cases c with
 | zero =>
  show (colJ s (-1) 3++(colJ s ((0 : Nat) : Int) 3++[])).filter p=(colF s 0 4++[]).filter q;rw [zrf,zzJ,zyP,zyP,zjY];exact zfa hp hq 0
 | succ c =>
  rw [show ((c+1 : Nat) : Int)-1=(c : Int) by omega,show c+1-1=c by omega,show c+1+1-c=2 by omega];show (colJ s (c : Int) 3++(colJ s (((c+1 : Nat)) : Int) 3++[])).filter p=(colF s c 4++(colF s (c+1) 4++[])).filter q;rw [zyP,zyP,zjY,zjY,zCf,zCf,zfa hp hq c,zfa hp hq (c+1)]
theorem zsP (lo hi : V) : ∀ (l : List (V×V)) (k : Nat),((pcsF lo hi k l).map (·.i)).Pairwise (· < ·)/\∀ j∈(pcsF lo hi k l).map (·.i),k<=j/\j<k+l.length
 | [],k=>⟨List.Pairwise.nil,fun j h=>by cases h⟩
 | e::l,k=>by
  obtain ⟨h1,h2⟩:=zsP lo hi l (k+1);have e1 : pcsF lo hi k (e::l)=(pcsO lo hi e k).toList++pcsF lo hi (k+1) l:=rfl;rw [e1,zzL];have h3 : ∀ j∈((pcsO lo hi e k).toList).map (·.i),j=k:=fun j hj=>by
   obtain ⟨p,hp,rfl⟩:=zx1.1 hj;rw [Option.mem_toList] at hp;unfold pcsO at hp;split at hp
   ·cases hp
   ·split at hp
    ·cases hp
    ·cases hp; rfl
  refine ⟨zB5.2 ⟨?_,h1,fun a ha b hb=>?_⟩,fun j hj=>?_⟩
  ·cases pcsO lo hi e k with
   | none=>exact List.Pairwise.nil
   | some p=>exact zB8 _ _
  ·have:=h3 a ha; have:=h2 b hb; omega
  ·rw [zxR];rcases zyK.1 hj with h | h
   ·have:=h3 j h; omega
   ·have:=h2 j h; omega
theorem zu3 {s : Sl} (hs : s.is) (hz : s.sz) (hx : s.lo.x<=s.hi.x) (hy : s.lo.y<s.hi.y) {x : Cel} (hk : x.k<4) (hc : (x.r : Int)<cntK s x.k x.c) :
  (List.range s.sg.xs.length).filter (covN (s.sg.xs.map (clE s.lo s.hi)) (cenP s x))=zcQ s x:=by
 obtain ⟨h1,h2⟩:=zsP s.lo s.hi s.sg.xs 0;have hasc : (zcQ s x).Pairwise (· < ·):=by
  unfold zcQ;split
  ·exact List.Pairwise.nil
  ·exact List.Pairwise.sublist ((List.filter_sublist).map _) h1
 have hlt : ∀ i∈zcQ s x,i<s.sg.xs.length:=fun i hi=>by
  obtain ⟨_,p,hp,rfl,_⟩:=zkr.1 hi;have:=(h2 p.i (zx1.2 ⟨p,hp,rfl⟩)).2;omega
 have hasc' : ((List.range s.sg.xs.length).filter (covN (s.sg.xs.map (clE s.lo s.hi)) (cenP s x))).Pairwise (· < ·):=List.Pairwise.sublist List.filter_sublist List.pairwise_lt_range;refine zBQ (le:=(· < ·)) (fun a b _ _ h k=>by omega) hasc' hasc ?_;refine (List.perm_ext_iff_of_nodup (hasc'.imp (fun h=>Nat.ne_of_lt h)) (hasc.imp (fun h=>Nat.ne_of_lt h))).2 fun i=>?_
 rw [zAo,zy0];have key : ∀ e,s.sg.xs[i]?=some e->(covN (s.sg.xs.map (clE s.lo s.hi)) (cenP s x) i=true↔i∈zcQ s x):=fun e he=>by
  have hne:=(hz.sg e (zyq he)).2;rw [zsk hs hx hy hk hc he hne,covN,zx4,he];show ((!decide ((clE s.lo s.hi e).1=(clE s.lo s.hi e).2))&&zbW (clE s.lo s.hi e).1 (clE s.lo s.hi e).2 (cenP s x))=true↔_;have hin:=zqU hs hx hy hk hc;obtain ⟨u,hu⟩ : ∃ u,u=clE s.lo s.hi e:=⟨_,rfl⟩;rw [<-hu];unfold onE;unfold clE at hu
  cases hcd : zch ⟨PQ s.lo,PQ s.hi⟩ e.1 e.2 with
  | none =>
   rw [hcd] at hu;rw [hu];simp
  | some cd =>
   obtain ⟨c,d⟩:=cd;rw [hcd] at hu;replace hu : u=if c=d then (V0,V0) else ordV c d:=hu
   show ((!decide (u.1=u.2))&&zbW u.1 u.2 (cenP s x))=true↔(!decide (c=d)&&zbW e.1 e.2 (cenP s x))=true;by_cases h : c=d
   ·rw [zxJ h] at hu;rw [hu,zz8 h]; simp
   ·rw [zxI h] at hu;rw [hu,zz9 (ziV h),zz9 h,Bool.not_false,zCh,zCh,zc3 (ziV h),zo4,zmg hcd h,zc3 hne];exact ⟨fun h=>h.1,fun h=>⟨h,hin⟩⟩
 constructor
 ·rintro ⟨hi,h⟩;exact (key _ (zyy hi)).1 h
 ·intro h;exact ⟨hlt i h,(key _ (zyy (hlt i h))).2 h⟩
end Go.Sx
end
section
namespace Go.Sx
open Go Go.Proofs Go.ChangeShapes Go.WideShapes Go.RowKit Go.Deep
section
variable {H : Type} {enc : TypeId×Value->H} {w : World} {base : Nat} {spare : Nat->Bool} {held : Bool} {fuel : Nat} {cs : List Value} {x : DataW H×List MemPlace}
theorem zqQ : PP.cellsOf zaM=12:=by kernel_rfl
theorem zrW (h : DataW.trod enc PP w base spare held fuel zaM cs=some x) : ∃ e : Pt×Pt,cs=sgC e:=by
 obtain ⟨xs,n,_,_,hlen,hxl,hf⟩:=zBS (zab zaM _ rfl).1.und h;rw [zqQ] at hlen;obtain ⟨y0,h0⟩:=zcp (show 0<xs.length by rw [hxl]; decide);obtain ⟨y1,h1⟩:=zcp (show 1<xs.length by rw [hxl]; decide);have g0 : DataW.trod enc PP w base spare held n zaw ((cs.drop 0).take (PP.cellsOf zaw))=xs[0]?:=hf 0 _ rfl;have g1 : DataW.trod enc PP w base spare held n zaw ((cs.drop 6).take (PP.cellsOf zaw))=xs[1]?:=hf 1 _ rfl;rw [h0] at g0; rw [h1] at g1;rw [zff] at g0 g1;obtain ⟨p,e0⟩:=zjd g0;obtain ⟨q,e1⟩:=zjd g1;refine ⟨(p,q),?_⟩;rw [zyJ (by rw [zzw]; omega)] at e1;rw [zAJ] at e0;rw [sgC,<-e0,<-e1,zz0]
theorem zst {r : Reach} {b : Nat} {v : Value} {d : DataW H} {ps : List MemPlace} (hv : Value.okWide PP w r b zaM v) (h : DataW.Trod enc PP w base spare held zaM v d ps) : ∃ s : Bx,v=bxV s:=by
 obtain ⟨cs,rfl,_⟩:=okWide_struct (zab zaM _ rfl).1.und hv;obtain ⟨fuel,hf⟩:=h;obtain ⟨e,hr⟩:=zrW hf;exact ⟨⟨e.1,e.2⟩,by cases cs; exact zyr (fun l : List Value=>Value.agg ⟨l⟩) hr⟩
theorem zsa {r : Reach} {b : Nat} {v : Value} {d : DataW H} {ps : List MemPlace} (hv : Value.okWide PP w r b zbU v) (h : DataW.Trod enc PP w base spare held zbU v d ps) :
  ∃ (A : Option Addr) (c : Nat) (l : List (Pt×Pt)),v=.slice A l.length c/\l.length<=c/\SlF A (rowV sgC l) w:=by
 obtain ⟨a,len,cap,rfl⟩:=okWide_slice (zab zbU _ rfl).1.und hv;obtain ⟨fuel,hf⟩:=h;obtain ⟨A,c,l,e,h1,h2⟩:=zsN sgC zdu (by decide) (zab zbU _ rfl).1.und zf0 zuw hf;exact ⟨A,c,l,List.head_eq_of_cons_eq e,h1,h2⟩
end
end Go.Sx
end
