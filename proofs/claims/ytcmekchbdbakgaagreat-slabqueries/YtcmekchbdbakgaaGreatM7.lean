/- A part of the proof of a law. No conditions. -/
import Derived.Test.YtcmekchbdbakgaaGreatM6
import Derived.Test.YtcmekchbdbakgaaGreatM5
import Derived.KernelRfl
set_option linter.unusedVariables false
set_option linter.unusedSimpArgs false
set_option linter.unusedSectionVars false
set_option maxRecDepth 10000
set_option maxHeartbeats 8000000
section
namespace Go.Sx
open Go Go.Proofs
abbrev zB2:=@List.length_range
abbrev zB1:=@Classical.byContradiction
structure Cel where
 k : Nat
 c : Nat
 r : Nat
deriving DecidableEq
abbrev Cel.C (x : Cel) : List Value:=[.int .i64 x.k,.int .i64 x.c,.int .i64 x.r]
abbrev Cel.V (x : Cel) : Value:=.agg ⟨x.C⟩
theorem Cel.C_len (x : Cel) : x.C.length=3:=rfl
abbrev zB0:=@Cel.C_len
def cntK (s : Sl) : Nat->Nat->Int
 | 0,c=>zb2 s 0 c
 | 1,c=>zb2 s 1 c
 | 2,c=>za6 s 2 c
 | _,c=>za6 s 1 c
def zcN (s : Sl) (k c : Nat) : List Cel:=(List.range (cntK s k c).toNat).map fun r=>⟨k,c,r⟩
def colF (s : Sl) (c : Nat) : Nat->List Cel
 | 0=>[]
 | j+1=>zcN s (3-j) c++colF s c j
def zcW (s : Sl) : Nat->Nat->List Cel
 | _,0=>[]
 | c,n+1=>colF s c 4++zcW s (c+1) n
abbrev zkQ (l : List Cel) : List (List Value):=l.map fun x=>[x.V]
theorem zf4 {l : List Cel} {i : Nat} {x : Cel} {r : List Cel} (h : l.drop i=x::r) : (zkQ l).getD i []=[x.V]/\i<l.length/\l.drop (i+1)=r:=by
 have hi : i<l.length:=zB1 fun hh=>by rw [zzQ (by omega)] at h; cases h
 rw [zzd hi] at h;injection h with h1 h2
 exact ⟨by rw [zzO,zx4,zyy hi,h1]; rfl,hi,h2⟩
theorem zeI {s : Sl} {k c r : Nat} (h : (r : Int)<cntK s k c) : (zcN s k c).drop r=⟨k,c,r⟩::(zcN s k c).drop (r+1):=by
 have hl : r<(zcN s k c).length:=by simp only [zcN,zyA,zB2]; omega
 rw [zzd hl]; simp [zcN]
theorem zfR {s : Sl} {k c r : Nat} (h : ¬(r : Int)<cntK s k c) : (zcN s k c).drop r=[]:=zzQ (by simp only [zcN,zyA,zB2]; omega)
theorem zm8 {s : Sl} (hs : s.small) (k c : Nat) : cntK s k c<=1000002:=by
 obtain ⟨s1,s2,s3,s4,s5,s6⟩:=hs;have h1 : ∀ d,zb2 s d c<=1000002:=fun d=>by
  unfold zb2; split
  ·rename_i h;have:=s4 _ (zAp h.1);rw [zzO,zx4,zyy h.1];simp only [zxp,zyS]; omega
  ·omega
 have h2 : ∀ d,d<=2->za6 s d c<=1000002:=fun d hd=>by
  unfold za6; split
  ·rename_i h;have:=s5 _ (zAp h.1);rw [zzO,zx4,zyy h.1];simp only [zxp,zyS]; omega
  ·omega
 match k with
 | 0=>exact h1 0
 | 1=>exact h1 1
 | 2=>exact h2 2 (by omega)
 | _+3=>exact h2 1 (by omega)
abbrev slM (s : Sl) : ME:=.box (s.C.map AV.v) zaL
theorem zvg (s : Sl) (fr to : Int) : FnM PP 54 [s.V,.int .i64 fr,.int .i64 to] (facts []) (zld 104 [[.int .i64 fr],[.int .i64 to],s.C]):=by
 refine FnF.of zab mixed Tryz.func54 rfl rfl (zxW rfl) (by simp) ?_;intro w hw;conv=>whnf
 refine ⟨[4,5,3],rfl,rfl,fun i k c h1 h2=>?_⟩
 match i with
 | 0=>cases h1; cases h2; rfl
 | 1=>cases h1; cases h2; rfl
 | 2=>cases h1; cases h2; rfl
 | i+3=>cases h1
theorem zs0 (af at' as' : Addr) (s : Sl) (fi : Int) (fr to : Nat) (hs : s.small) (ht : to<=1000000) (hft : fr<=to) (hfi : (if (0 : Int)>fi then 0 else fi)=(fr : Int)) :
  SeqC PP 104 [ptrV af,ptrV at',ptrV as'] (zai (some af) [.int .i64 fi]::zai (some at') [.int .i64 to]::zai (some as') s.C::s.F) (zkQ (zcW s fr (to-fr))):=by
 refine SeqC.ofX zab mixed Tryz.func104 rfl rfl (zxW rfl) (fun R hR=>?_) ?_
 ·simp only [zy1] at hR;rcases hR with rfl | rfl | rfl | hR
  ·exact zzk _ _
  ·exact zzk _ _
  ·exact zzk _ _
  ·exact s.F_ok R hR
 intro yl W B R X hW hy hx;obtain ⟨bf,o_f,rfl⟩:=zbT (hW _ (zxA ..)) (by simp);obtain ⟨bt,ot,rfl⟩:=zbT (hW _ (zxB _ (zxA ..))) (by simp);obtain ⟨bs',os',rfl⟩:=zbT (hW _ (zxB _ (zxB _ (zxA ..)))) (by simp [Sl.C]);obtain ⟨cells,hcells⟩ : ∃ cs,cs=zcW s fr (to-fr):=⟨_,rfl⟩;rw [<-hcells] at hy ⊢;refine zy7 zab mixed ?_;conv=>whnf
 refine hx _ _ _ _ _ _ 0 [] _ rfl zbI.enters (zzq zbI rfl (by simp)) (fun i R hR=>?_) (fun ⟨a1,a2,a3,a4⟩ hex=>?_)
 ·simp only [zy1,zBL,or_false] at hR;rcases hR with rfl | rfl | rfl | rfl <;> exact zzk _ _
 conv=>whnf
 have hm1 : ∀ {S} (A : List Res),S∈A->S∈R [] 0 []::A:=fun _ h=>zxB _ h
 obtain ⟨ex,hexd⟩ : ∃ ex,ex=zrT a1 a2 a3 a4:=⟨_,rfl⟩;obtain ⟨base,hbase⟩ : ∃ base,base=zai (some ⟨bf,o_f,none⟩) [Value.int .i64 fi]::zai (some ⟨bt,ot,none⟩) [Value.int .i64 to]::zai (some ⟨bs',os',none⟩) s.C::s.F:=⟨_,rfl⟩;rw [<-hbase] at hy hx hW;have hin : ∀ {S} (i : Nat) (Z : List Nat),S∈base->S∈R ex i Z::(ex++base):=fun i Z h=>zxB _ (zBV _ h)
 have hinx : ∀ {S} (i : Nat) (Z : List Nat),S∈ex->S∈R ex i Z::(ex++base):=fun i Z h=>zxB _ (zyT _ h)
 have b1 : zai (some ⟨bf,o_f,none⟩) [Value.int .i64 fi]∈base:=by rw [hbase]; exact zxA ..
 have b2 : zai (some ⟨bt,ot,none⟩) [Value.int .i64 to]∈base:=by rw [hbase]; exact zxB _ (zxA ..)
 have b3 : zai (some ⟨bs',os',none⟩) s.C∈base:=by rw [hbase]; exact zxB _ (zxB _ (zxA ..))
 have b4 : ∀ {S},S∈s.F->S∈base:=fun h=>by rw [hbase]; exact zxB _ (zxB _ (zxB _ h))
 refine zzv (off:=0) (xs:=[Value.int .i64 fi]) (by have:=hin 0 [] b1; rw [hexd,hbase] at this; exact this) (zbJ _ _) (zxW rfl) (by decide) (fun _=>rfl) ?_;conv=>whnf
 refine zal (ι:=Nat×Nat×List Nat) (fun ⟨col,q,Z⟩=>⟨[(0,.o (.v (zcX yl))),(1,.o (.v (ptrV ⟨bf,o_f,none⟩))),(2,.o (.v (ptrV ⟨bt,ot,none⟩))),(3,.o (.v (ptrV ⟨bs',os',none⟩))),(5,.o (.p 5 0)),(6,.o (.v (.int .i64 col)))],[(5,.box ((zdQ a1 a2 a3 a4).map AV.v) zaP)],R ex q Z::(ex++base)⟩)
  (fun ⟨col,q,Z⟩=>fr<=col/\col<=to/\cells.drop q=zcW s col (to-col)/\q<=cells.length) (fun ⟨col,_,_⟩=>to-col) (fr,0,[]) ⟨zxr _,hft,by rw [zAJ]; exact hcells,zyD _⟩
  (zzj ⟨rfl,rfl,rfl,rfl,rfl,?_,trivial⟩ ⟨mrf rfl,trivial⟩ (fun S hS=>by rw [hexd,hbase] at hS; exact hS)) ?_
 ·show some (SV.o (.v (.int .i64 (if (0 : Int)>fi then 0 else fi))))=some (SV.o (.v (.int .i64 fr)));rw [hfi]
 rintro ⟨col,q,Z⟩ ⟨hc1,hc2,hq,hql⟩;conv=>whnf
 refine zzv (off:=0) (xs:=[Value.int .i64 to]) (hin _ _ b2) (zbJ _ _) (zxW rfl) (by decide) (fun _=>rfl) ?_;conv=>whnf
 by_cases hct : col<to;rotate_left
 ·refine zac (zz9 (show ¬(col : Int)<(to : Int) by omega)) ?_;conv=>whnf
  rw [show to-col=0 by omega] at hq;have hql2 : cells.length<=q:=List.drop_eq_nil_iff.1 hq;exact .inl ⟨ex,Z,by rw [zyA,show cells.length=q by omega]; exact zxA ..⟩
 refine zag (zz8 (show (col : Int)<(to : Int) by omega)) ?_;rw [show to-col=(to-(col+1))+1 by omega] at hq;obtain ⟨rest,hrest⟩ : ∃ r,r=zcW s (col+1) (to-(col+1)):=⟨_,rfl⟩;replace hq : cells.drop q=colF s col 4++rest:=by rw [hrest]; exact hq
 conv=>whnf
 refine zal (ι:=Nat×Nat×List Nat) (fun ⟨j,q,Z⟩=>⟨[(0,.o (.v (zcX yl))),(1,.o (.v (ptrV ⟨bf,o_f,none⟩))),(2,.o (.v (ptrV ⟨bt,ot,none⟩))),(3,.o (.v (ptrV ⟨bs',os',none⟩))),(5,.o (.p 5 0)),(6,.o (.v (.int .i64 col))),(18,.o (.v (.agg ⟨zdQ a1 a2 a3 a4⟩))),(19,.o (.v (.int .i64 j)))],[(5,.box ((zdQ a1 a2 a3 a4).map AV.v) zaP)],R ex q Z::(ex++base)⟩)
  (fun ⟨j,q,Z⟩=>j<=4/\cells.drop q=colF s col (4-j)++rest/\q<=cells.length) (fun ⟨j,_,_⟩=>4-j) (0,q,Z) ⟨zyD _,hq,hql⟩
  (zzj ⟨rfl,rfl,rfl,rfl,rfl,rfl,rfl,rfl,trivial⟩ ⟨mrf rfl,trivial⟩ (fun S hS=>hS)) ?_
 clear hq hql;rintro ⟨j,q,Z⟩ ⟨hj4,hq,hql⟩;conv=>whnf
 by_cases hj : j<4;rotate_left
 ·refine zac (zz9 (show ¬(j : Int)<(4 : Int) by omega)) ?_;conv=>whnf
  rw [show 4-j=0 by omega] at hq;exact ⟨(col+1,q,Z),⟨by omega,by omega,by rw [<-hrest]; exact hq,hql⟩,by show to-(col+1)<to-col; omega,zzj ⟨rfl,rfl,rfl,rfl,rfl,zaq hct (by omega),trivial⟩ ⟨mrf rfl,trivial⟩ (fun S hS=>hS)⟩
 refine zag (zz8 (show (j : Int)<(4 : Int) by omega)) ?_;have hj' : j=0\/j=1\/j=2\/j=3:=by omega
 rcases hj' with rfl | rfl | rfl | rfl
 ·replace hq : cells.drop q=(zcN s 0 col).drop 0++(colF s col 3++rest):=by rw [hq,<-zyF]; rfl
  refine ⟨⟨by decide,by decide⟩,?_⟩;conv=>whnf
  refine zzv (off:=0) (xs:=s.C) (hin _ _ b3) (zbJ _ _) (zxW rfl) (by decide) (fun h=>by cases h) ?_;conv=>whnf
  refine cfs (zhW a1 0 s col hs (by omega) (by omega)) ?_ rfl (fun S hS=>?_);rotate_left
  ·rcases zy1.1 hS with rfl | hS
   ·exact hinx _ _ (by rw [hexd]; exact zxB _ (zxB _ (zxB _ (zxA ..))))
   ·exact hin _ _ (b4 hS)
  obtain ⟨cn,hcn⟩ : ∃ cn,cn=zb2 s 0 col:=⟨_,rfl⟩;have hck : cntK s 0 col=cn:=hcn.symm;have hcl:=zm8 hs 0 col;rw [hck] at hcl;rw [<-hcn];conv=>whnf
  refine zal (ι:=Nat×Nat×List Nat) (fun ⟨r,q,Z⟩=>⟨[(0,.o (.v (zcX yl))),(1,.o (.v (ptrV ⟨bf,o_f,none⟩))),(2,.o (.v (ptrV ⟨bt,ot,none⟩))),(3,.o (.v (ptrV ⟨bs',os',none⟩))),(5,.o (.p 5 0)),(6,.o (.v (.int .i64 col))),(18,.o (.v (.agg ⟨zdQ a1 a2 a3 a4⟩))),(19,.o (.v (.int .i64 0))),(7,.o (.v (.int .i64 0))),(27,.o (.v (.int .i64 cn))),(28,.o (.v (.int .i64 r)))],[(5,.box ((zdQ a1 a2 a3 a4).map AV.v) zaP)],R ex q Z::(ex++base)⟩)
   (fun ⟨r,q,Z⟩=>r<=cn.toNat/\cells.drop q=(zcN s 0 col).drop r++(colF s col 3++rest)/\q<=cells.length) (fun ⟨r,_,_⟩=>cn.toNat-r) (0,q,Z) ⟨zyD _,hq,hql⟩
   (zzj ⟨rfl,rfl,rfl,rfl,rfl,rfl,rfl,rfl,rfl,rfl,rfl,trivial⟩ ⟨mrf rfl,trivial⟩ (fun S hS=>hS)) ?_
  clear hq hql;rintro ⟨r,q,Z⟩ ⟨hr,hq,hql⟩;conv=>whnf
  by_cases hrc : (r : Int)<cn
  ·refine zag (zz8 hrc) ?_;rw [zeI (by rw [hck]; exact hrc)] at hq;obtain ⟨g1,g2,g3⟩:=zf4 hq;conv=>whnf
   refine hy ex q Z _ _ _ (by rw [zyA]; exact g2) (by rw [hexd]; exact hex) rfl (by rw [g1]; rfl) (fun Z'=>?_) (fun Z'=>?_)
   ·conv=>whnf
    exact ⟨(r+1,q+1,Z'),⟨by omega,g3,by omega⟩,by show cn.toNat-(r+1)<cn.toNat-r; omega,zzj ⟨rfl,rfl,rfl,rfl,rfl,rfl,rfl,rfl,rfl,rfl,zaq (n:=1000003) (by omega) (by omega),trivial⟩ ⟨mrf rfl,trivial⟩ (fun S hS=>hS)⟩
   ·conv=>whnf
    exact .inr ⟨ex,Z',zxA ..⟩
  ·refine zac (zz9 hrc) ?_;rw [zfR (by rw [hck]; exact hrc)] at hq;conv=>whnf
   exact ⟨(1,q,Z),⟨by decide,hq,hql⟩,by show 4-1<4-0; decide,zzj ⟨rfl,rfl,rfl,rfl,rfl,rfl,rfl,rfl,trivial⟩ ⟨mrf rfl,trivial⟩ (fun S hS=>hS)⟩
 ·replace hq : cells.drop q=(zcN s 1 col).drop 0++(colF s col 2++rest):=by rw [hq,<-zyF]; rfl
  refine ⟨⟨by decide,by decide⟩,?_⟩;conv=>whnf
  refine zzv (off:=0) (xs:=s.C) (hin _ _ b3) (zbJ _ _) (zxW rfl) (by decide) (fun h=>by cases h) ?_;conv=>whnf
  refine cfs (zhW a2 1 s col hs (by omega) (by omega)) ?_ rfl (fun S hS=>?_);rotate_left
  ·rcases zy1.1 hS with rfl | hS
   ·exact hinx _ _ (by rw [hexd]; exact zxB _ (zxB _ (zxA ..)))
   ·exact hin _ _ (b4 hS)
  obtain ⟨cn,hcn⟩ : ∃ cn,cn=zb2 s 1 col:=⟨_,rfl⟩;have hck : cntK s 1 col=cn:=hcn.symm;have hcl:=zm8 hs 1 col;rw [hck] at hcl;rw [<-hcn];conv=>whnf
  refine zal (ι:=Nat×Nat×List Nat) (fun ⟨r,q,Z⟩=>⟨[(0,.o (.v (zcX yl))),(1,.o (.v (ptrV ⟨bf,o_f,none⟩))),(2,.o (.v (ptrV ⟨bt,ot,none⟩))),(3,.o (.v (ptrV ⟨bs',os',none⟩))),(5,.o (.p 5 0)),(6,.o (.v (.int .i64 col))),(18,.o (.v (.agg ⟨zdQ a1 a2 a3 a4⟩))),(19,.o (.v (.int .i64 1))),(7,.o (.v (.int .i64 1))),(27,.o (.v (.int .i64 cn))),(28,.o (.v (.int .i64 r)))],[(5,.box ((zdQ a1 a2 a3 a4).map AV.v) zaP)],R ex q Z::(ex++base)⟩)
   (fun ⟨r,q,Z⟩=>r<=cn.toNat/\cells.drop q=(zcN s 1 col).drop r++(colF s col 2++rest)/\q<=cells.length) (fun ⟨r,_,_⟩=>cn.toNat-r) (0,q,Z) ⟨zyD _,hq,hql⟩
   (zzj ⟨rfl,rfl,rfl,rfl,rfl,rfl,rfl,rfl,rfl,rfl,rfl,trivial⟩ ⟨mrf rfl,trivial⟩ (fun S hS=>hS)) ?_
  clear hq hql;rintro ⟨r,q,Z⟩ ⟨hr,hq,hql⟩;conv=>whnf
  by_cases hrc : (r : Int)<cn
  ·refine zag (zz8 hrc) ?_;rw [zeI (by rw [hck]; exact hrc)] at hq;obtain ⟨g1,g2,g3⟩:=zf4 hq;conv=>whnf
   refine hy ex q Z _ _ _ (by rw [zyA]; exact g2) (by rw [hexd]; exact hex) rfl (by rw [g1]; rfl) (fun Z'=>?_) (fun Z'=>?_)
   ·conv=>whnf
    exact ⟨(r+1,q+1,Z'),⟨by omega,g3,by omega⟩,by show cn.toNat-(r+1)<cn.toNat-r; omega,zzj ⟨rfl,rfl,rfl,rfl,rfl,rfl,rfl,rfl,rfl,rfl,zaq (n:=1000003) (by omega) (by omega),trivial⟩ ⟨mrf rfl,trivial⟩ (fun S hS=>hS)⟩
   ·conv=>whnf
    exact .inr ⟨ex,Z',zxA ..⟩
  ·refine zac (zz9 hrc) ?_;rw [zfR (by rw [hck]; exact hrc)] at hq;conv=>whnf
   exact ⟨(2,q,Z),⟨by decide,hq,hql⟩,by show 4-2<4-1; decide,zzj ⟨rfl,rfl,rfl,rfl,rfl,rfl,rfl,rfl,trivial⟩ ⟨mrf rfl,trivial⟩ (fun S hS=>hS)⟩
 ·replace hq : cells.drop q=(zcN s 2 col).drop 0++(colF s col 1++rest):=by rw [hq,<-zyF]; rfl
  refine ⟨⟨by decide,by decide⟩,?_⟩;conv=>whnf
  refine zzv (off:=0) (xs:=s.C) (hin _ _ b3) (zbJ _ _) (zxW rfl) (by decide) (fun h=>by cases h) ?_;conv=>whnf
  refine cfs (zft a3 2 s col hs (by omega) (by omega)) ?_ rfl (fun S hS=>?_);rotate_left
  ·rcases zy1.1 hS with rfl | hS
   ·exact hinx _ _ (by rw [hexd]; exact zxB _ (zxA ..))
   ·exact hin _ _ (b4 hS)
  obtain ⟨cn,hcn⟩ : ∃ cn,cn=za6 s 2 col:=⟨_,rfl⟩;have hck : cntK s 2 col=cn:=hcn.symm;have hcl:=zm8 hs 2 col;rw [hck] at hcl;rw [<-hcn];conv=>whnf
  refine zal (ι:=Nat×Nat×List Nat) (fun ⟨r,q,Z⟩=>⟨[(0,.o (.v (zcX yl))),(1,.o (.v (ptrV ⟨bf,o_f,none⟩))),(2,.o (.v (ptrV ⟨bt,ot,none⟩))),(3,.o (.v (ptrV ⟨bs',os',none⟩))),(5,.o (.p 5 0)),(6,.o (.v (.int .i64 col))),(18,.o (.v (.agg ⟨zdQ a1 a2 a3 a4⟩))),(19,.o (.v (.int .i64 2))),(7,.o (.v (.int .i64 2))),(27,.o (.v (.int .i64 cn))),(28,.o (.v (.int .i64 r)))],[(5,.box ((zdQ a1 a2 a3 a4).map AV.v) zaP)],R ex q Z::(ex++base)⟩)
   (fun ⟨r,q,Z⟩=>r<=cn.toNat/\cells.drop q=(zcN s 2 col).drop r++(colF s col 1++rest)/\q<=cells.length) (fun ⟨r,_,_⟩=>cn.toNat-r) (0,q,Z) ⟨zyD _,hq,hql⟩
   (zzj ⟨rfl,rfl,rfl,rfl,rfl,rfl,rfl,rfl,rfl,rfl,rfl,trivial⟩ ⟨mrf rfl,trivial⟩ (fun S hS=>hS)) ?_
  clear hq hql;rintro ⟨r,q,Z⟩ ⟨hr,hq,hql⟩;conv=>whnf
  by_cases hrc : (r : Int)<cn
  ·refine zag (zz8 hrc) ?_;rw [zeI (by rw [hck]; exact hrc)] at hq;obtain ⟨g1,g2,g3⟩:=zf4 hq;conv=>whnf
   refine hy ex q Z _ _ _ (by rw [zyA]; exact g2) (by rw [hexd]; exact hex) rfl (by rw [g1]; rfl) (fun Z'=>?_) (fun Z'=>?_)
   ·conv=>whnf
    exact ⟨(r+1,q+1,Z'),⟨by omega,g3,by omega⟩,by show cn.toNat-(r+1)<cn.toNat-r; omega,zzj ⟨rfl,rfl,rfl,rfl,rfl,rfl,rfl,rfl,rfl,rfl,zaq (n:=1000003) (by omega) (by omega),trivial⟩ ⟨mrf rfl,trivial⟩ (fun S hS=>hS)⟩
   ·conv=>whnf
    exact .inr ⟨ex,Z',zxA ..⟩
  ·refine zac (zz9 hrc) ?_;rw [zfR (by rw [hck]; exact hrc)] at hq;conv=>whnf
   exact ⟨(3,q,Z),⟨by decide,hq,hql⟩,by show 4-3<4-2; decide,zzj ⟨rfl,rfl,rfl,rfl,rfl,rfl,rfl,rfl,trivial⟩ ⟨mrf rfl,trivial⟩ (fun S hS=>hS)⟩
 ·replace hq : cells.drop q=(zcN s 3 col).drop 0++(colF s col 0++rest):=by rw [hq,<-zyF]; rfl
  refine ⟨⟨by decide,by decide⟩,?_⟩;conv=>whnf
  refine zzv (off:=0) (xs:=s.C) (hin _ _ b3) (zbJ _ _) (zxW rfl) (by decide) (fun h=>by cases h) ?_;conv=>whnf
  refine cfs (zft a4 1 s col hs (by omega) (by omega)) ?_ rfl (fun S hS=>?_);rotate_left
  ·rcases zy1.1 hS with rfl | hS
   ·exact hinx _ _ (by rw [hexd]; exact zxA ..)
   ·exact hin _ _ (b4 hS)
  obtain ⟨cn,hcn⟩ : ∃ cn,cn=za6 s 1 col:=⟨_,rfl⟩;have hck : cntK s 3 col=cn:=hcn.symm;have hcl:=zm8 hs 3 col;rw [hck] at hcl;rw [<-hcn];conv=>whnf
  refine zal (ι:=Nat×Nat×List Nat) (fun ⟨r,q,Z⟩=>⟨[(0,.o (.v (zcX yl))),(1,.o (.v (ptrV ⟨bf,o_f,none⟩))),(2,.o (.v (ptrV ⟨bt,ot,none⟩))),(3,.o (.v (ptrV ⟨bs',os',none⟩))),(5,.o (.p 5 0)),(6,.o (.v (.int .i64 col))),(18,.o (.v (.agg ⟨zdQ a1 a2 a3 a4⟩))),(19,.o (.v (.int .i64 3))),(7,.o (.v (.int .i64 3))),(27,.o (.v (.int .i64 cn))),(28,.o (.v (.int .i64 r)))],[(5,.box ((zdQ a1 a2 a3 a4).map AV.v) zaP)],R ex q Z::(ex++base)⟩)
   (fun ⟨r,q,Z⟩=>r<=cn.toNat/\cells.drop q=(zcN s 3 col).drop r++(colF s col 0++rest)/\q<=cells.length) (fun ⟨r,_,_⟩=>cn.toNat-r) (0,q,Z) ⟨zyD _,hq,hql⟩
   (zzj ⟨rfl,rfl,rfl,rfl,rfl,rfl,rfl,rfl,rfl,rfl,rfl,trivial⟩ ⟨mrf rfl,trivial⟩ (fun S hS=>hS)) ?_
  clear hq hql;rintro ⟨r,q,Z⟩ ⟨hr,hq,hql⟩;conv=>whnf
  by_cases hrc : (r : Int)<cn
  ·refine zag (zz8 hrc) ?_;rw [zeI (by rw [hck]; exact hrc)] at hq;obtain ⟨g1,g2,g3⟩:=zf4 hq;conv=>whnf
   refine hy ex q Z _ _ _ (by rw [zyA]; exact g2) (by rw [hexd]; exact hex) rfl (by rw [g1]; rfl) (fun Z'=>?_) (fun Z'=>?_)
   ·conv=>whnf
    exact ⟨(r+1,q+1,Z'),⟨by omega,g3,by omega⟩,by show cn.toNat-(r+1)<cn.toNat-r; omega,zzj ⟨rfl,rfl,rfl,rfl,rfl,rfl,rfl,rfl,rfl,rfl,zaq (n:=1000003) (by omega) (by omega),trivial⟩ ⟨mrf rfl,trivial⟩ (fun S hS=>hS)⟩
   ·conv=>whnf
    exact .inr ⟨ex,Z',zxA ..⟩
  ·refine zac (zz9 hrc) ?_;rw [zfR (by rw [hck]; exact hrc)] at hq;conv=>whnf
   exact ⟨(4,q,Z),⟨by decide,hq,hql⟩,by show 4-4<4-3; decide,zzj ⟨rfl,rfl,rfl,rfl,rfl,rfl,rfl,rfl,trivial⟩ ⟨mrf rfl,trivial⟩ (fun S hS=>hS)⟩
theorem cl1 (L : List Cel) (x : Cel) : app (rowV Cel.C L) x.C=rowV Cel.C (L++[x]):=by
 rw [za4,zaE]; simp [rowV]
theorem znc {l : List Cel} {i : Nat} {x : Cel} (h : l[i]?=some x) : (zkQ l).getD i []=[x.V]:=by
 rw [zzO,zx4,h]; rfl
theorem zkH (gf : FuncId) (caps : List Value) (re : List Res) (cells : List Cel) (hseq : SeqC PP gf caps re (zkQ cells)) (hl : cells.length<=1000000000) :
  FnM PP 103 [nilV,.func (.func gf) #[] ⟨caps⟩] (facts re) (zbD zao 3 cells.length (rowV Cel.C cells)):=by
 refine zzl zab mixed Tryz.func103 rfl rfl (zxW rfl) hseq.ok (post:=fun l st=>zuC zao 3 cells.length (rowV Cel.C cells) l st\/(cells=[]/\l=[.o (.v nilV)])) (fun w l st E w' hp hm=>hp.elim (fun hp=>znN hp hm) (fun h=>?_)) ?_
 ·obtain ⟨rfl,rfl⟩:=h;exact ⟨_,rfl,zyQ _ _ _ _,hm.ext.below⟩
 intro w hw;refine zy9 zab mixed ?_;conv=>whnf
 refine zAk ?_;refine zy9 zab mixed ?_;conv=>whnf
 refine zAl ?_;refine WPS.range zab mixed rfl rfl hseq (fun S hS=>hS) 1 [(2,.o (.p 13 0))]
  (fun i (_ : Unit)=>match i with
   | 0=>[(13,.box [.v nilV] zbl)]
   | i+1=>[(13,.box [.w 12] zbl),(12,.own zao 3 (i+1) (rowV Cel.C (cells.take (i+1))))])
  (fun i _=>i<=cells.length) () (zyD _) (zzi (fun k=>bif Nat.beq k 13 then 2 else k) ⟨rfl,trivial⟩ ⟨mrf rfl,trivial⟩ rfl (fun R hR=>hR)) rfl
  (fun i j _=>match i with
   | 0=>⟨rfl,rfl⟩
   | i+1=>⟨rfl,rfl⟩) rfl (fun x hx=>by obtain ⟨e,_,rfl⟩:=zx1.1 hx; rfl) rfl ?_ ?_
 ·intro W1 X i j Rx hi _;rw [zyA] at hi;obtain ⟨x,hx⟩ : ∃ x,cells[i]?=some x:=⟨_,zyy hi⟩;rw [znc hx];have htk:=zaD hx
  match i with
  | 0 =>
   conv=>whnf
   refine ⟨rfl,fun Ry=>?_⟩;conv=>whnf
   refine ⟨⟨by show 0+1<=_; omega,by show (0+1)*24<=_; omega⟩,?_⟩;conv=>whnf
   refine ⟨(),by omega,?_⟩;refine zzi (fun k=>bif Nat.beq k 12 then 11 else k) trivial ⟨mrf rfl,⟨_,rfl,?_⟩,trivial⟩ rfl (fun R hR=>hR) (.inr (fun j=>zmm (zxW rfl)));rw [htk,<-cl1];exact .refl _
  | i+1 =>
   conv=>whnf
   refine ⟨rfl,fun Ry=>?_⟩;conv=>whnf
   refine ⟨⟨by show i+1+1<=_; omega,by show (i+1+1)*24<=_; omega⟩,?_⟩;conv=>whnf
   refine ⟨(),by omega,?_⟩;refine zzi (fun k=>bif Nat.beq k 12 then 11 else k) trivial ⟨mrf rfl,⟨_,rfl,?_⟩,trivial⟩ rfl (fun R hR=>hR) (.inr (fun j=>zmm (zxW rfl)));rw [htk,<-cl1];exact .refl _
 ·intro j _;refine zy7 zab mixed ?_
  cases cells with
  | nil =>
   conv=>whnf
   exact .inr ⟨rfl,rfl⟩
  | cons x r =>
   conv=>whnf
   refine .inl ⟨12,rfl,?_⟩;show some (ME.own zao 3 ((zkQ r).length+1) (rowV Cel.C ((x::r).take ((zkQ r).length+1))))=_;rw [zyA,show r.length+1=(x::r).length from rfl,zyJ (zxr _)]
theorem zoA (gf : FuncId) (caps : List Value) (re : List Res) (cells : List Cel) (hseq : SeqC PP gf caps re (zkQ cells)) (hl : cells.length<=1000000000) :
  FnM PP 53 [.func (.func gf) #[] ⟨caps⟩] (facts re) (zbD zao 3 cells.length (rowV Cel.C cells)):=by
 refine zzp zab mixed Tryz.func53 rfl rfl (zxW rfl) hseq.ok ?_;intro w hw;have h:=zkH gf caps re cells hseq hl;conv=>whnf
 refine zzs 4 h.enters (zzq h rfl (fun R h=>h)) rfl rfl ?_;conv=>whnf
 exact ⟨4,rfl,rfl⟩
theorem zae.f3 {P : Program} {C : Cx} {st : SS} {g g' : FuncId} {args : List SV} {c1 c2 c3 : List Value} {K : SV->SS->Prop} (hE : Enters P g) (h : zaC P g args st (zld g' [c1,c2,c3]))
  (hk : ∀ a1 a2 a3,K (.o (.v (.func (.func g') #[] ⟨[ptrV a1,ptrV a2,ptrV a3]⟩))) { st with re:=zai (some a1) c1::zai (some a2) c2::zai (some a3) c3::st.re }) : zae P C g args st K:=by
 refine ⟨hE,fun E w hm=>(h E w (fun k mm _ hk=>hm.ent k mm hk) (fun R hR=>(hm.res R hR).2.1)).mono ?_⟩;rintro e w' ⟨av,hlen,rfl,hcs,hb⟩;obtain ⟨a1,a2,a3,rfl⟩ : ∃ a1 a2 a3,av=[a1,a2,a3]:=by
  match av,hlen with
  | [a,b,c],_=>exact ⟨a,b,c,rfl⟩
 obtain ⟨f1,n1⟩:=hcs 0 a1 c1 rfl rfl;obtain ⟨f2,n2⟩:=hcs 1 a2 c2 rfl rfl;obtain ⟨f3,n3⟩:=hcs 2 a3 c3 rfl rfl;have hm':=hm.world (st:=st) hb;have key : ∀ (a : Addr) (c : List Value),w.heap.size<=a.block->∀ b∈(zai (some a) c).bs,∀ k m,lk k st.me=some m->E.β k≠some b:=fun a c hn b hb' k m hkk hβ=>by
  have h1:=zkN hb';have:=(hm.ge k m b hkk hβ).2;omega
 refine ⟨E,{ st with re:=zai (some a1) c1::zai (some a2) c2::zai (some a3) c3::st.re },.o (.v (.func (.func g') #[] ⟨[ptrV a1,ptrV a2,ptrV a3]⟩)),rfl,?_,zxu hb,fun i sv hi=>⟨sv,hi,rfl⟩,hk a1 a2 a3⟩;exact ((hm'.more (zzk _ _) f3 (key a3 c3 n3)).more (zzk _ _) f2 (key a2 c2 n2)).more (zzk _ _) f1 (key a1 c1 n1)
def zdC (s : Sl) : List Cel:=zcW s 0 s.X.xs.length
theorem zqk (s : Sl) (hs : s.small) (hl : (zdC s).length<=1000000000) : FnM PP 12 [s.V] (facts s.F) (zbD zao 3 (zdC s).length (rowV Cel.C (zdC s))):=by
 refine zzp zab mixed Tryz.func12 rfl rfl (zxW rfl) s.F_ok ?_;intro w hw;have ha:=zvg s 0 s.X.xs.length;conv=>whnf
 refine zae.f3 ha.enters (zzq ha rfl (by simp)) (fun a1 a2 a3=>?_);have hsq:=zs0 a1 a2 a3 s 0 0 s.X.xs.length hs hs.1 (zyD _) rfl;have hc:=zoA _ _ _ (zdC s) hsq hl;conv=>whnf
 refine zzs 8 hc.enters (zzq hc rfl (fun R h=>h)) rfl rfl ?_;conv=>whnf
 exact ⟨8,rfl,rfl⟩
theorem ziL (s : Sl) (x : Cel) (hs : s.small) (hx : x.k<4/\x.c<=1000000) : FnM PP 32 [s.V,x.V] (facts s.F) (zaR (.bool (decide ((x.r : Int)<cntK s x.k x.c)))):=by
 refine zzo zab mixed Tryz.func32 rfl rfl (zxW rfl) s.F_ok ?_;intro w hw;obtain ⟨k,c,r⟩:=x;simp only at hx ⊢;have hk : k=0\/k=1\/k=2\/k=3:=by omega
 rcases hk with rfl | rfl | rfl | rfl
 ·conv=>whnf
  refine zBI zbI.enters (zzq zbI rfl (by simp)) (fun i R hR=>?_) (fun ⟨a1,a2,a3,a4⟩ hex=>?_)
  ·simp only [zy1,zBL,or_false] at hR;rcases hR with rfl | rfl | rfl | rfl <;> exact zzk _ _
  conv=>whnf
  refine zak.qk ?_;conv=>whnf
  refine ⟨⟨show (0 : Int)<=(0 : Int) by decide,show (0 : Int)<4 by decide⟩,?_⟩;conv=>whnf
  refine cds (zhW a1 0 s c hs (by omega) (by omega)) ?_ rfl (fun S hS=>?_);rotate_left
  ·rcases zy1.1 hS with rfl | hS
   ·exact zyT _ (zxB _ (zxB _ (zxB _ (zxA ..))))
   ·exact zBV _ hS
  conv=>whnf
  exact zaa rfl
 ·conv=>whnf
  refine zBI zbI.enters (zzq zbI rfl (by simp)) (fun i R hR=>?_) (fun ⟨a1,a2,a3,a4⟩ hex=>?_)
  ·simp only [zy1,zBL,or_false] at hR;rcases hR with rfl | rfl | rfl | rfl <;> exact zzk _ _
  conv=>whnf
  refine zak.qk ?_;conv=>whnf
  refine ⟨⟨show (0 : Int)<=(1 : Int) by decide,show (1 : Int)<4 by decide⟩,?_⟩;conv=>whnf
  refine cds (zhW a2 1 s c hs (by omega) (by omega)) ?_ rfl (fun S hS=>?_);rotate_left
  ·rcases zy1.1 hS with rfl | hS
   ·exact zyT _ (zxB _ (zxB _ (zxA ..)))
   ·exact zBV _ hS
  conv=>whnf
  exact zaa rfl
 ·conv=>whnf
  refine zBI zbI.enters (zzq zbI rfl (by simp)) (fun i R hR=>?_) (fun ⟨a1,a2,a3,a4⟩ hex=>?_)
  ·simp only [zy1,zBL,or_false] at hR;rcases hR with rfl | rfl | rfl | rfl <;> exact zzk _ _
  conv=>whnf
  refine zak.qk ?_;conv=>whnf
  refine ⟨⟨show (0 : Int)<=(2 : Int) by decide,show (2 : Int)<4 by decide⟩,?_⟩;conv=>whnf
  refine cds (zft a3 2 s c hs (by omega) (by omega)) ?_ rfl (fun S hS=>?_);rotate_left
  ·rcases zy1.1 hS with rfl | hS
   ·exact zyT _ (zxB _ (zxA ..))
   ·exact zBV _ hS
  conv=>whnf
  exact zaa rfl
 ·conv=>whnf
  refine zBI zbI.enters (zzq zbI rfl (by simp)) (fun i R hR=>?_) (fun ⟨a1,a2,a3,a4⟩ hex=>?_)
  ·simp only [zy1,zBL,or_false] at hR;rcases hR with rfl | rfl | rfl | rfl <;> exact zzk _ _
  conv=>whnf
  refine zak.qk ?_;conv=>whnf
  refine ⟨⟨show (0 : Int)<=(3 : Int) by decide,show (3 : Int)<4 by decide⟩,?_⟩;conv=>whnf
  refine cds (zft a4 1 s c hs (by omega) (by omega)) ?_ rfl (fun S hS=>?_);rotate_left
  ·rcases zy1.1 hS with rfl | hS
   ·exact zyT _ (zxA ..)
   ·exact zBV _ hS
  conv=>whnf
  exact zaa rfl
abbrev zB3:=@List.getElem?_cons_succ
abbrev KY : Nat:=300000
def hgtS (s : Sl) (x : Rat) (k : Nat) : Rat:=match s.sg.xs[k]? with
 | some e=>(hgtE e.1 e.2 x).1
 | none=>0
def zaJ (s : Sl) (l : Ln Nat) (x : Rat) : List Rat:=s.lo.y::(l.xs.map (hgtS s x)++[s.hi.y])
def zoo (s : Sl) (l : Ln Nat) (x : Rat) : List (List Value):=(zaJ s l x).zipIdx.map fun e=>[.int .i64 (e.2 : Int),qV e.1]
theorem zfP {s : Sl} {l : Ln Nat} {x y : Rat} {i : Nat} (h : (zaJ s l x)[i]?=some y) : (zoo s l x).getD i []=[.int .i64 (i : Int),qV y]:=by
 rw [zzO,zoo,zx4,List.getElem?_zipIdx,h]; simp
theorem zhO (s : Sl) (l : Ln Nat) (x : Rat) : (zoo s l x).length=l.xs.length+2:=by simp [zoo,zaJ]
structure Sl.sz (s : Sl) : Prop where
 sg : ∀ e∈s.sg.xs,(SzV K0 e.1/\SzV K0 e.2)/\e.1≠e.2
 lo : SzV K0 s.lo
 hi : SzV K0 s.hi
theorem zpS (s : Sl) (col : Nat) (x : Rat) : FnM PP 120 [s.V,.int .i64 col,qV x] (facts []) (zld 187 [s.C,[.int .i64 col],ratQ x]):=by
 refine FnF.of zab mixed Tryz.func120 rfl rfl (zxW rfl) (by simp) ?_;intro w hw;conv=>whnf
 refine ⟨[3,4,5],rfl,rfl,fun i k c h1 h2=>?_⟩
 match i with
 | 0=>cases h1; cases h2; rfl
 | 1=>cases h1; cases h2; rfl
 | 2=>cases h1; cases h2; rfl
 | i+3=>cases h1
theorem zof (as' ac ax : Addr) (s : Sl) (col : Nat) (l : Ln Nat) (x : Rat) (hs : s.small) (hz : s.sz) (hl : s.S.xs[col]?=some l) (hx : Sz KY x) :
   SeqC PP 187 [ptrV as',ptrV ac,ptrV ax] (zai (some as') s.C::zai (some ac) [.int .i64 col]::zai (some ax) (ratQ x)::s.F) (zoo s l x):=by
 refine SeqC.of zab mixed Tryz.func187 rfl rfl (zxW rfl) (fun R hR=>?_) ?_
 · simp only [zy1] at hR;rcases hR with rfl | rfl | rfl | hR
   · exact zzk _ _
   · exact zzk _ _
   · exact zzk _ _
   · exact s.F_ok R hR
 intro yl W B R X hW hy;obtain ⟨bs',os',rfl⟩:=zbT (hW _ (zxA ..)) (by simp [Sl.C]);obtain ⟨bc,oc,rfl⟩:=zbT (hW _ (zxB _ (zxA ..))) (by simp);obtain ⟨bx,ox,rfl⟩:=zbT (hW _ (zxB _ (zxB _ (zxA ..)))) (by intro h; cases h);rw [zhO] at hy ⊢;obtain ⟨base,hbase⟩ : ∃ base,base=zai (some ⟨bs',os',none⟩) s.C::zai (some ⟨bc,oc,none⟩) [Value.int .i64 col]::zai (some ⟨bx,ox,none⟩) (ratQ x)::s.F:=⟨_,rfl⟩;have hlm:=zyq hl;have hcl : col<s.S.xs.length:=(zyz.1 hl).1;obtain ⟨s1,s2,s3,s4,s5,s6⟩:=hs;have hll:=s5 l hlm;have b1 : zai (some ⟨bs',os',none⟩) s.C∈base:=by rw [hbase]; exact zxA ..
 have b2 : zai (some ⟨bc,oc,none⟩) [Value.int .i64 col]∈base:=by rw [hbase]; exact zxB _ (zxA ..)
 have b3 : zai (some ⟨bx,ox,none⟩) (ratQ x)∈base:=by rw [hbase]; exact zxB _ (zxB _ (zxA ..))
 have b4 : ∀ {S},S∈s.F->S∈base:=fun h=>by rw [hbase]; exact zxB _ (zxB _ (zxB _ h))
 rw [<-hbase] at hy hW ⊢;have hAS : 0<s.S.xs.length->s.S.A.isSome=true:=fun h=>zam (hW _ (b4 zBX)) (by rw [zad zBT]; omega)
 have hAl : 0<l.xs.length->l.A.isSome=true:=fun h=>zam (hW _ (b4 (Sl.F_s hlm))) (by rw [zad zdo]; omega)
 have hAg : 0<s.sg.xs.length->s.sg.A.isSome=true:=fun h=>zam (hW _ (b4 Sl.F_sg)) (by rw [zad zaT]; omega)
 have hin : ∀ {S} (i : Nat) (Z : List Nat),S∈base->S∈R i Z::base:=fun i Z h=>zxB _ h
 refine zy7 zab mixed ?_;conv=>whnf
 refine zzv (off:=1+2) (xs:=s.C) (hin _ _ b1) rfl (zxW rfl) (by decide) (fun h=>by cases h) ?_;conv=>whnf
 refine hy 0 [] _ _ _ (by omega) rfl (by rw [zfP (y:=s.lo.y) rfl]; rfl) (fun Z0=>?_) (fun Z0=>?_);rotate_left
 · conv=>whnf
   exact .inr ⟨Z0,zxA ..⟩
 conv=>whnf
 refine zzv (off:=15) (xs:=s.C) (hin _ _ b1) rfl (zxW rfl) (by decide) (fun _=>rfl) ?_;conv=>whnf
 refine zzv (off:=0) (xs:=[Value.int .i64 col]) (hin _ _ b2) (zbJ _ _) (zxW rfl) (by decide) (fun _=>rfl) ?_;conv=>whnf
 refine ⟨⟨by omega,by omega,hAS (by omega)⟩,?_⟩;conv=>whnf
 refine zan.nat (A:=s.S.A) Ln.C zBT (hin _ _ (b4 zBX)) rfl hl ?_;obtain ⟨l',rfl⟩ : ∃ z,z=l:=⟨_,rfl⟩;conv=>whnf
 refine zal (ι:=Nat×List Nat) (fun ⟨i,Z⟩=>⟨[(0,.o (.v (zcX yl))),(1,.o (.v (ptrV ⟨bs',os',none⟩))),(2,.o (.v (ptrV ⟨bc,oc,none⟩))),(3,.o (.v (ptrV ⟨bx,ox,none⟩))),(19,.o (.v l'.V)),(20,.o (.v (.int .i64 l'.xs.length))),(21,.o (.v (.int .i64 i)))],[],R (i+1) Z::base⟩)
   (fun ⟨i,Z⟩=>i<=l'.xs.length) (fun ⟨i,Z⟩=>l'.xs.length-i) (0,Z0) (zyD _) (zzj ⟨rfl,rfl,rfl,rfl,rfl,rfl,rfl,trivial⟩ trivial (fun R hR=>hR)) ?_
 rintro ⟨i,Z⟩ hi0;have hi0 : i<=l'.xs.length:=hi0;conv=>whnf
 by_cases hi : i<l'.xs.length;rotate_left
 · refine zac (zz9 (show ¬(i : Int)<(l'.xs.length : Int) by omega)) ?_;conv=>whnf
   refine zak.at 12 (by kernel_rfl) ?_;conv=>whnf
   refine zzv (off:=15) (xs:=s.C) (hin _ _ b1) rfl (zxW rfl) (by decide) (fun _=>rfl) ?_;conv=>whnf
   refine zzv (off:=0) (xs:=[Value.int .i64 col]) (hin _ _ b2) (zbJ _ _) (zxW rfl) (by decide) (fun _=>rfl) ?_;conv=>whnf
   refine ⟨⟨by omega,by omega,hAS (by omega)⟩,?_⟩;conv=>whnf
   refine zan.nat (A:=s.S.A) Ln.C zBT (hin _ _ (b4 zBX)) rfl hl ?_;obtain ⟨l2,rfl⟩ : ∃ z,z=l':=⟨_,rfl⟩;conv=>whnf
   refine zzv (off:=6+3) (xs:=s.C) (hin _ _ b1) rfl (zxW rfl) (by decide) (fun h=>by cases h) ?_;conv=>whnf
   have hlast : (zaJ s l2 x)[l2.xs.length+1]?=some s.hi.y:=by rw [zaJ,zB3,zyg (by simp)]; simp
   refine hy (i+1) Z _ _ _ (by omega) rfl (by
     rw [show i=l2.xs.length by omega,zfP hlast];show [SV.o (.v (.int .i64 (IntKind.i64.wrap ((l2.xs.length : Int)+1)))),SV.o (.v (qV s.hi.y))]=_;rw [wrap_i64 (by omega) (by omega)]; rfl) (fun Z'=>?_) (fun Z'=>?_)
   · conv=>whnf
     exact .inl ⟨Z',by rw [show l2.xs.length+2=i+1+1 by omega]; exact zxA ..⟩
   · conv=>whnf
     exact .inr ⟨Z',zxA ..⟩
 refine zag (zz8 (show (i : Int)<(l'.xs.length : Int) by omega)) ?_;obtain ⟨k,hk⟩ : ∃ k,l'.xs[i]?=some k:=⟨_,zyy hi⟩;have hxi : (zaJ s l' x)[i+1]?=some (hgtS s x k):=by
   rw [zaJ,zB3,zyd (by simpa using hi),zx4,hk]; rfl
 conv=>whnf
 refine ⟨⟨by omega,by omega,hAl (by omega)⟩,?_⟩;conv=>whnf
 refine zan.nat (A:=l'.A) intC zdo (hin _ _ (b4 (Sl.F_s hlm))) rfl hk ?_;obtain ⟨k',rfl⟩ : ∃ z,z=k:=⟨_,rfl⟩;conv=>whnf
 refine zzv (off:=12) (xs:=s.C) (hin _ _ b1) rfl (zxW rfl) (by decide) (fun _=>rfl) ?_;conv=>whnf
 have hfin : ∀ v,v=hgtS s x k'->[SV.o (.v (.int .i64 (IntKind.i64.wrap ((i : Int)+1)))),SV.o (.v (qV v))]=vsv ((zoo s l' x).getD (i+1) []):=fun v hv=>by
   rw [zfP hxi,hv,wrap_i64 (by omega) (by omega)]; rfl
 have hdone : ∀ Z',some (SV.o (.v (.int .i64 (IntKind.i64.wrap ((i : Int)+1)))))=some (SV.o (.v (.int .i64 (((i+1,Z') : Nat×List Nat).1 : Nat)))):=fun Z'=>zaq hi (by omega)
 by_cases hks : k' < s.sg.xs.length;rotate_left
 · refine zac (zz9 (show ¬(k' : Int)<(s.sg.xs.length : Int) by omega)) ?_;conv=>whnf
   refine hy (i+1) Z _ _ _ (by omega) rfl (by have:=hfin 0 (by rw [hgtS,zym (by omega)]); rw [q0] at this; exact this) (fun Z'=>?_) (fun Z'=>?_)
   · conv=>whnf
     exact ⟨(i+1,Z'),by show i+1<=l'.xs.length; omega,by show l'.xs.length-(i+1)<l'.xs.length-i; omega,zzj ⟨rfl,rfl,rfl,rfl,rfl,rfl,hdone Z',trivial⟩ trivial (fun S hS=>hS)⟩
   · conv=>whnf
     exact .inr ⟨Z',zxA ..⟩
 refine zag (zz8 (show (k' : Int)<(s.sg.xs.length : Int) by omega)) ?_;obtain ⟨e,he⟩ : ∃ e,s.sg.xs[k']?=some e:=⟨_,zyy hks⟩;have heo:=hz.sg e (zyq he);conv=>whnf
 refine zy4 [(10,7,[9])] (by kernel_rfl) ?_;conv=>whnf
 refine zzv (off:=12) (xs:=s.C) (hin _ _ b1) rfl (zxW rfl) (by decide) (fun _=>rfl) ?_;conv=>whnf
 refine ⟨⟨by omega,by omega,hAg (by omega)⟩,?_⟩;conv=>whnf
 refine zan.nat (A:=s.sg.A) sgq zaT (hin _ _ (b4 Sl.F_sg)) rfl he ?_;obtain ⟨e',rfl⟩ : ∃ z,z=e:=⟨_,rfl⟩;conv=>whnf
 refine zzv (off:=0) (xs:=ratQ x) (hin _ _ b3) (zbJ _ _) (zxW rfl) (by decide) (fun h=>by cases h) ?_;conv=>whnf
 have hh:=zmt ⟨PQ e'.1,PQ e'.2⟩ (Q x) ⟨heo.1.1.q.le (by decide),heo.1.2.q.le (by decide)⟩ (hx.q.le (by decide));have hd : ¬zb3 ⟨PQ e'.1,PQ e'.2⟩:=fun h=>heo.2 (by have:=zaI.1 h; simpa using this)
 rw [zcV,zxI hd,Q_v,show (⟨PQ e'.1,PQ e'.2⟩ : Sg).A.v=e'.1 from PQ_v _,show (⟨PQ e'.1,PQ e'.2⟩ : Sg).B.v=e'.2 from PQ_v _] at hh;refine cd hh ?_;conv=>whnf
 refine hy (i+1) Z _ _ _ (by omega) rfl (hfin (hgtE e'.1 e'.2 x).1 (by rw [hgtS,he])) (fun Z'=>?_) (fun Z'=>?_)
 · conv=>whnf
   exact ⟨(i+1,Z'),by show i+1<=l'.xs.length; omega,by show l'.xs.length-(i+1)<l'.xs.length-i; omega,zzj ⟨rfl,rfl,rfl,rfl,rfl,rfl,hdone Z',trivial⟩ trivial (fun S hS=>hS)⟩
 · conv=>whnf
   exact .inr ⟨Z',zxA ..⟩
def onP (s : Sl) (l : Ln Nat) (row : Nat) (x : Rat) : V:=⟨x,(zaJ s l x).getD row 0⟩
theorem c_on (s : Sl) (col row : Nat) (l : Ln Nat) (x : Rat) (hs : s.small) (hz : s.sz) (hl : s.S.xs[col]?=some l) (hx : Sz KY x) (hr : row<=1000000000) :
  FnM PP 60 [s.V,.int .i64 col,.int .i64 row,qV x] (facts s.F) (zaR (pV (PQ (onP s l row x)))):=by
 refine zzl zab mixed Tryz.func60 rfl rfl (zxW rfl) s.F_ok (fun w l st E w' hp hm=>zeS hp hm) ?_;intro w hw;have hh:=zpS s col x;refine zy9 zab mixed ?_;conv=>whnf
 refine zAk ?_;refine zy9 zab mixed ?_;conv=>whnf
 refine zae.f3 hh.enters (zzq hh rfl (by simp)) (fun a1 a2 a3=>?_);have hsq:=zof a1 a2 a3 s col l x hs hz hl hx;conv=>whnf
 refine zAl ?_;refine WPS.range zab mixed rfl rfl hsq (fun S hS=>hS) 3 [(7,.o (.p 25 0)),(6,.o (.p 26 0)),(8,.o (.p 27 0))]
  (fun i (_ : Unit)=>[(25,.box ((ratQ x).map AV.v) zat),(26,.box [.v (.int .i64 row)] zbw),(27,.box ((ptC S0.A).map AV.v) zaw)])
  (fun i _=>i<=row) () (zyD _) (zzi (fun k=>bif Nat.beq k 25 then 7 else bif Nat.beq k 26 then 6 else bif Nat.beq k 27 then 8 else k) ⟨rfl,rfl,rfl,trivial⟩ ⟨mrf rfl,mrf rfl,mrf rfl,trivial⟩ rfl (fun R hR=>hR)) rfl
  (fun i j _=>⟨rfl,rfl⟩) rfl (fun x hx=>by obtain ⟨e,_,rfl⟩:=zx1.1 hx; rfl) rfl ?_ ?_
 ·intro W1 X i j Rx hi hir;rw [zhO] at hi;obtain ⟨y,hy⟩ : ∃ y,(zaJ s l x)[i]?=some y:=⟨_,zyy (by simp only [zaJ,zxR,zz2,zyA,zAK]; omega)⟩;rw [zfP hy];conv=>whnf
  refine ⟨rfl,fun Ry=>?_⟩;conv=>whnf
  by_cases hr : i=row
  ·refine zag (show ((i : Int)==(row : Int))=true by rw [zyY]; omega) ?_;have hon : onP s l row x=⟨x,y⟩:=by rw [onP,zzO,<-hr,hy]; rfl
   conv=>whnf
   refine ⟨[(25,.box ((ratQ x).map AV.v) zat),(26,.box [.v (.int .i64 row)] zbw),(27,.box ((ptC (PQ ⟨x,y⟩)).map AV.v) zaw)],rfl,rfl,zzj trivial ⟨mrf rfl,mrf rfl,mrf rfl,trivial⟩ (fun R h=>h),?_⟩;rw [hon];conv=>whnf
   exact zaa rfl
  ·refine zac (show ((i : Int)==(row : Int))=false by rw [zBO]; omega) ?_;conv=>whnf
   exact ⟨(),by omega,zzj trivial ⟨mrf rfl,mrf rfl,mrf rfl,trivial⟩ (fun R h=>h)⟩
 ·intro j hj;rw [zhO] at hj;have hon : onP s l row x=⟨x,0⟩:=by rw [onP,zzO,zym (by simp only [zaJ,zxR,zz2,zyA,zAK]; omega)]; rfl
  rw [hon];refine zy7 zab mixed ?_;conv=>whnf
  refine zaa ?_;rw [show PQ (⟨x,0⟩ : V)=⟨Q x,Q 0⟩ from rfl,zd8]; rfl
structure Sl.szX (s : Sl) : Prop where
 X : ∀ x∈s.X.xs,Sz KX x
 L : ∀ l∈s.L.xs,∀ y∈l.xs,Sz 200000 y
theorem zeW (s : Sl) (col row : Nat) (l : Ln Rat) (x y : Rat) (hl : s.L.xs[col]?=some l) (hx : s.X.xs[col]?=some x) (hy : l.xs[row]?=some y) :
  FnM PP 59 [s.V,.int .i64 col,.int .i64 row] (facts s.F) (zaR (pV (PQ ⟨x,y⟩))):=by
 refine zzo zab mixed Tryz.func59 rfl rfl (zxW rfl) s.F_ok ?_;intro w hw;have h1:=(zyz.1 hl).1;have h2:=(zyz.1 hx).1;have h3:=(zyz.1 hy).1;have hAL : s.L.A.isSome=true:=zam (hw _ zBW) (by rw [zad zBT]; omega);have hAX : s.X.A.isSome=true:=zam (hw _ zBY) (by rw [zad zas]; omega);have hAl : l.A.isSome=true:=zam (hw _ (zBZ (zyq hl))) (by rw [zad zas]; omega);conv=>whnf
 refine zak.qk ?_;conv=>whnf
 refine ⟨⟨by omega,by omega,hAX⟩,?_⟩;conv=>whnf
 refine zan.nat (A:=s.X.A) ratQ zas zBY rfl hx ?_;obtain ⟨x',rfl⟩ : ∃ z,z=x:=⟨_,rfl⟩;conv=>whnf
 refine ⟨⟨by omega,by omega,hAL⟩,?_⟩;conv=>whnf
 refine zan.nat (A:=s.L.A) Ln.C zBT zBW rfl hl ?_;obtain ⟨l',rfl⟩ : ∃ z,z=l:=⟨_,rfl⟩;conv=>whnf
 refine ⟨⟨by omega,by omega,hAl⟩,?_⟩;conv=>whnf
 refine zan.nat (A:=l'.A) ratQ zas (zBZ (zyq hl)) rfl hy ?_;obtain ⟨y',rfl⟩ : ∃ z,z=y:=⟨_,rfl⟩;conv=>whnf
 exact zaa rfl
def midV (p q : V) : V:=⟨(p.x+q.x)/2,(p.y+q.y)/2⟩
theorem zvk (p q : V) (hp : SzV 400000 p) (hq : SzV 400000 q) : Fn PP 57 [pV (PQ p),pV (PQ q)] (pV (PQ (midV p q))):=by
 refine zzn zab mixed Tryz.func57 rfl rfl (zxW rfl) ?_;intro w;conv=>whnf
 refine zak.qk ?_;conv=>whnf
 refine cd (zkR p.x q.x (hp.1.le (by decide)) (hq.1.le (by decide))) ?_;conv=>whnf
 refine cd (zkR p.y q.y (hp.2.le (by decide)) (hq.2.le (by decide))) ?_;conv=>whnf
 exact zaa rfl
theorem ztv {A B : V} {x : Rat} (hA : SzV K0 A) (hB : SzV K0 B) (hx : Sz KY x) : Sz 400000 (hgtE A B x).1:=by
 have z0 : Sz 400000 (0 : Rat):=(show Sz 1 (0 : Rat) from ⟨by decide,by decide⟩).le (by decide);unfold hgtE;split
 ·exact z0
 ·split
  ·exact (hA.2.add (((hx.sub hA.1).div (hB.sub hA).1).mul (hB.sub hA).2)).le (by decide)
  ·exact z0
theorem zfC {s : Sl} (hz : s.sz) {l : Ln Nat} {row : Nat} {x : Rat} (hx : Sz KY x) : SzV 400000 (onP s l row x):=by
 refine ⟨hx.le (by decide),?_⟩;have z0 : Sz 400000 (0 : Rat):=(show Sz 1 (0 : Rat) from ⟨by decide,by decide⟩).le (by decide);have hall : ∀ y∈zaJ s l x,Sz 400000 y:=fun y hy=>by
  rcases zy1.1 hy with rfl | hy
  ·exact hz.lo.2.le (by decide)
  rcases zyK.1 hy with hy | hy
  ·obtain ⟨k,_,rfl⟩:=zx1.1 hy;unfold hgtS;split
   ·rename_i e he; have:=hz.sg e (zyq he); exact ztv this.1.1 this.1.2 hx
   ·exact z0
  ·rw [zyZ.1 hy]; exact hz.hi.2.le (by decide)
 show Sz 400000 ((zaJ s l x).getD row 0);rw [zzO]
 cases h : (zaJ s l x)[row]? with
 | none=>exact z0
 | some y=>exact hall y (zyq h)
def cenP (s : Sl) (x : Cel) : V :=
 let X:=s.X.xs.getD x.c 0
 let l:=(s.L.xs.map (·.xs)).getD x.c []
 let xm:=(X+s.X.xs.getD (x.c+1) 0)/2
 let t:=s.S.xs.getD x.c ⟨none,0,[]⟩
 match x.k with
 | 0=>⟨X,l.getD x.r 0⟩
 | 1=>midV ⟨X,l.getD x.r 0⟩ ⟨X,l.getD (x.r+1) 0⟩
 | 2=>onP s t x.r xm
 | _=>midV (onP s t x.r xm) (onP s t (x.r+1) xm)
theorem zaZ {s : Sl} {d c r : Nat} (h : (r : Int)<zb2 s d c) : ∃ l x,s.L.xs[c]?=some l/\s.X.xs[c]?=some x/\r+d<l.xs.length:=by
 unfold zb2 at h;split at h
 ·rename_i hc;refine ⟨s.L.xs[c],s.X.xs[c],zyy hc.1,zyy hc.2,?_⟩;rw [zzO,zx4,zyy hc.1] at h;simp only [zxp,zyS] at h;omega
 ·omega
theorem zaG {s : Sl} {d c r : Nat} (h : (r : Int)<za6 s d c) : ∃ t x y,s.S.xs[c]?=some t/\s.X.xs[c]?=some x/\s.X.xs[c+1]?=some y/\r<t.xs.length+d/\c+1<s.L.xs.length:=by
 unfold za6 at h;split at h
 ·rename_i hc;refine ⟨s.S.xs[c],s.X.xs[c],s.X.xs[c+1],zyy hc.1,zyy (by omega),zyy hc.2.1,?_,hc.2.2⟩;rw [zzO,zx4,zyy hc.1] at h;simp only [zxp,zyS] at h;omega
 ·omega
theorem zah {α : Type} {l : List α} {i : Nat} {x d : α} (h : l[i]?=some x) : l.getD i d=x:=by rw [zzO,h]; rfl
theorem ziC (s : Sl) (x : Cel) (hs : s.small) (hz : s.sz) (hzx : s.szX) (hk : x.k<4) (hx : (x.r : Int)<cntK s x.k x.c) : FnM PP 16 [s.V,x.V] (facts s.F) (zaR (.tuple #[pV (PQ (cenP s x)),.int .i64 0])):=by
 refine zzo zab mixed Tryz.func16 rfl rfl (zxW rfl) s.F_ok ?_;intro w hw;obtain ⟨k,c,r⟩:=x;replace hx : (r : Int)<cntK s k c:=hx;replace hk : k<4:=hk;have hs':=hs;obtain ⟨s1,s2,s3,s4,s5,s6⟩:=hs';have hc : c<=1000000:=by
  have hk' : k=0\/k=1\/k=2\/k=3:=by omega
  rcases hk' with rfl | rfl | rfl | rfl
  ·obtain ⟨l,x,h1,h2,h3⟩:=zaZ hx; have:=(zyz.1 h1).1; omega
  ·obtain ⟨l,x,h1,h2,h3⟩:=zaZ hx; have:=(zyz.1 h1).1; omega
  ·obtain ⟨l,x,y,h1,h2,h3⟩:=zaG hx; have:=(zyz.1 h1).1; omega
  ·obtain ⟨l,x,y,h1,h2,h3⟩:=zaG hx; have:=(zyz.1 h1).1; omega
 have his:=ziL s ⟨k,c,r⟩ hs ⟨hk,hc⟩;rw [zz8 hx] at his;have hk' : k=0\/k=1\/k=2\/k=3:=by omega
 have hw1 : ∀ {n : Nat},n<=1000000000->IntKind.i64.wrap ((n : Int)+1)=((n+1 : Nat) : Int):=fun h=>by rw [wrap_i64 (by omega) (by omega)]; rfl
 conv=>whnf
 refine cfs his ?_;rcases hk' with rfl | rfl | rfl | rfl
 ·obtain ⟨l,x,h1,h2,h3⟩:=zaZ hx;obtain ⟨y,hy⟩ : ∃ y,l.xs[r]?=some y:=⟨_,zyy (by omega)⟩;have hv:=zeW s c r l x y h1 h2 hy;conv=>whnf
  refine cfs hv ?_;conv=>whnf
  refine zau ?_;rw [show cenP s ⟨0,c,r⟩=⟨x,y⟩ by simp only [cenP]; rw [zah h2,zah (show (s.L.xs.map (·.xs))[c]?=some l.xs by rw [zx4,h1]; rfl),zah hy]]
 ·obtain ⟨l,x,h1,h2,h3⟩:=zaZ hx;obtain ⟨y,hy⟩ : ∃ y,l.xs[r]?=some y:=⟨_,zyy (by omega)⟩;obtain ⟨y',hy'⟩ : ∃ y,l.xs[r+1]?=some y:=⟨_,zyy (by omega)⟩;have hv:=zeW s c r l x y h1 h2 hy;have hv':=zeW s c (r+1) l x y' h1 h2 hy';have zx:=hzx.X x (zyq h2);have zy:=hzx.L l (zyq h1) y (zyq hy);have zy':=hzx.L l (zyq h1) y' (zyq hy');have:=s4 l (zyq h1);rw [<-hw1 (n:=r) (by omega)] at hv';conv=>whnf
  refine zak.qk ?_;conv=>whnf
  refine cds hv ?_;conv=>whnf
  refine cds hv' ?_;conv=>whnf
  refine cd (zvk ⟨x,y⟩ ⟨x,y'⟩ ⟨zx.le (by decide),zy.le (by decide)⟩ ⟨zx.le (by decide),zy'.le (by decide)⟩) ?_;conv=>whnf
  refine zau ?_;rw [show cenP s ⟨1,c,r⟩=midV ⟨x,y⟩ ⟨x,y'⟩ by simp only [cenP]; rw [zah h2,zah (show (s.L.xs.map (·.xs))[c]?=some l.xs by rw [zx4,h1]; rfl),zah hy,zah hy']]
 all_goals
  obtain ⟨t,x,y,h1,h2,h3,h4,h5⟩:=zaG hx;have:=s5 t (zyq h1);have zx:=hzx.X x (zyq h2);have zy:=hzx.X y (zyq h3);have zm : Sz KY ((x+y)/2):=((zx.add zy).div (show Sz 2 (2 : Rat) from ⟨by decide,by decide⟩)).le (by decide);have h6:=(zyz.1 h2).1;have h7:=(zyz.1 h3).1;have hAX : s.X.A.isSome=true:=zam (hw _ zBY) (by rw [zad zas]; omega);have hon:=c_on s c r t ((x+y)/2) hs hz h1 zm (by omega);have hon':=c_on s c (r+1) t ((x+y)/2) hs hz h1 zm (by omega);rw [<-hw1 (n:=r) (by omega)] at hon';conv=>whnf
  refine zak.qk ?_;conv=>whnf
  refine ⟨⟨show (0 : Int)<=(c : Int) by omega,show (c : Int)<(s.X.xs.length : Int) by omega,hAX⟩,?_⟩;conv=>whnf
  refine zan.nat (A:=s.X.A) ratQ zas zBY rfl h2 ?_;obtain ⟨x',rfl⟩ : ∃ z,z=x:=⟨_,rfl⟩;conv=>whnf
  refine ⟨⟨show 0<=IntKind.i64.wrap ((c : Int)+1) by rw [hw1 (by omega)]; omega,show IntKind.i64.wrap ((c : Int)+1)<(s.X.xs.length : Int) by rw [hw1 (by omega)]; omega,hAX⟩,?_⟩;conv=>whnf
  refine zan.nat (A:=s.X.A) ratQ zas zBY (zyr (fun z : Int=>s.X.A.map (fun a=>a.add (z.toNat*3))) (hw1 (n:=c) (by omega))) h3 ?_;obtain ⟨y',rfl⟩ : ∃ z,z=y:=⟨_,rfl⟩;conv=>whnf
  refine cd (zkR x' y' (zx.le (by decide)) (zy.le (by decide))) ?_;conv=>whnf
  refine cfs hon ?_;conv=>whnf
 ·refine zau ?_;rw [show cenP s ⟨2,c,r⟩=onP s t r ((x'+y')/2) by simp only [cenP]; rw [zah h2,zah h3,zah h1]]
 ·refine zak.qk ?_;conv=>whnf
  refine cds hon' ?_;conv=>whnf
  refine cd (zvk _ _ (zfC hz zm) (zfC hz zm)) ?_;conv=>whnf
  refine zau ?_;rw [show cenP s ⟨3,c,r⟩=midV (onP s t r ((x'+y')/2)) (onP s t (r+1) ((x'+y')/2)) by simp only [cenP]; rw [zah h2,zah h3,zah h1]]
abbrev zB5:=@List.pairwise_append
abbrev zB4:=@List.pairwise_map
def zis (a b : Cel) : Prop:=a.c<b.c\/(a.c=b.c/\(a.k<b.k\/(a.k=b.k/\a.r<b.r)))
instance (a b : Cel) : Decidable (zis a b):=inferInstanceAs (Decidable (_\/_))
theorem zkd {s : Sl} {k c : Nat} {x : Cel} (h : x∈zcN s k c) : x.k=k/\x.c=c/\(x.r : Int)<cntK s k c:=by
 obtain ⟨r,hr,rfl⟩:=zx1.1 h;refine ⟨rfl,rfl,?_⟩;have:=zy0.1 hr;show (r : Int)<_;omega
theorem zoM (s : Sl) (k c : Nat) : (zcN s k c).Pairwise zis:=by
 rw [zcN,zB4];exact (List.pairwise_lt_range).imp (fun h=>.inr ⟨rfl,.inr ⟨rfl,h⟩⟩)
theorem zhl {s : Sl} {c : Nat} {x : Cel} : ∀ {j : Nat},j<=4->x∈colF s c j->x.c=c/\4-j<=x.k/\x.k<4/\(x.r : Int)<cntK s x.k c
 | 0,_,h=>by cases h
 | j+1,hj,h=>by
  rcases zyK.1 h with h | h
  ·obtain ⟨h1,h2,h3⟩:=zkd h;exact ⟨h2,by omega,by omega,by rw [h1]; exact h3⟩
  ·obtain ⟨h1,h2,h3⟩:=zhl (j:=j) (by omega) h;exact ⟨h1,by omega,h3⟩
theorem zmZ (s : Sl) (c : Nat) : ∀ j : Nat,j<=4->(colF s c j).Pairwise zis
 | 0,_=>.nil
 | j+1,hj=>by
  refine zB5.2 ⟨zoM s _ c,zmZ s c j (by omega),fun a ha b hb=>?_⟩;obtain ⟨h1,h2,h3⟩:=zkd ha;obtain ⟨h4,h5,h6⟩:=zhl (by omega) hb;exact .inr ⟨by omega,.inl (by omega)⟩
theorem zfY {s : Sl} {x : Cel} : ∀ {n c : Nat},x∈zcW s c n->c<=x.c/\x.c<c+n/\x.k<4/\(x.r : Int)<cntK s x.k x.c
 | 0,c,h=>by cases h
 | n+1,c,h=>by
  rcases zyK.1 h with h | h
  ·obtain ⟨h1,h2,h3,h4⟩:=zhl (zxr 4) h;exact ⟨by omega,by omega,h3,by rw [h1]; exact h4⟩
  ·obtain ⟨h1,h2,h3⟩:=zfY h;exact ⟨by omega,by omega,h3⟩
theorem zpo (s : Sl) : ∀ n c : Nat,(zcW s c n).Pairwise zis
 | 0,c=>.nil
 | n+1,c=>by
  refine zB5.2 ⟨zmZ s c 4 (zxr _),zpo s n (c+1),fun a ha b hb=>?_⟩;have h1:=(zhl (zxr 4) ha).1;have h2:=(zfY hb).1;exact .inl (by omega)
def sgn (k : Nat) : Int:=if k=0\/k=3 then 1 else -1
theorem Sl.is_len {s : Sl} (h : s.is) : s.L.xs.length=s.X.xs.length/\s.S.xs.length=s.X.xs.length-1/\0<s.X.xs.length:=by
 obtain ⟨h1,h2,h3⟩:=h;have e2:=zyr List.length h2;have e3:=zyr List.length h3;rw [zdY] at e3;simp only [zyA] at e2 e3;refine ⟨e2,e3,?_⟩;rw [h1];have : s.lo.x∈xsL s.lo s.hi (pcsL s.lo s.hi s.sg.xs):=zbv.2 (zxA ..);exact List.length_pos_of_mem this
theorem Sl.is_line {s : Sl} (h : s.is) {l : Ln Rat} (hl : l∈s.L.xs) : ∃ x,l.xs=ysL s.lo s.hi (pcsL s.lo s.hi s.sg.xs) x:=by
 have : l.xs∈s.L.xs.map (·.xs):=zx1.2 ⟨l,hl,rfl⟩;rw [h.2.1] at this;obtain ⟨x,_,hx⟩:=zx1.1 this;exact ⟨x,hx.symm⟩
theorem zif {f : Rat->Rat->List Nat} {t : List Nat} : ∀ {l : List Rat},t∈zbC f l->∃ x y,t=f x y
 | [],h=>by cases h
 | [_],h=>by cases h
 | x::y::r,h=>by
  rcases zy1.1 h with rfl | h
  ·exact ⟨x,y,rfl⟩
  ·exact zif h
theorem Sl.is_strip {s : Sl} (h : s.is) {l : Ln Nat} (hl : l∈s.S.xs) : ∃ x y,l.xs=zdN s.lo s.hi (pcsL s.lo s.hi s.sg.xs) x y:=by
 have : l.xs∈s.S.xs.map (·.xs):=zx1.2 ⟨l,hl,rfl⟩;rw [h.2.2] at this;exact zif this
theorem zp2 {lo hi : V} {ps : List Pc} {x : Rat} : (ysL lo hi ps x).length<=2+3*ps.length:=by
 refine zxs (zhm _) ?_;have:=zl8 x ps;simp only [zxR]; omega
theorem zkw {lo hi : V} {ps : List Pc} {l r : Rat} : (zdN lo hi ps l r).length<=ps.length:=by
 refine zxs (zna _) ?_;rw [(zb0 _).length_eq];exact List.length_filterMap_le _ _
theorem zi4 {lo hi : V} {E : List (V×V)} : (pcsL lo hi E).length<=E.length:=zhj ..
theorem zoW {s : Sl} {B : Nat} (hL : ∀ l∈s.L.xs,l.xs.length<=B) (hS : ∀ l∈s.S.xs,l.xs.length<=B) (k c : Nat) : cntK s k c<=B+2:=by
 have h1 : ∀ d,zb2 s d c<=B+2:=fun d=>by
  unfold zb2; split
  ·rename_i h;have:=hL _ (zAp h.1);rw [zzO,zx4,zyy h.1];simp only [zxp,zyS]; omega
  ·omega
 have h2 : ∀ d,d<=2->za6 s d c<=B+2:=fun d hd=>by
  unfold za6; split
  ·rename_i h;have:=hS _ (zAp h.1);rw [zzO,zx4,zyy h.1];simp only [zxp,zyS]; omega
  ·omega
 match k with
 | 0=>exact h1 0
 | 1=>exact h1 1
 | 2=>exact h2 2 (by omega)
 | _+3=>exact h2 1 (by omega)
theorem znj {s : Sl} {B c : Nat} (h : ∀ k,cntK s k c<=B) : ∀ j,(colF s c j).length<=j*B
 | 0=>by simp [colF]
 | j+1=>by
  have h1:=znj h j;have h2:=h (3-j);rw [colF,zz2,zyb];simp only [zcN,zyA,zB2];omega
theorem zhU {s : Sl} {B : Nat} (h : ∀ k c,cntK s k c<=B) : ∀ n c,(zcW s c n).length<=n*(4*B)
 | 0,c=>by simp [zcW]
 | n+1,c=>by
  have h1:=zhU h n (c+1);have h2:=znj (c:=c) (fun k=>h k c) 4;rw [zcW,zz2,zyb];omega
theorem Sl.is_small {s : Sl} (h : s.is) (hE : s.sg.xs.length<=8) : s.small/\(zdC s).length<=1000000000:=by
 obtain ⟨e1,e2,e3⟩:=Sl.is_len h;have hp : (pcsL s.lo s.hi s.sg.xs).length<=8:=zxs zi4 hE;have hX : s.X.xs.length<=6418:=by
  rw [h.1];refine zxs (zhm _) ?_;have:=zfr (pcsL s.lo s.hi s.sg.xs) (pcsL s.lo s.hi s.sg.xs).length (by omega);simp only [zxR]; omega
 have hL : ∀ l∈s.L.xs,l.xs.length<=26:=fun l hl=>by
  obtain ⟨x,hx⟩:=Sl.is_line h hl;rw [hx]; exact zxs zp2 (by omega)
 have hS : ∀ l∈s.S.xs,l.xs.length<=26:=fun l hl=>by
  obtain ⟨x,y,hx⟩:=Sl.is_strip h hl;rw [hx]; exact zxs zkw (by omega)
 refine ⟨⟨by omega,by omega,by omega,fun l hl=>zxs (hL l hl) (by decide),fun l hl=>zxs (hS l hl) (by decide),by omega⟩,?_⟩;have hc:=zhU (B:=28) (fun k c=>zoW hL hS k c) s.X.xs.length 0;refine zxs hc ?_;exact zxs (zyL _ hX) (by decide)
theorem zwn {lo hi : V} {ps : List Pc} {x : Rat} (hlo : SzV K0 lo) (hhi : SzV K0 hi) (hps : zfK ps) (hx : Sz KX x) : ∀ y∈ysL lo hi ps x,Sz 200000 y:=fun y hy=>by
 rw [ysL,zbv] at hy;rcases zy1.1 hy with rfl | hy
 ·exact hlo.2.le (by decide)
 rcases zy1.1 hy with rfl | hy
 ·exact hhi.2.le (by decide)
 obtain ⟨p,hp,hy⟩:=zBP.1 hy;exact zl9 (hps p hp).1 hx y hy
theorem Sl.is_szX {s : Sl} (h : s.is) (hz : s.sz) : s.szX:=by
 have hps : zfK (pcsL s.lo s.hi s.sg.xs):=zmh hz.lo hz.hi (fun e he=>(hz.sg e he).1);have hX : ∀ x∈s.X.xs,Sz KX x:=fun x hx=>by rw [h.1] at hx; exact zs1 hz.lo hz.hi hps x hx
 refine ⟨hX,fun l hl=>?_⟩;have : l.xs∈s.L.xs.map (·.xs):=zx1.2 ⟨l,hl,rfl⟩;rw [h.2.1] at this;obtain ⟨x,hx,e⟩:=zx1.1 this;rw [<-e];exact zwn hz.lo hz.hi hps (hX x hx)
end Go.Sx
end
section
namespace Go.Sx
abbrev zB8:=@List.pairwise_singleton
abbrev zB7:=@Nat.not_lt_zero
abbrev zB6:=@Rat.not_lt
theorem zoV {t q d : Rat} (hd : 0<d) : 0<=(t-q)*d↔q<=t:=by
 constructor
 ·intro h;by_cases h1 : t<q
  ·have:=zBB (show 0<q-t by grind) hd; grind
  ·exact zB6.1 h1
 ·intro h; exact zBE (by grind) (zBU hd)
theorem ztH {t q d : Rat} (hd : d<0) : 0<=(t-q)*d↔t<=q:=by
 have:=zoV (t:=-t) (q:=-q) (d:=-d) (by grind);rw [show (-t - -q)*-d=(t-q)*d by grind] at this;rw [this]; grind
def inR (b : Bx) (A B : V) (k : Nat) (t : Rat) : Prop:=0<=t/\t<=1/\∀ j,j<k->0<=zaX b A j+t*(zaX b B j-zaX b A j)
theorem zrj {b : Bx} {A B : V} {k : Nat} {t : Rat} : inR b A B (k+1) t↔inR b A B k t/\0<=zaX b A k+t*(zaX b B k-zaX b A k):=by
 constructor
 ·rintro ⟨h1,h2,h3⟩; exact ⟨⟨h1,h2,fun j hj=>h3 j (by omega)⟩,h3 k (by omega)⟩
 ·rintro ⟨⟨h1,h2,h3⟩,h4⟩;refine ⟨h1,h2,fun j hj=>?_⟩;by_cases hjk : j=k
  ·rw [hjk]; exact h4
  ·exact h3 j (by omega)
theorem zkP (b : Bx) (A B : V) : ∀ k,(zcj b A B k=none->∀ t,¬inR b A B k t)/\∀ l h,zcj b A B k=some (l,h)->∀ t,(l<=t/\t<=h)↔inR b A B k t
 | 0=>by
  refine ⟨fun h=>(by cases h),fun l h e t=>?_⟩
  cases e
  exact ⟨fun h=>⟨h.1,h.2,fun j hj=>absurd hj (zB7 j)⟩,fun h=>⟨h.1,h.2.1⟩⟩
 | k+1=>by
  obtain ⟨i1,i2⟩:=zkP b A B k;have hs:=fun t=>zrj (b:=b) (A:=A) (B:=B) (k:=k) (t:=t)
  rw [zcj]
  cases hc : zcj b A B k with
  | none=>exact ⟨fun _ t h=>i1 hc t ((hs t).1 h).1,fun l h e=>(by cases e)⟩
  | some p =>
   obtain ⟨l,h⟩:=p;have i3:=i2 l h hc;simp only;generalize zaX b A k=f at hs ⊢;generalize zaX b B k=g at hs ⊢;by_cases h0 : g-f=0
   ·rw [zxJ h0];have e : ∀ t,f+t*(g-f)=f:=fun t=>by rw [h0]; grind
    by_cases hf : f<0
    ·rw [zxJ hf];refine ⟨fun _ t ht=>?_,fun l h e=>(by cases e)⟩;have:=((hs t).1 ht).2;rw [e] at this; grind
    ·rw [zxI hf];refine ⟨fun h=>(by cases h),fun l' h' e' t=>?_⟩
     cases e'
     rw [hs,e,<-i3];exact ⟨fun h=>⟨h,by grind⟩,fun h=>h.1⟩
   rw [zxI h0];have hq : ∀ t,f+t*(g-f)=(t - -f/(g-f))*(g-f):=fun t=>by
    have:=zBD (a:=-f) h0;grind
   generalize -f/(g-f)=q at hq ⊢;by_cases hd : 0<g-f
   ·have hk : ∀ t,0<=f+t*(g-f)↔q<=t:=fun t=>by rw [hq]; exact zoV hd
    by_cases hl : l<q
    ·rw [zxJ ⟨hd,hl⟩];refine ⟨fun h=>(by cases h),fun l' h' e' t=>?_⟩
     cases e'
     rw [hs,hk,<-i3];exact ⟨fun h=>⟨⟨by grind,h.2⟩,h.1⟩,fun h=>⟨h.2,h.1.2⟩⟩
    ·rw [zxI (fun h=>hl h.2),zxI (fun h=>by grind)];refine ⟨fun h=>(by cases h),fun l' h' e' t=>?_⟩
     cases e'
     rw [hs,hk,<-i3];exact ⟨fun h=>⟨h,by grind⟩,fun h=>h.1⟩
   ·have hd' : g-f<0:=by grind
    have hk : ∀ t,0<=f+t*(g-f)↔t<=q:=fun t=>by rw [hq]; exact ztH hd'
    rw [zxI (fun h=>by grind)];by_cases hl : q<h
    ·rw [zxJ ⟨hd',hl⟩];refine ⟨fun h=>(by cases h),fun l' h' e' t=>?_⟩
     cases e'
     rw [hs,hk,<-i3];exact ⟨fun h=>⟨⟨h.1,by grind⟩,h.2⟩,fun h=>⟨h.1.1,h.2⟩⟩
    ·rw [zxI (fun h=>hl h.2)];refine ⟨fun h=>(by cases h),fun l' h' e' t=>?_⟩
     cases e'
     rw [hs,hk,<-i3];exact ⟨fun h=>⟨h,by grind⟩,fun h=>h.1⟩
def inX (lo hi p : V) : Prop:=(lo.x<=p.x/\p.x<=hi.x)/\lo.y<=p.y/\p.y<=hi.y
theorem zl5 {lo hi A B : V} {t : Rat} : inR ⟨PQ lo,PQ hi⟩ A B 4 t↔(0<=t/\t<=1)/\inX lo hi (A.at B t):=by
 have e0 : zaX ⟨PQ lo,PQ hi⟩ A 0+t*(zaX ⟨PQ lo,PQ hi⟩ B 0-zaX ⟨PQ lo,PQ hi⟩ A 0)=(A.at B t).x-lo.x:=by
  show (A.x-(Q lo.x).v)+t*((B.x-(Q lo.x).v)-(A.x-(Q lo.x).v))=(A.x+(B.x-A.x)*t)-lo.x;rw [Q_v]; grind
 have e1 : zaX ⟨PQ lo,PQ hi⟩ A 1+t*(zaX ⟨PQ lo,PQ hi⟩ B 1-zaX ⟨PQ lo,PQ hi⟩ A 1)=hi.x-(A.at B t).x:=by
  show ((Q hi.x).v-A.x)+t*(((Q hi.x).v-B.x)-((Q hi.x).v-A.x))=hi.x-(A.x+(B.x-A.x)*t);rw [Q_v]; grind
 have e2 : zaX ⟨PQ lo,PQ hi⟩ A 2+t*(zaX ⟨PQ lo,PQ hi⟩ B 2-zaX ⟨PQ lo,PQ hi⟩ A 2)=(A.at B t).y-lo.y:=by
  show (A.y-(Q lo.y).v)+t*((B.y-(Q lo.y).v)-(A.y-(Q lo.y).v))=(A.y+(B.y-A.y)*t)-lo.y;rw [Q_v]; grind
 have e3 : zaX ⟨PQ lo,PQ hi⟩ A 3+t*(zaX ⟨PQ lo,PQ hi⟩ B 3-zaX ⟨PQ lo,PQ hi⟩ A 3)=hi.y-(A.at B t).y:=by
  show ((Q hi.y).v-A.y)+t*(((Q hi.y).v-B.y)-((Q hi.y).v-A.y))=hi.y-(A.y+(B.y-A.y)*t);rw [Q_v]; grind
 unfold inR inX;constructor
 ·rintro ⟨h1,h2,h3⟩;have k0:=h3 0 (by decide); have k1:=h3 1 (by decide); have k2:=h3 2 (by decide); have k3:=h3 3 (by decide);rw [e0] at k0; rw [e1] at k1; rw [e2] at k2; rw [e3] at k3;exact ⟨⟨h1,h2⟩,⟨by grind,by grind⟩,by grind,by grind⟩
 ·rintro ⟨⟨h1,h2⟩,⟨k0,k1⟩,k2,k3⟩;refine ⟨h1,h2,fun j hj=>?_⟩
  match j,hj with
  | 0,_=>rw [e0]; grind
  | 1,_=>rw [e1]; grind
  | 2,_=>rw [e2]; grind
  | 3,_=>rw [e3]; grind
theorem ziO {lo hi A B c d : V} (h : zch ⟨PQ lo,PQ hi⟩ A B=some (c,d)) : ∃ l u,l<=u/\0<=l/\u<=1/\c=A.at B l/\d=A.at B u/\∀ t,(l<=t/\t<=u)↔(0<=t/\t<=1)/\inX lo hi (A.at B t):=by
 unfold zch at h;split at h
 ·cases h
 ·rename_i l u hc;split at h
  ·cases h
  ·rename_i hlu
   cases h
   have hi:=(zkP ⟨PQ lo,PQ hi⟩ A B 4).2 l u hc;have hl : l<=u:=zB6.1 hlu;have k1:=zl5.1 ((hi l).1 ⟨zBR,hl⟩);have k2:=zl5.1 ((hi u).1 ⟨hl,zBR⟩);exact ⟨l,u,hl,k1.1.1,k2.1.2,rfl,rfl,fun t=>(hi t).trans zl5⟩
theorem zeb {A B c d q : V} (hc : onS A B c) (hd : onS A B d) (hq : onS c d q) : onS A B q:=by
 obtain ⟨s,⟨s0,s1⟩,rfl⟩:=hc;obtain ⟨t,⟨t0,t1⟩,rfl⟩:=hd;obtain ⟨r,⟨r0,r1⟩,rfl⟩:=hq;refine ⟨s+(t-s)*r,⟨?_,?_⟩,?_⟩
 ·have h1:=zBE s0 (show 0<=1-r by grind);have h2:=zBE t0 r0;grind
 ·have h1:=zBE (show 0<=1-s by grind) (show 0<=1-r by grind);have h2:=zBE (show 0<=1-t by grind) r0;grind
 ·show (⟨(A.x+(B.x-A.x)*s)+((A.x+(B.x-A.x)*t)-(A.x+(B.x-A.x)*s))*r,(A.y+(B.y-A.y)*s)+((A.y+(B.y-A.y)*t)-(A.y+(B.y-A.y)*s))*r⟩ : V)=⟨A.x+(B.x-A.x)*(s+(t-s)*r),A.y+(B.y-A.y)*(s+(t-s)*r)⟩
  congr 1 <;> grind
theorem zjb {A B p q : V} (hp : onS A B p) (hq : onS A B q) : onS A B ⟨(p.x+q.x)/2,(p.y+q.y)/2⟩:=by
 refine zeb hp hq ⟨1/2,⟨by grind,by grind⟩,?_⟩;show _=(⟨p.x+(q.x-p.x)*(1/2),p.y+(q.y-p.y)*(1/2)⟩ : V)
 congr 1 <;> grind
theorem zd6 {lo hi a b p : V} (ha : inX lo hi a) (hb : inX lo hi b) (hp : onS a b p) : inX lo hi p:=by
 obtain ⟨⟨a1,a2⟩,a3,a4⟩:=ha;obtain ⟨⟨b1,b2⟩,b3,b4⟩:=hb;obtain ⟨t,⟨t0,t1⟩,rfl⟩:=hp;have key : ∀ u v c : Rat,c<=u->c<=v->c<=u+(v-u)*t:=fun u v c h1 h2=>by
  have k1:=zBE (show 0<=u-c by grind) (show 0<=1-t by grind);have k2:=zBE (show 0<=v-c by grind) t0;grind
 have key2 : ∀ u v c : Rat,u<=c->v<=c->u+(v-u)*t<=c:=fun u v c h1 h2=>by
  have k1:=zBE (show 0<=c-u by grind) (show 0<=1-t by grind);have k2:=zBE (show 0<=c-v by grind) t0;grind
 exact ⟨⟨key _ _ _ a1 b1,key2 _ _ _ a2 b2⟩,key _ _ _ a3 b3,key2 _ _ _ a4 b4⟩
theorem zef {A B : V} {x y : Rat} (hne : (B-A).x≠0) (h : onS A B ⟨x,y⟩) : hgtE A B x=(y,0):=by
 obtain ⟨t,⟨t0,t1⟩,e⟩:=h;have ex : x=A.x+(B.x-A.x)*t:=zyr V.x e;have ey : y=A.y+(B.y-A.y)*t:=zyr V.y e;have ht : (x-A.x)/(B-A).x=t:=by
  rw [ex,show A.x+(B.x-A.x)*t-A.x=t*(B-A).x by show _=t*(B.x-A.x); grind];exact Rat.mul_div_cancel hne
 unfold hgtE;rw [zxI hne,ht,zxJ (zbX.2 ⟨t0,t1⟩),ey];show (A.y+t*(B.y-A.y),(0 : Int))=_
 congr 1; grind
theorem zfk {p : Pc} {x y : Rat} (h : hgtO p x=some y) : (p.b-p.a).x≠0/\onS p.a p.b ⟨x,y⟩:=by
 unfold hgtO hgtE at h;by_cases hne : (p.b-p.a).x=0
 ·rw [zxJ hne] at h; cases h
 refine ⟨hne,?_⟩;rw [zxI hne] at h;by_cases hu : zdK ((x-p.a.x)/(p.b-p.a).x)=true
 ·rw [zxJ hu] at h;simp only [if_true] at h
  cases h
  refine ⟨_,zbX.1 hu,?_⟩;have:=zBD (a:=x-p.a.x) hne;generalize (x-p.a.x)/(p.b-p.a).x=t at this ⊢;show (⟨x,p.a.y+t*(p.b.y-p.a.y)⟩ : V)=⟨p.a.x+(p.b.x-p.a.x)*t,p.a.y+(p.b.y-p.a.y)*t⟩;have h2 : t*(p.b.x-p.a.x)=x-p.a.x:=this
  congr 1 <;> grind
 ·rw [zxI hu] at h; cases h
structure PcOf (lo hi : V) (E : List (V×V)) (p : Pc) (e : V×V) : Prop where
 at' : E[p.i]?=some e
 a : onS e.1 e.2 p.a
 b : onS e.1 e.2 p.b
 ia : inX lo hi p.a
 ib : inX lo hi p.b
 ne : p.a≠p.b
theorem zdA {lo hi : V} {E : List (V×V)} {p : Pc} (hp : p∈pcsL lo hi E) : ∃ e,PcOf lo hi E p e:=by
 have : ∀ (l : List (V×V)) (i : Nat),p∈pcsF lo hi i l->∃ e j,l[j]?=some e/\pcsO lo hi e (i+j)=some p:=fun l=>by
  induction l with
  | nil=>intro i h; cases h
  | cons e r ih =>
   intro i h;rcases zyK.1 h with h | h
   ·refine ⟨e,0,rfl,?_⟩
    cases ho : pcsO lo hi e i with
    | none=>rw [ho] at h; cases h
    | some q=>rw [ho] at h; rw [zyZ.1 h]
   ·obtain ⟨e',j,h1,h2⟩:=ih (i+1) h;exact ⟨e',j+1,by rw [zB3]; exact h1,by rw [show i+(j+1)=i+1+j by omega]; exact h2⟩
 obtain ⟨e,j,h1,h2⟩:=this E 0 hp;rw [zyo] at h2;refine ⟨e,?_⟩;unfold pcsO at h2;split at h2
 ·cases h2
 ·rename_i c d hc;split at h2
  ·cases h2
  ·rename_i hcd
   cases h2
   obtain ⟨l,u,hlu,l0,u1,rfl,rfl,hiff⟩:=ziO hc;have ic:=((hiff l).1 ⟨zBR,hlu⟩);have iu:=((hiff u).1 ⟨hlu,zBR⟩);have oc : onS e.1 e.2 (e.1.at e.2 l):=⟨l,ic.1,rfl⟩;have ou : onS e.1 e.2 (e.1.at e.2 u):=⟨u,iu.1,rfl⟩;unfold ordV;split
   ·exact ⟨h1,ou,oc,iu.2,ic.2,fun h=>hcd h.symm⟩
   ·exact ⟨h1,oc,ou,ic.2,iu.2,hcd⟩
theorem zoK {s : Sl} {l r : Rat} {x : Rat×Nat} (hx : x∈crsL s.lo s.hi (pcsL s.lo s.hi s.sg.xs) l r) : hgtS s ((l+r)/2) x.2=x.1/\s.lo.y<x.1/\x.1<s.hi.y:=by
 obtain ⟨p,hp,h⟩:=zyU.1 hx;obtain ⟨e,h1,ha,hb,ia,ib,hne⟩:=zdA hp;unfold crsO at h
 cases hA : hgtO p l with
 | none=>rw [hA] at h; cases h
 | some a =>
  cases hB : hgtO p r with
  | none=>rw [hA,hB] at h; cases h
  | some b =>
   rw [hA,hB] at h;simp only at h;split at h
   ·cases h
   ·rename_i hno
    cases h
    obtain ⟨hx0,oA⟩:=zfk hA;obtain ⟨_,oB⟩:=zfk hB;have oM:=zeb ha hb (zjb oA oB);have hne2 : (e.2-e.1).x≠0:=fun h0=>hx0 (by
     obtain ⟨u,_,eu⟩:=ha;obtain ⟨v,_,ev⟩:=hb;have h0' : e.2.x-e.1.x=0:=h0;rw [eu,ev];show (e.1.x+(e.2.x-e.1.x)*v)-(e.1.x+(e.2.x-e.1.x)*u)=0;rw [h0']; grind)
    have i1:=(zd6 ia ib oA).2;have i2:=(zd6 ia ib oB).2;have e1 : a=s.lo.y->¬a=b:=fun h k=>hno ⟨k,.inl h⟩
    have e2 : a=s.hi.y->¬a=b:=fun h k=>hno ⟨k,.inr h⟩
    have i11 : s.lo.y<=a:=i1.1;have i12 : a<=s.hi.y:=i1.2;have i21 : s.lo.y<=b:=i2.1;have i22 : b<=s.hi.y:=i2.2;refine ⟨?_,?_,?_⟩
    ·show hgtS s ((l+r)/2) p.i=(a+b)/2;unfold hgtS;rw [h1];exact zyr Prod.fst (zef hne2 oM)
    ·show s.lo.y<(a+b)/2;grind
    ·show (a+b)/2<s.hi.y;grind
theorem znl {h : Nat->Rat} {lo hi : Rat} : ∀ (p : Rat) (l : List (Rat×Nat)),SrtC l->(∀ x∈l,p<=x.1)->(∀ x∈l,h x.2=x.1/\x.1<hi)->Asc ((fstG p l).map h)/\∀ z∈(fstG p l).map h,p<z/\z<hi
 | p,[],_,_,_=>⟨.nil,fun z hz=>by cases hz⟩
 | p,(y,i)::r,hs,hp,hh=>by
  obtain ⟨s1,s2⟩:=zBG.1 hs;have hy : ∀ x∈r,y<=x.1:=fun x hx=>(zbx.1 (s1 x hx)).1
  have hr : ∀ x∈r,h x.2=x.1/\x.1<hi:=fun x hx=>hh x (zxB _ hx)
  obtain ⟨i1,i2⟩:=znl (lo:=lo) y r s2 hy hr;have hpy : p<=y:=hp _ (zxA ..);simp only [fstG];by_cases e : p=y
  ·rw [zxJ e]; exact ⟨i1,fun z hz=>by rw [e]; exact i2 z hz⟩
  ·rw [zxI e,zxT];obtain ⟨k1,k2⟩:=hh _ (zxA ..);have k1' : h i=y:=k1;rw [k1'];refine ⟨zBG.2 ⟨fun z hz=>(i2 z hz).1,i1⟩,fun z hz=>?_⟩;rcases zy1.1 hz with rfl | hz
   ·exact ⟨by grind,k2⟩
   ·have:=i2 z hz; exact ⟨by grind,this.2⟩
theorem zqY {h : Nat->Rat} {lo hi : Rat} {l : List (Rat×Nat)} (hs : SrtC l) (hh : ∀ x∈l,h x.2=x.1/\lo<x.1/\x.1<hi) (hlh : lo<hi) : Asc (lo::((fstL l).map h++[hi])):=by
 have mid : Asc ((fstL l).map h)/\∀ z∈(fstL l).map h,lo<z/\z<hi:=by
  cases l with
  | nil=>exact ⟨.nil,fun z hz=>by cases hz⟩
  | cons x r =>
   obtain ⟨y,i⟩:=x;obtain ⟨s1,s2⟩:=zBG.1 hs;have hy : ∀ x∈r,y<=x.1:=fun x hx=>(zbx.1 (s1 x hx)).1
   obtain ⟨i1,i2⟩:=znl (lo:=lo) (h:=h) (hi:=hi) y r s2 hy (fun x hx=>by have:=hh x (zxB _ hx); exact ⟨this.1,this.2.2⟩);obtain ⟨k1,k2,k3⟩:=hh _ (zxA ..);have k1' : h i=y:=k1;have k2' : lo<y:=k2;simp only [fstL,zxT];rw [k1'];refine ⟨zBG.2 ⟨fun z hz=>(i2 z hz).1,i1⟩,fun z hz=>?_⟩;rcases zy1.1 hz with rfl | hz
   ·exact ⟨k2',k3⟩
   ·have:=i2 z hz; exact ⟨by grind,this.2⟩
 refine zBG.2 ⟨fun z hz=>?_,zB5.2 ⟨mid.1,zB8 ..,fun a ha b hb=>?_⟩⟩
 ·rcases zyK.1 hz with hz | hz
  ·exact (mid.2 z hz).1
  ·rw [zyZ.1 hz]; exact hlh
 ·rw [zyZ.1 hb]; exact (mid.2 a ha).2
end Go.Sx
end
section
namespace Go.Sx
open Go Go.Proofs
def hgtR (A B : V) (x : Rat) : Rat×Int :=
 if (B-A).x=0 then (0,24) else if x<A.x\/B.x<x then (0,14) else ((A.at B ((x-A.x)/(B-A).x)).y,0)
theorem ztx (A B : V) (x : Rat) : hgtR (ordV A B).1 (ordV A B).2 x=hgtE A B x:=by
 have key : ∀ A B : V,¬B.x<A.x->hgtR A B x=hgtE A B x:=fun A B hle=>by
  unfold hgtR hgtE;by_cases h0 : (B-A).x=0
  ·rw [zxJ h0,zxJ h0]
  rw [zxI h0,zxI h0];have hd : 0<(B-A).x:=by
   have : (B-A).x=B.x-A.x:=rfl;grind
  have hq:=zBD (a:=x-A.x) h0;generalize (x-A.x)/(B-A).x=q at hq;have hB : (B-A).x=B.x-A.x:=rfl;by_cases ho : x<A.x\/B.x<x
  ·rw [zxJ ho,zxI];intro hu;obtain ⟨u0,u1⟩:=zbX.1 hu;have k1:=zBE u0 (zBU hd);have k2:=zBE (show 0<=1-q by grind) (zBU hd);rcases ho with ho | ho <;> grind
  ·rw [zxI ho,zxJ]
   ·show (A.y+(B.y-A.y)*q,(0 : Int))=(A.y+q*(B.y-A.y),0)
    congr 1; grind
   ·refine zbX.2 ⟨?_,?_⟩
    ·refine zB6.1 fun h=>?_
     have:=zBB (show 0 < -q by grind) hd;exact ho (.inl (by grind))
    ·refine zB6.1 fun h=>?_
     have:=zBB (show 0<q-1 by grind) hd;exact ho (.inr (by grind))
 have swap : hgtE B A x=hgtE A B x:=by
  unfold hgtE;by_cases h0 : (B-A).x=0
  ·have h1 : (A-B).x=0:=by have : B.x-A.x=0:=h0; show A.x-B.x=0; grind
   rw [zxJ h0,zxJ h1]
  have h1 : ¬(A-B).x=0:=fun h=>h0 (by have : A.x-B.x=0:=h; show B.x-A.x=0; grind)
  rw [zxI h0,zxI h1];have hq:=zBD (a:=x-A.x) h0;have hp:=zBD (a:=x-B.x) h1;generalize (x-A.x)/(B-A).x=q at hq ⊢;generalize (x-B.x)/(A-B).x=p at hp ⊢;have e : p=1-q:=by
   have : (p-(1-q))*(A-B).x=0:=by
    have h2 : (B-A).x=-(A-B).x:=by show B.x-A.x=-(A.x-B.x); grind
    rw [h2] at hq;have h3 : (A-B).x=A.x-B.x:=rfl;grind
   rcases zBF.1 this with h | h
   ·grind
   ·exact absurd h h1
  have hu : zdK p=zdK q:=by
   refine zyV.2 ?_;rw [zbX,zbX,e];constructor <;> rintro ⟨h1,h2⟩ <;> exact ⟨by grind,by grind⟩
  rw [hu,e];split
  ·show (B.y+(1-q)*(A.y-B.y),(0 : Int))=(A.y+q*(B.y-A.y),0)
   congr 1; grind
  ·rfl
 unfold ordV;split
 ·rename_i h;rw [key B A (fun hlt=>?_),swap];have:=zgo.1 h;unfold ltP2 at this;grind
 ·rename_i h;refine key A B (fun hlt=>?_);have : ¬cmpV A B>0:=h;rw [zgo] at this;unfold ltP2 at this;grind
theorem zjZ (s : Sg) (x : Raw) (hs : s.sm KS) (hx : x.sm KV) : Fn PP 102 [sV s,rawV x] (.tuple #[qV (zcV s x.v).1,.int .i64 (zcV s x.v).2]):=by
 have zA:=hs.1.sz (by decide);have zB:=hs.2.sz (by decide);have zx:=Raw.sz (by decide) hx.1 hx.2;refine zzn zab mixed Tryz.func102 rfl rfl (zxW rfl) ?_;intro w;conv=>whnf
 refine cf (zg3 s ⟨hs.1.le (by decide),hs.2.le (by decide)⟩) ?_;rw [zcE];by_cases hd : zb3 s
 ·rw [zcV,zxJ hd,zxJ hd];conv=>whnf
  exact zau (by rw [qV,zlL])
 rw [zcV,zxI hd,zxI hd,<-ztx];have hord:=zim s ⟨hs.1.le (by decide),hs.2.le (by decide)⟩;have zo : SzV KS (ordV s.A.v s.B.v).1/\SzV KS (ordV s.A.v s.B.v).2:=by
  unfold ordV; split
  ·exact ⟨zB,zA⟩
  ·exact ⟨zA,zB⟩
 obtain ⟨P,Q',hPQ⟩ : ∃ P Q',ordV s.A.v s.B.v=(P,Q'):=⟨_,_,rfl⟩;rw [hPQ] at hord zo ⊢;simp only at hord zo ⊢;conv=>whnf
 refine cf hord ?_;conv=>whnf
 obtain ⟨zP,zQ⟩:=zo;refine cf (zex (Q Q'.x) (Q P.x) (zQ.1.q.le (by decide)) (zP.1.q.le (by decide))) ?_;rw [Q_v,Q_v];have zd:=zQ.1.sub zP.1;obtain ⟨d,hd'⟩ : ∃ d,d=Q'.x-P.x:=⟨_,rfl⟩;rw [<-hd'] at zd ⊢;have hdx : (Q' - P).x=d:=hd'.symm;rw [hgtR,hdx];conv=>whnf
 refine cf (zho (Q d) (zd.q.le (by decide))) ?_;rw [Q_v];conv=>whnf
 refine zaj ?_ ?_ <;> intro h
 ·have h1 : d=0:=zbt.1 (by simpa using h);rw [zxJ h1];conv=>whnf
  exact zau (by rw [qV,zlL])
 have h1 : ¬d=0:=fun e=>by
  have : ¬cmpQ d 0=0:=by simpa using h
  exact this (zbt.2 e)
 rw [zxI h1];conv=>whnf
 refine cf (za2 x (Q P.x) (hx.le (by decide)) (zP.1.q.le (by decide))) ?_;rw [Q_v];conv=>whnf
 refine zaj ?_ ?_ <;> intro h
 ·have h2 : x.v<P.x:=zbj.1 (zA0 h);rw [zxJ (.inl h2)];conv=>whnf
  exact zau (by rw [qV,zlL])
 have h2 : ¬x.v<P.x:=fun e=>zA1 h (zbj.2 e)
 conv=>whnf
 refine cf (za2 x (Q Q'.x) (hx.le (by decide)) (zQ.1.q.le (by decide))) ?_;rw [Q_v];conv=>whnf
 refine zaj ?_ ?_ <;> intro h
 ·have h3 : Q'.x<x.v:=zbM.1 (zA0 h);rw [zxJ (.inr h3)];conv=>whnf
  exact zau (by rw [qV,zlL])
 have h3 : ¬Q'.x<x.v:=fun e=>zA1 h (zbM.2 e)
 rw [zxI (fun h=>h.elim h2 h3)];conv=>whnf
 refine zy4 [(11,7,[9])] (by kernel_rfl) ?_;conv=>whnf
 refine cd (zex x (Q P.x) (hx.le (by decide)) (zP.1.q.le (by decide))) ?_;rw [Q_v];have zf:=zx.sub zP.1;conv=>whnf
 refine cd (zkt (Q (x.v-P.x)) (Q d) (zf.q.le (by decide)) (zd.q.le (by decide))) ?_;rw [Q_v,Q_v,quoV,zxI h1];have zt:=zf.div zd;generalize (x.v-P.x)/d=t at zt ⊢;conv=>whnf
 refine cf (zuB (PQ P) (PQ Q') (Q t) (zP.q.le (by decide)) (zQ.q.le (by decide)) (zt.q.le (by decide))) ?_;rw [PQ_v,PQ_v,Q_v];conv=>whnf
 exact zau rfl
def cutR (l h f s : Rat) : Rat×Rat×Bool :=
 if s=0 then (l,h,decide (0<=f))
 else if 0<s then ((if l < -f/s then -f/s else l),h,decide ((if l < -f/s then -f/s else l)<=h))
 else (l,(if -f/s<h then -f/s else h),decide (l<=(if -f/s<h then -f/s else h)))
theorem zm2 (x y : Rat) : decide (cmpQ x y<=0)=decide (x<=y):=decide_eq_decide.2 zl7
theorem zvO (x y : Rat) : decide (cmpQ x y>=0)=decide (y<=x):=decide_eq_decide.2 zpN
theorem zwL (l h f s : Rat) (zl : Sz 605 l) (zh : Sz 605 h) (zf : Sz 201 f) (zs : Sz 403 s) : Fn PP 170 [qV l,qV h,qV f,qV s] (.tuple #[qV (cutR l h f s).1,qV (cutR l h f s).2.1,.bool (cutR l h f s).2.2]):=by
 refine zzn zab mixed Tryz.func170 rfl rfl (zxW rfl) ?_;intro w;conv=>whnf
 refine cf (zho (Q s) (zs.q.le (by decide))) ?_;rw [Q_v,cutR];conv=>whnf
 refine zaj ?_ ?_ <;> intro hz
 ·have h1 : s=0:=zbt.1 (by simpa using hz);rw [zxJ h1];conv=>whnf
  refine zy4 [(5,8,[1,4]),(6,9,[4])] (by kernel_rfl) ?_;conv=>whnf
  refine cd (zho (Q f) (zf.q.le (by decide))) ?_;rw [Q_v];conv=>whnf
  refine zar ?_;rw [zvO]
 have h0 : ¬s=0:=fun e=>by
  have : ¬cmpQ s 0=0:=by simpa using hz
  exact this (zbt.2 e)
 rw [zxI h0];have zt : Sz 605 (-f/s):=(zf.neg.div zs).le (by decide);conv=>whnf
 refine zaj ?_ ?_ <;> intro hs
 ·have h1 : 0<s:=zmL.1 (by simpa using hs);rw [zxJ h1];conv=>whnf
  refine zy4 [(8,11,[6])] (by kernel_rfl) ?_;conv=>whnf
  refine cd (znt (Q f) (zf.q.le (by decide))) ?_;rw [Q_v];conv=>whnf
  refine cd (zkt (Q (-f)) (Q s) (zf.neg.q.le (by decide)) (zs.q.le (by decide))) ?_;rw [Q_v,Q_v,quoV,zxI h0];generalize -f/s=t at zt ⊢;conv=>whnf
  refine cf (za2 (Q t) (Q l) (zt.q.le (by decide)) (zl.q.le (by decide))) ?_;rw [Q_v,Q_v];conv=>whnf
  by_cases hlt : l<t
  ·refine zag (zz8 (zbM.2 hlt)) ?_;simp only [zxJ hlt];conv=>whnf
   refine zy4 [(6,8,[1,5]),(7,9,[5])] (by kernel_rfl) ?_;conv=>whnf
   refine cd (za2 (Q t) (Q h) (zt.q.le (by decide)) (zh.q.le (by decide))) ?_;rw [Q_v,Q_v];conv=>whnf
   refine zar ?_;rw [zm2]
  ·refine zac (zz9 (fun k=>hlt (zbM.1 k))) ?_;simp only [zxI hlt];conv=>whnf
   refine zy4 [(6,8,[1,5]),(7,9,[5])] (by kernel_rfl) ?_;conv=>whnf
   refine cd (za2 (Q l) (Q h) (zl.q.le (by decide)) (zh.q.le (by decide))) ?_;rw [Q_v,Q_v];conv=>whnf
   refine zar ?_;rw [zm2]
 ·have h1 : ¬0<s:=fun e=>by
   have : ¬cmpQ s 0=1:=by simpa using hs
   exact this (zmL.2 e)
  rw [zxI h1];conv=>whnf
  refine zy4 [(8,13,[6])] (by kernel_rfl) ?_;conv=>whnf
  refine cd (znt (Q f) (zf.q.le (by decide))) ?_;rw [Q_v];conv=>whnf
  refine cd (zkt (Q (-f)) (Q s) (zf.neg.q.le (by decide)) (zs.q.le (by decide))) ?_;rw [Q_v,Q_v,quoV,zxI h0];generalize -f/s=t at zt ⊢;conv=>whnf
  refine cf (za2 (Q t) (Q h) (zt.q.le (by decide)) (zh.q.le (by decide))) ?_;rw [Q_v,Q_v];conv=>whnf
  by_cases hlt : t<h
  ·refine zag (zz8 (zbj.2 hlt)) ?_;simp only [zxJ hlt];conv=>whnf
   refine zy4 [(6,8,[1,5]),(7,9,[5])] (by kernel_rfl) ?_;conv=>whnf
   refine cd (za2 (Q l) (Q t) (zl.q.le (by decide)) (zt.q.le (by decide))) ?_;rw [Q_v,Q_v];conv=>whnf
   refine zar ?_;rw [zm2]
  ·refine zac (zz9 (fun k=>hlt (zbj.1 k))) ?_;simp only [zxI hlt];conv=>whnf
   refine zy4 [(6,8,[1,5]),(7,9,[5])] (by kernel_rfl) ?_;conv=>whnf
   refine cd (za2 (Q l) (Q h) (zl.q.le (by decide)) (zh.q.le (by decide))) ?_;rw [Q_v,Q_v];conv=>whnf
   refine zar ?_;rw [zm2]
theorem znZ {b : Bx} {A B : V} {k : Nat} (h : zcj b A B k=none) (j : Nat) : zcj b A B (k+j)=none:=by
 induction j with
 | zero=>exact h
 | succ j ih=>rw [<-zxS,zcj,ih]
theorem zn5 {b : Bx} {A B : V} {k : Nat} {l h : Rat} (e : zcj b A B k=some (l,h)) (hlt : h<l) (j : Nat) : zcj b A B (k+j)=none\/∃ l' h',zcj b A B (k+j)=some (l',h')/\h' < l':=by
 induction j with
 | zero=>exact .inr ⟨l,h,e,hlt⟩
 | succ j ih =>
  rw [<-zxS];rcases ih with ih | ⟨l',h',ih,hl⟩
  ·exact .inl (by rw [zcj,ih])
  rw [zcj,ih];simp only;split
  ·split
   ·exact .inl rfl
   ·exact .inr ⟨_,_,rfl,hl⟩
  ·split
   ·rename_i k; exact .inr ⟨_,_,rfl,Std.lt_trans hl k.2⟩
   ·split
    ·rename_i k; exact .inr ⟨_,_,rfl,Std.lt_trans k.2 hl⟩
    ·exact .inr ⟨_,_,rfl,hl⟩
theorem zrs {b : Bx} {A B : V} {k : Nat} (hk : k<=4) (h : zcj b A B k=none) : zch b A B=none:=by
 have:=znZ h (4-k);rw [show k+(4-k)=4 by omega] at this;rw [zch,this]
theorem zoh {b : Bx} {A B : V} {k : Nat} {l h : Rat} (hk : k<=4) (e : zcj b A B k=some (l,h)) (hlt : h<l) : zch b A B=none:=by
 have:=zn5 e hlt (4-k);rw [show k+(4-k)=4 by omega] at this;rcases this with h | ⟨l',h',e',h''⟩
 ·rw [zch,h]
 ·rw [zch,e']; exact zxJ h''
theorem zrF {b : Bx} {A B : V} {k : Nat} {l h f s : Rat} (hk : k<4) (e : zcj b A B k=some (l,h)) (hf : f=zaX b A k) (hs : s=zaX b B k-zaX b A k) (hle : l<=h) :
  ((cutR l h f s).2.2=true->zcj b A B (k+1)=some ((cutR l h f s).1,(cutR l h f s).2.1)/\(cutR l h f s).1<=(cutR l h f s).2.1)/\((cutR l h f s).2.2=false->zch b A B=none):=by
 have hn : zcj b A B (k+1)=if s=0 then (if f<0 then none else some (l,h)) else if 0<s/\l < -f/s then some (-f/s,h) else if s<0/\-f/s<h then some (l,-f/s) else some (l,h):=by
  rw [zcj,e,hf,hs]
 have bk:=fun (l' h' : Rat)=>zoh (b:=b) (A:=A) (B:=B) (k:=k+1) (l:=l') (h:=h') (by omega)
 unfold cutR;by_cases h0 : s=0
 ·rw [zxJ h0] at hn ⊢;refine ⟨fun k=>?_,fun k=>?_⟩
  ·have : 0<=f:=zA0 k;rw [zxI (by grind)] at hn;exact ⟨hn,hle⟩
  ·have : ¬0<=f:=zA1 k;rw [zxJ (by grind)] at hn;exact zrs (by omega) hn
 rw [zxI h0] at hn ⊢;by_cases hp : 0<s
 ·rw [zxJ hp];rw [zxI (show ¬(s<0/\-f/s<h) from fun k=>by have:=k.1; grind)] at hn;have hn' : zcj b A B (k+1)=some ((if l < -f/s then -f/s else l),h):=by
   rw [hn]; split
   ·rename_i k; rw [zxJ k.2]
   ·rename_i k; rw [zxI (fun h=>k ⟨hp,h⟩)]
  refine ⟨fun k=>⟨hn',zA0 k⟩,fun k=>bk _ _ hn' ?_⟩;have : ¬_:=zA1 k;exact zz7.1 this
 ·rw [zxI hp];rw [zxI (show ¬(0<s/\l < -f/s) from fun k=>hp k.1)] at hn;have hm : s<0:=by grind
  have hn' : zcj b A B (k+1)=some (l,(if -f/s<h then -f/s else h)):=by
   rw [hn]; split
   ·rename_i k; rw [zxJ k.2]
   ·rename_i k; rw [zxI (fun h=>k ⟨hm,h⟩)]
  refine ⟨fun k=>⟨hn',zA0 k⟩,fun k=>bk _ _ hn' ?_⟩;have : ¬_:=zA1 k;exact zz7.1 this
def lit4 (a b c d : Rat) : List Value:=ratC (Q a)++(ratC (Q b)++(ratC (Q c)++ratC (Q d)))
theorem zv2 (s : Sg) (b : Bx) (hs : s.sm K0) (hb : b.sm K0) : Fn PP 97 [sV s,bxV b] (zlc s b):=by
 refine zzn zab mixed Tryz.func97 rfl rfl (zxW rfl) ?_;intro w;have zA:=hs.1.sz (by decide);have zB:=hs.2.sz (by decide);have zl:=hb.1.sz (by decide);have zh:=hb.2.sz (by decide);conv=>whnf
 refine cf (zg3 s (hs.le (by decide))) ?_;rw [zcE,zlc];by_cases hd : zb3 s
 ·rw [zxJ hd,zxJ hd];conv=>whnf
  exact zar rfl
 rw [zxI hd,zxI hd];conv=>whnf
 refine cf (za2 b.lo.x b.hi.x (hb.1.1.le (by decide)) (hb.2.1.le (by decide))) ?_;conv=>whnf
 by_cases h1 : b.hi.x.v<b.lo.x.v
 ·rw [zxJ (.inl h1)];refine zag (zz8 (zbM.2 h1)) ?_;conv=>whnf
  exact zar rfl
 refine zac (zz9 (fun h=>h1 (zbM.1 h))) ?_;conv=>whnf
 refine cf (za2 b.lo.y b.hi.y (hb.1.2.le (by decide)) (hb.2.2.le (by decide))) ?_;conv=>whnf
 by_cases h2 : b.hi.y.v<b.lo.y.v
 ·rw [zxJ (.inr h2)];refine zag (zz8 (zbM.2 h2)) ?_;conv=>whnf
  exact zar rfl
 rw [zxI (fun h=>h.elim h1 h2)];refine zac (zz9 (fun h=>h2 (zbM.1 h))) ?_;conv=>whnf
 refine cf (zhT s.B s.A (hs.2.le (by decide)) (hs.1.le (by decide))) ?_;conv=>whnf
 refine zak.qk ?_;conv=>whnf
 refine cd (zex s.A.x b.lo.x (hs.1.1.le (by decide)) (hb.1.1.le (by decide))) ?_;conv=>whnf
 refine cd (zex b.hi.x s.A.x (hb.2.1.le (by decide)) (hs.1.1.le (by decide))) ?_;conv=>whnf
 refine cd (zex s.A.y b.lo.y (hs.1.2.le (by decide)) (hb.1.2.le (by decide))) ?_;conv=>whnf
 refine cd (zex b.hi.y s.A.y (hb.2.2.le (by decide)) (hs.1.2.le (by decide))) ?_;conv=>whnf
 refine zak.qk ?_;conv=>whnf
 refine cd (znt (Q (s.B.v-s.A.v).x) ((zB.sub zA).1.q.le (by decide))) ?_;rw [Q_v];conv=>whnf
 refine cd (znt (Q (s.B.v-s.A.v).y) ((zB.sub zA).2.q.le (by decide))) ?_;rw [Q_v];conv=>whnf
 refine cf (zvI 1 (by decide) (by decide)) ?_;conv=>whnf
 refine zal (ι:=Nat×Rat×Rat×Bool) (fun ⟨i,l,h,k⟩=>⟨[(2,.o (.p 2 0)),(4,.o (.p 4 0)),(8,.o (.s 70 0 4 4)),(9,.o (.s 81 0 4 4)),(10,.o (.p 10 0)),(11,.o (.p 11 0)),(12,.o (.v (.bool k))),(13,.o (.v (.int .i64 i)))],
   [(2,sgB s),(4,sgB S0),(10,ratM (Q l)),(11,ratM (Q h)),(70,.box ((lit4 (s.A.x.v-b.lo.x.v) (b.hi.x.v-s.A.x.v) (s.A.y.v-b.lo.y.v) (b.hi.y.v-s.A.y.v)).map AV.v) zat),(81,.box ((lit4 (s.B.v-s.A.v).x (-(s.B.v-s.A.v).x) (s.B.v-s.A.v).y (-(s.B.v-s.A.v).y)).map AV.v) zat)],[]⟩)
  (fun ⟨i,l,h,k⟩=>i<=4/\(k=true->zcj b s.A.v s.B.v i=some (l,h)/\l<=h)/\(k=false->zch b s.A.v s.B.v=none)) (fun ⟨i,l,h,k⟩=>4-i) (0,0,1,true) ⟨by omega,fun _=>⟨rfl,by decide⟩,fun h=>by cases h⟩
  (zzj ⟨rfl,rfl,rfl,rfl,rfl,rfl,rfl,rfl,trivial⟩ ⟨mrf rfl,mrf rfl,⟨_,rfl,by rw [zd8]; exact .refl _⟩,mrf rfl,mrf rfl,mrf rfl,trivial⟩ (fun R hR=>hR)) ?_
 rintro ⟨i,l,h,k⟩ ⟨hi,hk1,hk2⟩
 cases k with
 | false =>
  have hi' : i=0\/i=1\/i=2\/i=3\/i=4:=by omega
  rw [hk2 rfl];rcases hi' with rfl | rfl | rfl | rfl | rfl <;>
  ·conv=>whnf
   exact zar rfl
 | true =>
  obtain ⟨hc,hle⟩:=hk1 rfl;obtain ⟨zl,zh⟩:=zgT hb zA zB i l h hc;by_cases hi4 : i=4
  ·subst hi4;rw [zch,hc];simp only [zxI (zB6.2 hle)];conv=>whnf
   refine zak.qk ?_;conv=>whnf
   refine cd (zuB s.A s.B (Q l) (hs.1.le (by decide)) (hs.2.le (by decide)) (zl.q.le (by decide))) ?_;rw [Q_v];conv=>whnf
   refine cd (zuB s.A s.B (Q h) (hs.1.le (by decide)) (hs.2.le (by decide)) (zh.q.le (by decide))) ?_;rw [Q_v];conv=>whnf
   exact zar rfl
  have zf:=zeT hb zA i;have zs:=(zeT hb zB i).sub zf;have hst:=fun f s' hf hs'=>zrF (b:=b) (A:=s.A.v) (B:=s.B.v) (k:=i) (l:=l) (h:=h) (f:=f) (s:=s') (by omega) hc hf hs' hle
  have hi' : i=0\/i=1\/i=2\/i=3:=by omega
  have e : ∀ a b c : Rat,b-a=(b-c)-(a-c):=fun a b c=>by grind
  have e' : ∀ a b c : Rat,-(b-a)=(c-b)-(c-a):=fun a b c=>by grind
  have r0:=fun (f s' : Rat) (h1 : f=zaX b s.A.v i) (h2 : s'=zaX b s.B.v i-zaX b s.A.v i)=>zwL l h f s' zl zh (by rw [h1]; exact zf) (by rw [h2]; exact zs)
  rcases hi' with rfl | rfl | rfl | rfl
  all_goals
   conv=>whnf
   refine zy4 [(15,10,[13,14]),(16,11,[14])] (by kernel_rfl) ?_;conv=>whnf
   refine ⟨by decide,?_⟩;conv=>whnf
   refine ⟨by decide,?_⟩;conv=>whnf
  ·have hz:=hst (s.A.x.v-b.lo.x.v) (s.B.v-s.A.v).x rfl (e _ _ _);refine cd (r0 (s.A.x.v-b.lo.x.v) (s.B.v-s.A.v).x rfl (e _ _ _)) ?_;generalize cutR l h (s.A.x.v-b.lo.x.v) (s.B.v-s.A.v).x=R at hz ⊢;obtain ⟨l',h',k'⟩:=R;conv=>whnf
   exact ⟨(_,l',h',k'),⟨by decide,hz⟩,zxW rfl,zzj ⟨rfl,rfl,rfl,rfl,rfl,rfl,rfl,rfl,trivial⟩ ⟨mrf rfl,mrf rfl,mrf rfl,mrf rfl,mrf rfl,mrf rfl,trivial⟩ (fun R hR=>hR)⟩
  ·have hz:=hst (b.hi.x.v-s.A.x.v) (-(s.B.v-s.A.v).x) rfl (e' _ _ _);refine cd (r0 (b.hi.x.v-s.A.x.v) (-(s.B.v-s.A.v).x) rfl (e' _ _ _)) ?_;generalize cutR l h (b.hi.x.v-s.A.x.v) (-(s.B.v-s.A.v).x)=R at hz ⊢;obtain ⟨l',h',k'⟩:=R;conv=>whnf
   exact ⟨(_,l',h',k'),⟨by decide,hz⟩,zxW rfl,zzj ⟨rfl,rfl,rfl,rfl,rfl,rfl,rfl,rfl,trivial⟩ ⟨mrf rfl,mrf rfl,mrf rfl,mrf rfl,mrf rfl,mrf rfl,trivial⟩ (fun R hR=>hR)⟩
  ·have hz:=hst (s.A.y.v-b.lo.y.v) (s.B.v-s.A.v).y rfl (e _ _ _);refine cd (r0 (s.A.y.v-b.lo.y.v) (s.B.v-s.A.v).y rfl (e _ _ _)) ?_;generalize cutR l h (s.A.y.v-b.lo.y.v) (s.B.v-s.A.v).y=R at hz ⊢;obtain ⟨l',h',k'⟩:=R;conv=>whnf
   exact ⟨(_,l',h',k'),⟨by decide,hz⟩,zxW rfl,zzj ⟨rfl,rfl,rfl,rfl,rfl,rfl,rfl,rfl,trivial⟩ ⟨mrf rfl,mrf rfl,mrf rfl,mrf rfl,mrf rfl,mrf rfl,trivial⟩ (fun R hR=>hR)⟩
  ·have hz:=hst (b.hi.y.v-s.A.y.v) (-(s.B.v-s.A.v).y) rfl (e' _ _ _);refine cd (r0 (b.hi.y.v-s.A.y.v) (-(s.B.v-s.A.v).y) rfl (e' _ _ _)) ?_;generalize cutR l h (b.hi.y.v-s.A.y.v) (-(s.B.v-s.A.v).y)=R at hz ⊢;obtain ⟨l',h',k'⟩:=R;conv=>whnf
   exact ⟨(_,l',h',k'),⟨by decide,hz⟩,zxW rfl,zzj ⟨rfl,rfl,rfl,rfl,rfl,rfl,rfl,rfl,trivial⟩ ⟨mrf rfl,mrf rfl,mrf rfl,mrf rfl,mrf rfl,mrf rfl,trivial⟩ (fun R hR=>hR)⟩
theorem ziA (b : Bx) (hb : b.sm KK) : Fn PP 44 [bxV b] (.bool (decide b.good)):=by
 refine zzn zab mixed Tryz.func44 rfl rfl (zxW rfl) ?_;intro w;conv=>whnf
 refine cf (zeK b.lo hb.1) ?_;by_cases h1 : b.lo.ok;rotate_left
 ·rw [zxI h1];conv=>whnf
  refine zaa ?_;rw [zz9 (fun h=>h1 h.1)]
 rw [zxJ h1];conv=>whnf
 refine cf (zeK b.hi hb.2) ?_;by_cases h2 : b.hi.ok;rotate_left
 ·rw [zxI h2];conv=>whnf
  refine zaa ?_;rw [zz9 (fun h=>h2 h.2.1)]
 rw [zxJ h2];conv=>whnf
 refine cf (za2 b.lo.x b.hi.x hb.1.1 hb.2.1) ?_;conv=>whnf
 by_cases h3 : b.lo.x.v<b.hi.x.v;rotate_left
 ·refine zac (zz9 (fun h=>h3 (zbj.1 h))) ?_;conv=>whnf
  refine zaa ?_;rw [zz9 (fun h=>h3 h.2.2.1)]
 refine zag (zz8 (zbj.2 h3)) ?_;conv=>whnf
 refine cf (za2 b.lo.y b.hi.y hb.1.2 hb.2.2) ?_;conv=>whnf
 refine zaa (zyr Value.bool (decide_eq_decide.2 ?_));rw [zbj];exact ⟨fun h=>⟨h1,h2,h3,h⟩,fun h=>h.2.2.2⟩
theorem zf3 (x y : Rat) (hx : Sz KV x) (hy : Sz KV y) : Fn PP 80 [qV x,qV y] (qV ((x+y)/2)):=by
 refine zzn zab mixed Tryz.func80 rfl rfl (zxW rfl) ?_;intro w;conv=>whnf
 refine cf (zmO (Q x) (Q y) (hx.q.le (by decide)) (hy.q.le (by decide))) ?_;rw [Q_v,Q_v];conv=>whnf
 refine cf (zvI 2 (by decide) (by decide)) ?_;conv=>whnf
 refine cf (zkt (Q (x+y)) (Q ((2 : Int) : Rat)) ((hx.add hy).q.le (by decide)) ((show Sz 1 ((2 : Int) : Rat) from ⟨by decide,by decide⟩).q.le (by decide))) ?_;rw [Q_v,Q_v,quoV,zxI (by decide)];conv=>whnf
 exact zaa rfl
theorem eqRV (x y : Rat) : ((Q x).neg==(Q y).neg&&((bs (Q x).num).toList==(bs (Q y).num).toList&&((bs (Q x).den).toList==(bs (Q y).den).toList&&true)))=decide (x=y):=by
 have h:=eqPV ⟨x,0⟩ ⟨y,0⟩;have e : (decide ((⟨x,0⟩ : V)=⟨y,0⟩))=decide (x=y):=decide_eq_decide.2 ⟨fun h=>zyr V.x h,fun h=>by rw [h]⟩;rw [<-e,<-h];simp [PQ]
theorem zlg (p q : V) : Fn PP 83 [sV ⟨PQ p,PQ q⟩] (.bool (decide (p=q))):=by
 refine zzn zab mixed Tryz.func83 rfl rfl (zxW rfl) ?_;intro w;conv=>whnf
 refine zaa (zyr Value.bool ?_);exact eqPV p q
theorem zqb (p q : V) : Fn PP 101 [sV ⟨PQ p,PQ q⟩] (.bool (decide (p.x=q.x))):=by
 refine zzn zab mixed Tryz.func101 rfl rfl (zxW rfl) ?_;intro w;conv=>whnf
 refine zaa (zyr Value.bool ?_);exact eqRV p.x q.x
def clE (lo hi : V) (e : V×V) : V×V:=match zch ⟨PQ lo,PQ hi⟩ e.1 e.2 with
 | none=>(V0,V0)
 | some (c,d)=>if c=d then (V0,V0) else ordV c d
theorem zsI : sgq (V0,V0)=(sgC (P0,P0)):=by
 show sgC (PQ V0,PQ V0)=_;have : PQ V0=P0:=by rw [PQ,show V0.x=0 from rfl,show V0.y=0 from rfl,zd8]; rfl
 rw [this]
theorem znL {α β : Type} (f : α->β) (z : β) {l : List α} {i n : Nat} {e : α} (h : l[i]?=some e) (hn : i<n) :
  ((l.take i).map f++List.replicate (n-i) z).set i (f e)=(l.take (i+1)).map f++List.replicate (n-(i+1)) z:=by
 have hi:=(zyz.1 h).1;rw [show n-i=(n-(i+1))+1 by omega,zzI,zAR _ _ (by simp [zyI]; omega),zyA,zyI,zAs (by omega),zAI,zBv,zaD h,zzL,zyF];rfl
theorem zry {α β : Type} (f : α->β) (z : β) {l : List α} {i n : Nat} {e : α} (h : l[i]?=some e) (hn : i<n) (hz : f e=z) :
  (l.take i).map f++List.replicate (n-i) z=(l.take (i+1)).map f++List.replicate (n-(i+1)) z:=by
 rw [<-znL f z h hn,hz];have hi:=(zyz.1 h).1;rw [show n-i=(n-(i+1))+1 by omega,zzI,zAR _ _ (by simp [zyI]; omega),zyA,zyI,zAs (by omega),zAI,zBv]
theorem zkC (lo hi : V) (A : Option Addr) (c : Nat) (E : List (V×V)) (hlo : SzV K0 lo) (hhi : SzV K0 hi) (hx : lo.x<=hi.x) (hy : lo.y<=hi.y) (hE : ∀ e∈E,(SzV K0 e.1/\SzV K0 e.2)/\e.1≠e.2) (hl : E.length<=400) :
  FnM PP 46 [bxV ⟨PQ lo,PQ hi⟩,.slice A E.length c] (facts [zai A (rowV sgq E)]) (zbD za8 12 E.length (rowV sgq (E.map (clE lo hi)))):=by
 refine zzp zab mixed Tryz.func46 rfl rfl (zxW rfl) (by simp [zzk]) ?_;intro w hw;obtain ⟨n,hn⟩ : ∃ n,n=E.length:=⟨_,rfl⟩;have hA : 0<n->A.isSome=true:=fun h=>zam (zaK hw) (by rw [zad zaT]; omega)
 rw [<-hn] at hl ⊢;conv=>whnf
 refine ⟨by show 0<=(n : Int)/\(n : Int)<=(n : Int)/\((160 : Nat) : Int)*(n : Int)<=281474976710656/\(n : Int)<=9223372036854775807; omega,?_⟩;conv=>whnf
 refine zal (ι:=Nat) (fun i=>⟨[(1,.o (.v (.slice A n c))),(2,.o (.p 2 0)),(5,.o (.w 12)),(6,.o (.v (.int .i64 i)))],[(2,.box ((boxC ⟨PQ lo,PQ hi⟩).map AV.v) zaM),(12,.own za8 12 n (rowV sgq ((E.take i).map (clE lo hi)++List.replicate (n-i) (V0,V0))))],[zai A (rowV sgq E)]⟩)
  (fun i=>i<=n) (fun i=>n-i) 0 (zyD _)
  (zzj ⟨rfl,rfl,rfl,rfl,trivial⟩ ⟨mrf rfl,⟨_,rfl,?_⟩,trivial⟩ (fun R hR=>hR)) ?_
 ·show MEle (ME.own za8 12 (n : Int).toNat (repl (n : Int).toNat (sgC (P0,P0)))) (ME.own za8 12 n (rowV sgq (List.replicate (n-0) (V0,V0))));rw [zzS,zb4,zsI,zza]; exact .refl _
 intro i hi0;conv=>whnf
 by_cases hin : i<n;rotate_left
 ·refine zac (zz9 (show ¬(i : Int)<(n : Int) by omega)) ?_;have e0 : n-i=0:=by omega
  have e1 : E.take i=E:=zyJ (by omega);rw [e0,e1,zAW,zyP];conv=>whnf
  exact ⟨12,rfl,rfl⟩
 refine zag (zz8 (show (i : Int)<(n : Int) by omega)) ?_;obtain ⟨e,he⟩ : ∃ e,E[i]?=some e:=⟨_,zyy (by omega)⟩;have heo:=hE e (zyq he);conv=>whnf
 refine zak.lateAt 14 [(11,7,[8,9])] (by kernel_rfl) ?_;conv=>whnf
 refine ⟨⟨by omega,by omega,hA (by omega)⟩,?_⟩;conv=>whnf
 refine zan.nat (A:=A) sgq zaT (zxA ..) rfl he ?_;obtain ⟨e',rfl⟩ : ∃ z,z=e:=⟨_,rfl⟩;conv=>whnf
 have hd : ¬zb3 ⟨PQ e'.1,PQ e'.2⟩:=fun h=>heo.2 (by have:=zaI.1 h; simpa using this)
 have hcv : zlc ⟨PQ e'.1,PQ e'.2⟩ ⟨PQ lo,PQ hi⟩=match zch ⟨PQ lo,PQ hi⟩ e'.1 e'.2 with
   | none=>zpx 0
   | some (c,d)=>.tuple #[sV ⟨PQ c,PQ d⟩,.bool true,.int .i64 0]:=by
  rw [zlc,zxI hd,zxI (fun h=>h.elim (fun h=>absurd hx (zz7.2 (by rw [<-Q_v lo.x,<-Q_v hi.x]; exact h))) (fun h=>absurd hy (zz7.2 (by rw [<-Q_v lo.y,<-Q_v hi.y]; exact h)))),show (⟨PQ e'.1,PQ e'.2⟩ : Sg).A.v=e'.1 from PQ_v _,show (⟨PQ e'.1,PQ e'.2⟩ : Sg).B.v=e'.2 from PQ_v _]
  all_goals (cases zch ⟨PQ lo,PQ hi⟩ e'.1 e'.2 <;> rfl)
 refine cd (zv2 ⟨PQ e'.1,PQ e'.2⟩ ⟨PQ lo,PQ hi⟩ ⟨heo.1.1.q,heo.1.2.q⟩ (Bx.szs hlo hhi)) ?_;rw [hcv];have hst:=znL (clE lo hi) (V0,V0) he hin;have hsm:=zry (clE lo hi) (V0,V0) he hin;have hce : clE lo hi e'=match zch ⟨PQ lo,PQ hi⟩ e'.1 e'.2 with
  | none=>(V0,V0)
  | some (c,d)=>if c=d then (V0,V0) else ordV c d:=rfl
 cases hcl : zch ⟨PQ lo,PQ hi⟩ e'.1 e'.2 with
 | none =>
  rw [hcl] at hce;conv=>whnf
  refine ⟨i+1,by omega,by show n-(i+1)<n-i; omega,zzj ⟨rfl,rfl,rfl,zaq hin (by omega),trivial⟩ ⟨mrf rfl,⟨_,rfl,?_⟩,trivial⟩ (fun R hR=>hR)⟩;rw [<-hsm hce]; exact .refl _
 | some cd =>
  obtain ⟨c1,d1⟩:=cd;rw [hcl] at hce;conv=>whnf
  by_cases hcd : c1=d1
  ·refine zac (zyr (!·) ((eqPV c1 d1).trans (zz8 hcd))) ?_;conv=>whnf
   refine ⟨i+1,by omega,by show n-(i+1)<n-i; omega,zzj ⟨rfl,rfl,rfl,zaq hin (by omega),trivial⟩ ⟨mrf rfl,⟨_,rfl,?_⟩,trivial⟩ (fun R hR=>hR)⟩;rw [<-hsm (by rw [hce]; exact zxJ hcd)]; exact .refl _
  refine zag (zyr (!·) ((eqPV c1 d1).trans (zz9 hcd))) ?_;obtain ⟨z1,z2⟩:=zfs hlo hhi heo.1.1 heo.1.2 hcl;have ho:=zim ⟨PQ c1,PQ d1⟩ ⟨z1.q.le (by decide),z2.q.le (by decide)⟩;rw [show (⟨PQ c1,PQ d1⟩ : Sg).A.v=c1 from PQ_v _,show (⟨PQ c1,PQ d1⟩ : Sg).B.v=d1 from PQ_v _] at ho;conv=>whnf
  refine cf ho ?_;conv=>whnf
  refine ⟨by show 0<=(i : Int)/\(i : Int)<(n : Int); omega,?_⟩;have hlen : ((E.take i).map (clE lo hi)++List.replicate (n-i) (V0,V0)).length=n:=by
   rw [zz2,zyA,zyI,zA7]; omega
  conv=>whnf
  refine ⟨⟨by show (i : Int).toNat*12+12<=(rowV sgq ((E.take i).map (clE lo hi)++List.replicate (n-i) (V0,V0))).length; rw [zad zaT,hlen,zzS]; omega,by decide⟩,?_⟩;conv=>whnf
  refine ⟨i+1,by omega,by show n-(i+1)<n-i; omega,zzj ⟨rfl,rfl,rfl,zaq hin (by omega),trivial⟩ ⟨mrf rfl,⟨_,rfl,?_⟩,trivial⟩ (fun R hR=>hR)⟩;show MEle (ME.own za8 12 n (putN ((i : Int).toNat*12) (sgq (ordV c1 d1)) (rowV sgq ((E.take i).map (clE lo hi)++List.replicate (n-i) (V0,V0))))) _;rw [zzS,zcc zaT _ (by rw [hlen]; exact hin),show ordV c1 d1=clE lo hi e' by rw [hce]; exact (zxI hcd).symm,hst]; exact .refl _
end Go.Sx
end
section
namespace Go.Sx
open Go Go.RowKit
section
variable {P : Program} {T : TT} {C : Cx} {ro : Option Nat} {n : Nat}
def zgL : List Nat->Array Bool->Array Bool
 | [],l=>l
 | k::r,l=>zgL r (l.setIfInBounds k true)
def zjO (ops : Array Oper) (late : Late) (m : Nat) : List Nat->Array Bool->Bool
 | [],_=>true
 | k::r,listed=>isQ late m k&&((Region.ready .any ops listed).contains k&&Region.free .any ops listed k&&zox ops late m k listed)&&zjO ops late m r (listed.setIfInBounds k true)
theorem zet {ops : Array Oper} {listed : Array Bool} {k : Nat} {o : Oper} (h0 : ops[k]?=some o) (hrd : k∈Region.ready .any ops listed) : ∀ e∈o.after,Region.binds .any e=true->listed[e.on]?=some true:=by
 obtain ⟨_,o',ho',hall⟩:=mem_ready.1 hrd;rw [h0] at ho'; cases ho';intro e he hbe;have:=hall e he hbe;rcases zyW e.on listed.size with h' | h'
 ·simp [h'] at this ⊢; exact this
 ·simp [zyX h'] at this
theorem znq {ops : Array Oper} {late : Late} {m : Nat} {K Kp : SS->Prop} {fuel : Nat} : ∀ (r : List (Nat×Oper)) (listed : Array Bool) (st : SS),(∀ p∈r,ops[p.1]?=some p.2)->zjO ops late m (r.map (·.1)) listed=true->zd5 ops listed ->
  dops P T C ops.toList late m r st Kp->(∀ s,Kp s->zd5 ops (zgL (r.map (·.1)) listed)->SAny P T C ops late m K fuel (zgL (r.map (·.1)) listed) s)->SAny P T C ops late m K (r.length+fuel) listed st
 | [],listed,st,_,_,hcl,hs,hK=>by rw [zAK,zyo]; exact hK st hs hcl
 | (k,o)::r,listed,st,hr,hb,hcl,hs,hK=>by
  have h0 : ops[k]?=some o:=hr (k,o) (zxA ..);have hr' : ∀ p∈r,ops[p.1]?=some p.2:=fun p hp=>hr p (zxB _ hp)
  simp only [zxT,zjO,zxV] at hb;obtain ⟨⟨hkm,⟨hready,hfree⟩,hwait⟩,hb⟩:=hb;simp only [dops] at hs;rw [hkm] at hs;simp only [cond_true] at hs
  cases hlo : zfB late k st o with
  | false=>rw [hlo] at hs; exact hs.elim
  | true =>
  rw [hlo] at hs;simp only [cond_true] at hs;obtain ⟨hd,x,q,st1,he,hg,hK'⟩:=zed hs;have hspec:=Region.free_spec h0 hfree;have hrd : k∈Region.ready .any ops listed:=by simpa using hready
  rw [show ((k,o)::r).length+fuel=(r.length+fuel)+1 by simp; omega];refine SAny.first (q:=q) h0 hkm hd (r.length+fuel) listed st ?_ hcl hrd hg ?_
  ·intro j oj hoj hne hun hno;refine ⟨hspec j oj hoj hne hun hno,?_⟩;unfold zox at hwait;rw [zx2] at hwait;have hj:=hwait j (zy0.2 (zxv.1 hoj).1);rw [hun] at hj;simp only [zxF,zyi,false_or] at hj;rcases hj with (hj | hj) | hj
   ·exact .inl hj
   ·exact .inr (.inl ⟨_,hj⟩)
   ·obtain ⟨κ,fr,hκ,hm,hfr⟩:=zdn hj;unfold zfB at hlo;rw [zx2] at hlo;have:=hlo _ hm;simp only [hfr,Bool.not_true,zxU] at this;exact .inr (.inr ⟨κ,hκ,this⟩)
  ·have:=znq (K:=K) (Kp:=Kp) (fuel:=fuel) r (listed.setIfInBounds k true) _ hr' hb (hcl.set h0 (zet h0 hrd)) hK' (fun s hs hc=>hK s hs hc);exact this.eqv (he.symm.upd o x q)
def pick (ops : List Oper) : List Nat->List (Nat×Oper)
 | []=>[]
 | i::r=>match nth i ops with
  | some o=>(i,o)::pick ops r
  | none=>pick ops r
theorem zeE {ops : Array Oper} : ∀ {l : List Nat},∀ p∈pick ops.toList l,ops[p.1]?=some p.2
 | [],p,hp=>by cases hp
 | i::r,p,hp=>by
  unfold pick at hp;split at hp
  ·rename_i o ho;rcases zy1.1 hp with rfl | hp
   ·rw [zdc,zys] at ho; exact ho
   ·exact zeE p hp
  ·exact zeE p hp
def zs6 (ops : Array Oper) (late : Late) (m : Nat) (pre : List Nat) (p q : Nat) (r1 r2 : List Nat) : Bool :=
 let l0:=Array.replicate ops.size false
 let L:=zgL pre l0
 zjO ops late m pre l0&&(((Region.ready .any ops L).contains p&&(Region.ready .any ops L).contains q)&&((Region.ready .any ops L).all (fun i=>Nat.beq i p||Nat.beq i q)))&&(!(isQ late m p)&&(isQ late m q&&(zdl late p).isNone))&&(zdk ops late m r1 (L.setIfInBounds p true)&&zdk ops late m (p::r2) (L.setIfInBounds q true))
 && (Nat.beq ((pick ops.toList pre).map (·.1)).length pre.length&&Nat.beq (pick ops.toList r1).length r1.length&&Nat.beq (pick ops.toList (p::r2)).length (r2.length+1)&&Nat.beq r1.length (r2.length+1)&&Nat.beq (pre.length+1+r1.length) ops.size)
def atOp (ops : List Oper) (i : Nat) (f : Oper->Prop) : Prop:=match nth i ops with
 | some o=>f o
 | none=>False
theorem zeJ {ops : List Oper} : ∀ {l : List Nat},(pick ops l).length=l.length->(pick ops l).map (·.1)=l
 | [],_=>rfl
 | i::r,h=>by
  have hle : ∀ l : List Nat,(pick ops l).length<=l.length:=fun l=>by
   induction l with
   | nil=>exact zxr _
   | cons j t ih=>unfold pick; split <;> simp <;> omega
  unfold pick at h ⊢;split
  ·rename_i o ho;rw [ho] at h;simp only [zxR,Nat.add_right_cancel_iff] at h;rw [zxT,zeJ h]
  ·rename_i ho;rw [ho] at h;have:=hle r;simp only [zxR] at h;omega
theorem WPS.drawS (hT : zaY P T) (hmix : P.follows .mixedOrders=true) {id : Nat} {ops : Array Oper} {st : SS} {K : SS->Prop} {Q : Exit->SS->Prop} (late : Late) (m : Nat) (pre : List Nat) (p q : Nat) (r1 r2 : List Nat) (hb : zs6 ops late m pre p q r1 r2=true)
  (hs : dops P T C ops.toList late m (pick ops.toList pre) st (fun s=>atOp ops.toList p (fun o=>sopG P T C ops.toList o s (fun s'=>dops P T C ops.toList late m (pick ops.toList r1) s' K)) /\
   atOp ops.toList q (fun o=>zjM P T C ops.toList o s (fun s'=>dops P T C ops.toList late m (pick ops.toList (p::r2)) s' K)))) (hQ : ∀ s,K s->Q .normal s) : WPS P C (.region id ops true) st Q:=⟨fun a w h=>by
 refine wpIn_region_any hmix ?_;have h' : SR C st a { w with drawn:=w.drawn+1 }:=by
  obtain ⟨E,hE⟩:=h;exact ⟨E,hE.world ⟨rfl,rfl,rfl,zxr _,fun _ _=>rfl,Nat.le_succ _⟩⟩
 unfold zs6 at hb;simp only [zxV] at hb;obtain ⟨⟨⟨⟨hpre,⟨hcp,hcq⟩,hall⟩,hp,hq,hlp⟩,hb1,hb2⟩,⟨⟨⟨hn0,hn1⟩,hn2⟩,hn3⟩,hn4⟩:=hb;have hn0:=zxj hn0;have hn1:=zxj hn1;have hn2:=zxj hn2;have hn3:=zxj hn3;have hn4:=zxj hn4;rw [zyA] at hn0;have hp : isQ late m p=false:=by simpa using hp
 have hlp : zdl late p=none:=by simpa using hlp
 have hcl0 : zd5 ops (Array.replicate ops.size false):=fun k ok hk=>by simp [zy3] at hk
 have key : SAny P T C ops late m K ((pick ops.toList pre).length+(r1.length+1)) (Array.replicate ops.size false) st:=by
  refine znq (pick ops.toList pre) _ st (fun x hx=>zeE x hx) (by rw [zeJ hn0]; exact hpre) hcl0 hs ?_;rintro s ⟨hA,hB⟩ hcl;rw [zeJ hn0] at hcl ⊢;have hpm : p∈Region.ready .any ops (zgL pre (Array.replicate ops.size false)):=by simpa using hcp
  have hqm : q∈Region.ready .any ops (zgL pre (Array.replicate ops.size false)):=by simpa using hcq
  unfold atOp at hA hB
  cases hop : nth p ops.toList with
  | none=>rw [hop] at hA; exact hA.elim
  | some op =>
  cases hoq : nth q ops.toList with
  | none=>rw [hoq] at hB; exact hB.elim
  | some oq =>
  rw [hop] at hA;rw [hoq] at hB;simp only at hA hB;have hop' : ops[p]?=some op:=by rw [zdc,zys] at hop; exact hop
  have hoq' : ops[q]?=some oq:=by rw [zdc,zys] at hoq; exact hoq
  have next1 : ∀ s',dops P T C ops.toList late m (pick ops.toList r1) s' K->SAny P T C ops late m K r1.length ((zgL pre (Array.replicate ops.size false)).setIfInBounds p true) s':=fun s' hs'=>by
   have:=zeD (P:=P) (T:=T) (C:=C) (K:=K) (late:=late) (m:=m) (pick ops.toList r1) _ s' (fun x hx=>zeE x hx) (by rw [zeJ hn1]; exact hb1) (hcl.set hop' (zet hop' hpm)) hs';rwa [hn1] at this
  have next2 : ∀ s',dops P T C ops.toList late m (pick ops.toList (p::r2)) s' K->SAny P T C ops late m K r1.length ((zgL pre (Array.replicate ops.size false)).setIfInBounds q true) s':=fun s' hs'=>by
   have:=zeD (P:=P) (T:=T) (C:=C) (K:=K) (late:=late) (m:=m) (pick ops.toList (p::r2)) _ s' (fun x hx=>zeE x hx) (by rw [zeJ (by rw [hn2]; rfl)]; exact hb2) (hcl.set hoq' (zet hoq' hqm)) hs';rwa [hn2,<-hn3] at this
  refine ⟨fun h=>(by rw [h] at hpm; cases hpm),fun i hi=>?_⟩;have hi2 : i=p\/i=q:=by
   rw [zx2] at hall;have:=hall i hi;simp only [zxF] at this;exact this.imp zxj zxj
  rcases hi2 with rfl | rfl
  ·unfold SOp;simp only [hop'];rw [zxI (by rw [hp]; simp)];simp only [hlp];exact ⟨s,fun _ _ h=>h,zeh next1 hA⟩
  ·unfold SOp;simp only [hoq'];rw [zxJ hq];obtain ⟨hd,x,mq,st1,he,hg,hK⟩:=zed hB;exact ⟨hd,x,mq,hg,(next2 _ hK).eqv (he.symm.upd oq x mq)⟩
 have h2:=key.sound (ro:=none) (n:=0) hT (Q:=lift C Q) (fun st' a' w' hk hr=>⟨st',hr,hQ st' hk⟩) h';rw [show (pick ops.toList pre).length+(r1.length+1)=ops.size by omega] at h2;simpa using h2⟩
theorem zae.fzB {st : SS} {g : FuncId} {args : List SV} {K : SV->SS->Prop} (k : Nat) {xs : List Value} (hx : boxV st k=some xs) (h : ∀ b,zae P C g (args.map (SV.mp (AV.fz k b))) (st.fz k (AV.fz k b) (zai (some ⟨b,0,none⟩) xs)) K) : zae P C g args st K:=by
 refine ⟨(h 0).enters,fun E w hm=>?_⟩;have hb : ∃ b t m0,lk k st.me=some m0/\E.β k=some b/\w.heap[b]?=some (.cells xs.toArray t (0,0)):=by
   unfold boxV at hx;split at hx
   · rename_i cs ty hl;obtain ⟨b,hb,hc⟩:=hm.ent _ _ hl;rw [zbq E hx] at hc;exact ⟨b,ty,_,hl,hb,hc⟩
   · rename_i cs ty hl
     cases hx
     obtain ⟨b,hb,hc⟩:=hm.ent _ _ hl;exact ⟨b,ty,_,hl,hb,hc⟩
   · cases hx
 obtain ⟨b,t,m0,hl,hb,hc⟩:=hb;have hm2:=((zaV.act (st:=st) hm).fz hl (zmf hb) (zzk (some ⟨b,0,none⟩) xs) (.inr ⟨b,0,rfl,fun j v hj=>by rw [zcg hc,zyo]; simpa using hj⟩) (fun b' hb'=>by
   obtain ⟨a',h1,h2⟩:=zi5 hb'
   cases h1; rw [h2]; exact hb)).mem
 have hargs : args.map (SV.real E)=(args.map (SV.mp (AV.fz k b))).map (SV.real E):=by
   rw [zx0]; exact zxl fun y _=>(SV.mp_real (zmf hb) y).symm
 rw [hargs];refine ((h b).out E w hm2).mono ?_;rintro e w' ⟨E',st',x,h1,h2,h3,h4,h5⟩;refine ⟨E',st',x,h1,h2,h3,fun i sv hi=>?_,h5⟩;obtain ⟨sv0,h6,h7⟩:=h4 i sv hi;obtain ⟨y,h8,rfl⟩:=zoQ h6;exact ⟨y,h8,by rw [h7,SV.mp_real (zmf hb)]⟩
end
inductive OT
 | walk (r : List Nat)
 | q (k : Nat) (t : OT)
 | fork (u : OT)
 | alt (k : Nat) (t u : OT)
 | nil
section
variable {P : Program} {T : TT} {C : Cx}
def zsL : OT->Bool
 | .alt _ _ _=>false
 | .nil=>false
 | _=>true
def zkG : OT->List Nat
 | .alt k _ u=>k::zkG u
 | _=>[]
def zfZ : OT->Nat
 | .walk r=>r.length
 | .q _ t=>zfZ t+1
 | .fork u=>zfZ u
 | .alt _ t _=>zfZ t+1
 | .nil=>0
def chkT (ops : Array Oper) (late : Late) (m : Nat) : OT->Array Bool->Bool
 | .walk r,L=>zdk ops late m r L&&Nat.beq (pick ops.toList r).length r.length
 | .q k t,L=>(isQ late m k&&((Region.ready .any ops L).contains k&&Region.free .any ops L k&&zox ops late m k L))&&(zsL t&&chkT ops late m t (L.setIfInBounds k true))
 | .fork u,L=>(Region.ready .any ops L).all (fun i=>(zkG u).any (Nat.beq i))&&((zkG u).any (fun k=>(Region.ready .any ops L).contains k)&&chkT ops late m u L)
 | .alt k t u,L=>((Region.ready .any ops L).contains k&&(zsL t&&chkT ops late m t (L.setIfInBounds k true)))&&((isQ late m k||(zdl late k).isNone)&&((zkG u).isEmpty||(Nat.beq (zfZ u) (zfZ t+1)&&chkT ops late m u L)))
 | .nil,_=>true
def runT (P : Program) (T : TT) (C : Cx) (ops : Array Oper) (late : Late) (m : Nat) (K : SS->Prop) : OT->SS->Prop
 | .walk r,st=>dops P T C ops.toList late m (pick ops.toList r) st K
 | .q k t,st=>atOp ops.toList k (fun o=>bif zfB late k st o then zjM P T C ops.toList o st (fun s=>runT P T C ops late m K t s) else False)
 | .fork u,st=>runT P T C ops late m K u st
 | .alt k t u,st=>atOp ops.toList k (fun o=>bif isQ late m k then zjM P T C ops.toList o st (fun s=>runT P T C ops late m K t s) else sopG P T C ops.toList o st (fun s=>runT P T C ops late m K t s))/\runT P T C ops late m K u st
 | .nil,_=>True
theorem znw {ops : Array Oper} {k : Nat} {f : Oper->Prop} (h : atOp ops.toList k f) : ∃ o,ops[k]?=some o/\f o:=by
 unfold atOp at h;split at h
 ·rename_i o ho; exact ⟨o,by rw [zdc,zys] at ho; exact ho,h⟩
 ·exact h.elim
theorem zpM : ∀ {u : OT} {i : Nat},i∈zkG u->∃ f,zfZ u=f+1
 | .alt k t u,i,_=>⟨_,rfl⟩
 | .walk _,i,h=>by cases h
 | .q _ _,i,h=>by cases h
 | .fork _,i,h=>by cases h
 | .nil,i,h=>by cases h
theorem zf1 {ops : Array Oper} {late : Late} {m : Nat} {K : SS->Prop} : ∀ (t : OT),
   (∀ L st,zsL t=true->chkT ops late m t L=true->zd5 ops L->runT P T C ops late m K t st->SAny P T C ops late m K (zfZ t) L st) /\
   (∀ L st i f,i∈zkG t->zfZ t=f+1->chkT ops late m t L=true->zd5 ops L->runT P T C ops late m K t st->SOp P T C ops late m i (SAny P T C ops late m K f (L.setIfInBounds i true)) st)
 | .walk r=>⟨fun L st _ hb hcl hs=>by
     simp only [chkT,zxV] at hb;have hn:=zxj hb.2;have:=zeD (P:=P) (T:=T) (C:=C) (K:=K) (late:=late) (m:=m) (pick ops.toList r) L st (fun x hx=>zeE x hx) (by rw [zeJ hn]; exact hb.1) hcl hs;rwa [hn] at this,fun L st i f hi=>(by cases hi)⟩
 | .q k t=>⟨fun L st _ hb hcl hs=>by
     simp only [chkT,zxV] at hb;obtain ⟨⟨hkm,⟨hready,hfree⟩,hwait⟩,hhd,hb⟩:=hb;obtain ⟨o,h0,hs⟩:=znw hs
     cases hlo : zfB late k st o with
     | false=>rw [hlo] at hs; exact hs.elim
     | true =>
     rw [hlo] at hs;simp only [cond_true] at hs;obtain ⟨hd,x,q,st1,he,hg,hK'⟩:=zed hs;have hspec:=Region.free_spec h0 hfree;have hrd : k∈Region.ready .any ops L:=by simpa using hready
     refine SAny.first (q:=q) h0 hkm hd (zfZ t) L st ?_ hcl hrd hg ?_
     · intro j oj hoj hne hun hno;refine ⟨hspec j oj hoj hne hun hno,?_⟩;unfold zox at hwait;rw [zx2] at hwait;have hj:=hwait j (zy0.2 (zxv.1 hoj).1);rw [hun] at hj;simp only [zxF,zyi,false_or] at hj;rcases hj with (hj | hj) | hj
       · exact .inl hj
       · exact .inr (.inl ⟨_,hj⟩)
       · obtain ⟨κ,fr,hκ,hm,hfr⟩:=zdn hj;unfold zfB at hlo;rw [zx2] at hlo;have:=hlo _ hm;simp only [hfr,Bool.not_true,zxU] at this;exact .inr (.inr ⟨κ,hκ,this⟩)
     · exact ((zf1 t).1 _ _ hhd hb (hcl.set h0 (zet h0 hrd)) hK').eqv (he.symm.upd o x q),fun L st i f hi=>(by cases hi)⟩
 | .fork u=>⟨fun L st _ hb hcl hs=>by
     simp only [chkT,zxV] at hb;obtain ⟨hall,hex,hb⟩:=hb;obtain ⟨k,hk,hkr⟩:=zzV.1 hex;obtain ⟨f,hf⟩:=zpM hk;have hkm : k∈Region.ready .any ops L:=by simpa using hkr
     show SAny P T C ops late m K (zfZ u) L st;rw [hf];refine ⟨fun h=>(by rw [h] at hkm; cases hkm),fun i hi=>?_⟩;rw [zx2] at hall;obtain ⟨j,hj,hji⟩:=zzV.1 (hall i hi);have hij:=zxj hji;subst hij;exact (zf1 u).2 L st i f hj hf hb hcl hs,fun L st i f hi=>(by cases hi)⟩
 | .alt k t u=>⟨fun L st h=>(by cases h),fun L st i f hi hf hb hcl hs=>by
     simp only [chkT,zxV] at hb;obtain ⟨⟨hready,hhd,hbt⟩,hq,hu⟩:=hb;have hrd : k∈Region.ready .any ops L:=by simpa using hready
     obtain ⟨h1,h2⟩:=hs;rcases zy1.1 hi with rfl | hi
     · obtain ⟨o,h0,h1⟩:=znw h1;have hft : zfZ t=f:=by
         have : zfZ t+1=f+1:=hf;omega
       have next : ∀ s,runT P T C ops late m K t s->SAny P T C ops late m K f (L.setIfInBounds i true) s:=fun s hs'=>by
         rw [<-hft]; exact (zf1 t).1 _ _ hhd hbt (hcl.set h0 (zet h0 hrd)) hs'
       unfold SOp;simp only [h0]
       cases hqi : isQ late m i with
       | true =>
         rw [zxJ rfl];rw [hqi] at h1;obtain ⟨hd,x,q,st1,he,hg,hK'⟩:=zed h1;exact ⟨hd,x,q,hg,(next _ hK').eqv (he.symm.upd o x q)⟩
       | false =>
         rw [zxI (by simp)];rw [hqi] at h1;have hl : zdl late i=none:=by
           rw [hqi] at hq;simpa using hq
         simp only [hl];exact ⟨st,fun _ _ h=>h,zeh next h1⟩
     · have hne : (zkG u).isEmpty=false:=by
         cases hk : zkG u with
         | nil=>rw [hk] at hi; cases hi
         | cons a b=>rfl
       rw [hne] at hu;simp only [zxU,zxV] at hu;have hfu:=zxj hu.1;have hf' : zfZ t+1=f+1:=hf;exact (zf1 u).2 L st i f hi (by omega) hu.2 hcl h2⟩
 | .nil=>⟨fun L st h=>(by cases h),fun L st i f hi=>(by cases hi)⟩
theorem WPS.drawT (hT : zaY P T) (hmix : P.follows .mixedOrders=true) {id : Nat} {ops : Array Oper} {st : SS} {K : SS->Prop} {Q : Exit->SS->Prop} (late : Late) (m : Nat) (t : OT)
  (hb : (zsL t&&(chkT ops late m t (Array.replicate ops.size false)&&Nat.beq (zfZ t) ops.size))=true) (hs : runT P T C ops late m K t st) (hQ : ∀ s,K s->Q .normal s) : WPS P C (.region id ops true) st Q:=⟨fun a w h=>by
 refine wpIn_region_any hmix ?_;have h' : SR C st a { w with drawn:=w.drawn+1 }:=by
  obtain ⟨E,hE⟩:=h;exact ⟨E,hE.world ⟨rfl,rfl,rfl,zxr _,fun _ _=>rfl,Nat.le_succ _⟩⟩
 simp only [zxV] at hb;obtain ⟨h1,h2,h3⟩:=hb;have hcl0 : zd5 ops (Array.replicate ops.size false):=fun k ok hk=>by simp [zy3] at hk
 have key:=(zf1 (P:=P) (T:=T) (C:=C) (K:=K) t).1 _ st h1 h2 hcl0 hs;rw [zxj h3] at key;have h4:=key.sound (ro:=none) (n:=0) hT (Q:=lift C Q) (fun st' a' w' hk hr=>⟨st',hr,hQ st' hk⟩) h';simpa using h4⟩
abbrev zB9:=@WPS.drawT
theorem WPS.cond {c : Operand} {x y : Code} {st : SS} {Q : Exit->SS->Prop} {b : Bool} (hb : ev st c=some (.o (.v (.bool b)))) (ht : b=true->WPS P C x st Q) (hf : b=false->WPS P C y st Q) : WPS P C (.cond c x y) st Q:=⟨fun a w h=>by
 obtain ⟨E,hE⟩:=h;have hev : a.eval c=.bool b:=zaN hE hb;exact wpIn_cond_split hev (fun hb=>(ht hb).wp a w ⟨E,hE⟩) (fun hb=>(hf hb).wp a w ⟨E,hE⟩)⟩
end
section
variable {P : Program} {T : TT} {C : Cx} {E : Env} {st : SS}
def zqF (st : SS) (k : Nat) (t : TypeId) (ys : List Value) : Prop:=lk k st.me=some (.sym ys t)\/∃ cs,lk k st.me=some (.box cs t)/\allV cs=some ys
theorem zkX {k t : Nat} {ys : List Value} (h : zqF st k t ys) {w : World} (hm : zaV C E st.me st.re w) : ∃ b mm,lk k st.me=some mm/\E.β k=some b/\w.heap[b]?=some (.cells ys.toArray t (0,0)):=by
 rcases h with h | ⟨cs,h,hx⟩
 ·obtain ⟨b,h1,h2⟩:=hm.ent _ _ h;exact ⟨b,_,h,h1,h2⟩
 ·obtain ⟨b,h1,h2⟩:=hm.ent _ _ h;rw [zbq E hx] at h2;exact ⟨b,_,h,h1,h2⟩
def zxb (t es n : Nat) (xs : List Value) (l : List SV) (st : SS) : Prop:=∃ k c junk,l=[.o (.s k 0 n c)]/\zqF st k t (xs++junk)/\xs.length=n*es/\n<=c/\c<=1000000/\(xs++junk).length=c*es
theorem zkn {k t es n c N : Nat} {xs junk : List Value} {w w' : World} (hm : zaV ⟨w,[],N⟩ E st.me st.re w') (h2 : zqF st k t (xs++junk)) (h3 : xs.length=n*es) (h4 : n<=c) (h5 : c<=1000000) (h6 : (xs++junk).length=c*es) :
  w'.ownsRow w.heap.size t es ((SV.o (.s k 0 n c)).real E) n xs:=by
 obtain ⟨b,mm,hk,hβ,hc⟩:=zkX h2 hm;have hreal : (SV.o (.s k 0 n c)).real E=.slice (some ⟨b,0,none⟩) n c:=by simp [SV.real,AV.real,hβ]
 rw [hreal];refine ⟨h3,.inr ⟨b,c,_,rfl,?_,hc,h4,by unfold maxLen; omega,by rw [zyE,h6],by rw [<-h3]; exact List.take_left⟩⟩;rcases (hm.ge _ _ _ hk hβ).1 with h | h
 ·exact h
 ·cases h
theorem zc0 {t es n : Nat} {xs : List Value} {w : World} {N : Nat} {l : List SV} {w' : World} (h : zxb t es n xs l st) (hm : zaV ⟨w,[],N⟩ E st.me st.re w') : zbD t es n xs w (.returned (retV (l.map (SV.real E)))) w':=by
 obtain ⟨k,c,junk,rfl,h2,h3,h4,h5,h6⟩:=h;exact ⟨_,rfl,zkn hm h2 h3 h4 h5 h6,hm.ext.below⟩
theorem zae.cb {g : FuncId} {vs : List Value} {re : List Res} {t n m c k : Nat} {xs ys : List Value} {K : SV->SS->Prop} (h : FnC P g vs re t n xs m ys) (hk : zqF st k t xs) (hnc : n<=c)
  (hre : ∀ R∈re,R∈st.re) (hK : ∀ jk,(ys++jk).length=xs.length->K (.o (.s k 0 m c)) { st with me:=setL k (.sym (ys++jk) t) st.me }) {args : List SV} (ha : args=.o (.s k 0 n c)::vsv vs) : zae P C g args st K:=by
 subst ha;refine ⟨h.enters,fun E w hm=>?_⟩;obtain ⟨b,mm,hkk,hβ,hheap⟩:=zkX hk hm;have hreal : ∀ n,(SV.o (.s k 0 n c)).real E=.slice (some ⟨b,0,none⟩) n c:=fun n=>by simp [SV.real,AV.real,hβ]
 rw [zxT,zbk,hreal];have hheap' : w.heap[b]?=some (.cells (xs++[]).toArray t (0,0)):=by rw [zyP]; exact hheap
 refine (h.calls w b c [] hheap' hnc (fun R hR=>(hm.res R (hre R hR)).2.1) (fun R hR hb=>((hm.res R (hre R hR)).2.2 b hb).2 k _ hkk hβ)).mono ?_;rintro e w' ⟨rfl,⟨jk,hnew,hl⟩,hg,hdr⟩;exact ⟨E,{ st with me:=setL k (.sym (ys++jk) t) st.me },.o (.s k 0 m c),by rw [hreal],hm.wrote hkk hβ hg hdr ⟨b,hβ,hnew⟩,KD.wrote hg hheap',fun i sv hi=>⟨sv,hi,rfl⟩,hK jk (by rw [hl,zyP])⟩
def zps (p : Nat) (rest : List Nat->List Nat) (sub : List Nat->List (List Nat)->OT) (done : List Nat) : List (List Nat)->List (List Nat)->OT
 | _,[]=>.nil
 | pre,[]::r=>zps p rest sub done (pre++[[]]) r
 | pre,(k::c)::r=>.alt k (sub (k::done) (pre++c::r)) (zps p rest sub done (pre++[k::c]) r)
def zrm (p : Nat) (all : List Nat) : Nat->List Nat->List (List Nat)->OT
 | 0,_,_=>.nil
 | f+1,done,cs=>.fork (.alt p (.walk (all.filter fun i=>!(done.any (Nat.beq i)))) (zps p (fun d=>d) (zrm p all f) done [] cs))
end
section
variable {P : Program} {T : TT} {C : Cx} {E : Env} {st : SS}
theorem SLe.lit0 (i k z t es : Nat) (hi : lk i st.tm=some (.o (.s k 0 0 0))) (hk0 : lk k st.me=some (.box [] t)) (hz : st.has z=false) (hX : C.X=[]:=by rfl) :
  SLe C st ⟨(i,.o (.w z))::st.tm,(z,.own t es 0 [])::rmO (some k) st.me,st.re⟩:=by
 rintro a w ⟨E,h⟩;have hbut:=zyx E z (E.β k) (0,0);obtain ⟨b0,hb0,hc0⟩:=h.mem.ent _ _ hk0;have hkz : k≠z:=(zxE hz hk0).1;have hzβ : (E.setO z (E.β k) (0,0)).β z=E.β k:=by simp [Env.setO]
 refine ⟨E.setO z (E.β k) (0,0),h.size,h.defers,fun j sv hj=>?_,fun j m hj=>?_,fun j m b hj hb=>?_,fun j j' m m' b hj hj' hb hb'=>?_,fun R hR=>?_,h.mem.ext,fun j b m hXj hj=>by rw [hX] at hXj; simp at hXj⟩
 ·simp only [zaB] at hj;split at hj
  ·rename_i e; subst e; cases hj;have:=h.tm _ _ hi;rw [this];simp [SV.real,AV.real,Env.setO]
  ·rw [zxn hbut (zxC hz hj)]; exact h.tm j sv hj
 ·simp only [zaB] at hj;split at hj
  ·rename_i e; subst e; cases hj;show w.ownsRow 0 t es (.slice (((E.setO j (E.β k) (0,0)).β j).map fun b=>⟨b,0,none⟩) ((E.setO j (E.β k) (0,0)).ω j).1 ((E.setO j (E.β k) (0,0)).ω j).2) 0 [];rw [hzβ,show (E.setO j (E.β k) (0,0)).ω j=(0,0) by simp [Env.setO],hb0];exact ⟨by simp,.inr ⟨b0,0,_,rfl,zyD _,hc0,zxr _,by unfold maxLen; omega,by simp,by simp⟩⟩
  ·rename_i e;have hj:=(zcY hj).1;exact (h.mem.ent j m hj).but hbut e (zxE hz hj).2
 ·simp only [zaB] at hj;split at hj
  ·rename_i e; subst e;rw [hzβ] at hb;exact h.mem.ge _ _ _ hk0 hb
  ·rename_i e; rw [(hbut _ e).1] at hb; exact h.mem.ge _ _ _ (zcY hj).1 hb
 ·simp only [zaB] at hj hj';split at hj
  ·rename_i e; subst e;rw [hzβ] at hb;split at hj'
   ·rename_i e'; exact e'.symm
   ·rename_i e';rw [(hbut _ e').1] at hb';exact absurd (zyr some (h.mem.inj _ _ _ _ _ hk0 (zcY hj').1 hb hb')) (zcY hj').2
  ·rename_i e;rw [(hbut _ e).1] at hb;split at hj'
   ·rename_i e'; subst e';rw [hzβ] at hb';exact absurd (zyr some (h.mem.inj _ _ _ _ _ hk0 (zcY hj).1 hb' hb)) (zcY hj).2
   ·rename_i e';rw [(hbut _ e').1] at hb';exact h.mem.inj _ _ _ _ _ (zcY hj).1 (zcY hj').1 hb hb'
 ·obtain ⟨r1,r2,r3⟩:=h.mem.res R hR;refine ⟨r1,r2,fun b hb=>⟨(r3 b hb).1,fun j m hj=>?_⟩⟩;simp only [zaB] at hj;split at hj
  ·rename_i e; subst e; rw [hzβ]; exact (r3 b hb).2 _ _ hk0
  ·rename_i e; rw [(hbut _ e).1]; exact (r3 b hb).2 _ _ (zcY hj).1
abbrev zCa:=@SLe.lit0
end
end Go.Sx
end
section
namespace Go.Sx
open Go Go.Proofs
theorem ze1.sub {α : Type} {st : SS} {A A' : Option Addr} {l : List α} {k m n : Nat} {K : List Value->Prop} (f : α->List Value) (hf : ∀ x,(f x).length=n) (hone : ∀ x,∀ v∈f x,v.oneCell'=true) (hR : zai A (rowV f l)∈st.re)
  (hA : m=0\/A'=A.map (fun a=>a.add (k*n))) (hk : k+m<=l.length) (hn : 0<n) (hK : K (rowV f ((l.drop k).take m))) : ze1 st A' (m*n) K:=by
 by_cases hm : m=0
 ·subst hm;exact ze1.empty (zBu n) (by rw [List.take_zero] at hK; exact hK)
 have hA:=hA.resolve_left hm;refine ⟨rowV f ((l.drop k).take m),by rw [zad hf,zyI,zzw,zAs (by omega)],znP hone _,fun w hw=>?_,hK⟩;have hl : (k+m)*n<=l.length*n:=zyL _ hk;rcases hw _ hR with h | ⟨b,o,e,hc⟩
 ·have h3:=zyr List.length h;rw [zad hf,zAK] at h3;have h2 : 0<m*n:=zyN (by omega) hn;rw [zzP] at hl;omega
 ·refine .inr ⟨⟨b,o+k*n,none⟩,by rw [hA,e,zxp,zxK],fun j v hj=>?_⟩;rw [zxK,zxS];refine hc _ _ ?_;rw [<-zbh hf,<-zdH hf,zx7] at hj;split at hj
  ·rwa [zx8] at hj
  ·cases hj
abbrev zCb:=@ze1.sub
theorem zhn (x : Rat) : ∀ v∈ratQ x,v.oneCell'=true:=fun v hv=>by
 simp only [ratQ,ratC,zy1,zBL,or_false] at hv;rcases hv with rfl | rfl | rfl <;> rfl
abbrev InsI (l : List Rat) (x : Rat):={o : Option {p : Option Addr×Nat // (insU x l).length<=p.2} // o=none->x∈l}
def zmp (A : Option Addr) (c : Nat) (l : List Rat) (x : Rat) : InsI l x->Value
 | ⟨none,_⟩=>.slice A l.length c
 | ⟨some p,_⟩=>.slice p.1.1 (insU x l).length p.1.2
def zru (l : List Rat) (x : Rat) : InsI l x->List Res
 | ⟨none,_⟩=>[]
 | ⟨some p,_⟩=>[zai p.1.1 (rowV ratQ (insU x l))]
theorem zk1 {x : Rat} : ∀ {l : List Rat},Asc l->x∈l->insU x l=l
 | y::l,h,hx=>by
  unfold insU;have hy:=zBG.1 h;rcases zy1.1 hx with rfl | hx
  ·rw [zxI (by grind),zxJ rfl]
  ·have:=hy.1 _ hx;rw [zxI (by grind),zxI (by grind),zk1 hy.2 hx]
theorem zlK {x : Rat} : ∀ {l : List Rat} {i : Nat},(∀ j y,l[j]?=some y->j<i->y<x)->(∀ y,l[i]?=some y->x<y)->i<=l.length->insU x l=l.take i++x::l.drop i
 | [],i,_,_,hi=>by
  obtain rfl : i=0:=by simpa using hi
  rfl
 | y::l,0,_,h,_=>by
  have:=h y rfl;unfold insU;rw [zxJ this]; rfl
 | y::l,i+1,h1,h2,hi=>by
  have:=h1 0 y rfl (by omega);unfold insU;rw [zxI (by grind),zxI (by grind),zlK (i:=i) (fun j z hj hl=>h1 (j+1) z hj (by omega)) (fun z hz=>h2 z hz) (by simpa using hi)];rfl
noncomputable def zpV : Code:=match Tryz.f99.body with
 | some (.seq _ (.seq _ (.seq _ c)))=>c
 | _=>.skip
noncomputable def zr1 : Code:=match zpV with
 | .seq _ c=>c
 | _=>.skip
def zuP : OT:=.q 0 (.q 1 (.q 2 (.fork (.alt 3 (.walk [4,5,6,7,8])
 (.alt 4 (.fork (.alt 3 (.walk [5,6,7,8]) (.alt 5 (.fork (.alt 3 (.walk [6,7,8]) (.alt 6 (.walk [3,7,8]) .nil))) .nil)))
 (.alt 5 (.fork (.alt 3 (.walk [4,6,7,8]) (.alt 4 (.fork (.alt 3 (.walk [6,7,8]) (.alt 6 (.walk [3,7,8]) .nil))) .nil))) .nil))))))
theorem zku (A : Option Addr) (c : Nat) (l : List Rat) (x : Rat) (hl : Asc l) (hx : Sz KV x) (hs : ∀ y∈l,Sz KV y) (n : Nat) (hn' : n=l.length) (hn : n<=1000000) (hc : n<=c) (w : World) (hA : 0<n->A.isSome=true)
   (i : Nat) (hi : i<=n) (hlt : ∀ j y,l[j]?=some y->j<i->y<x) (hge : ∀ z,l[i]?=some z->x<z) :
   WPS PP ⟨w,[],Tryz.f99.ntmps⟩ zr1 ⟨[(0,.o (.v (.slice A n c))),(3,.o (.p 3 0)),(5,.o (.v (.int .i64 i)))],[(3,ratM (Q x))],[zai A (rowV ratQ l)]⟩ (retQ TB Tryz.f99 fun l_1 st=>zsr (zmp A c l x) (zru l x) w l_1 st):=by
 refine zy9 zab mixed ?_;conv=>whnf
 refine ⟨by omega,?_⟩;conv=>whnf
 refine zgI.of (SLX.of (zCa 35 35 36 zat 3 rfl rfl rfl) ?_);conv=>whnf
 refine zCb (A:=A) (l:=l) (k:=0) (m:=i) (n:=3) ratQ zas zhn (zxA ..) ?_ (by omega) (by decide) ?_
 · by_cases hc0 : c=0
   · exact .inl (by omega)
   · exact .inr (zxI hc0)
 rw [zAJ];refine ⟨by show 0+i<=9223372036854775807/\(0+i)*40<=140737488355328; omega,?_⟩;conv=>whnf
 refine zy8 (st':=⟨[(0,.o (.v (.slice A n c))),(3,.o (.p 3 0)),(5,.o (.v (.int .i64 i))),(6,.o (.w 6))],[(3,ratM (Q x)),(6,.own zat 3 i (rowV ratQ (l.take i)))],[zai A (rowV ratQ l)]⟩) ?_ (zzi (fun k=>bif Nat.beq k 6 then 39 else k) ⟨rfl,rfl,rfl,rfl,trivial⟩ ⟨mrf rfl,⟨_,rfl,?_⟩,trivial⟩ rfl (fun R hR=>hR));rotate_left
 · show MEle (ME.own zat 3 (0+i) (app [] (rowV ratQ (l.take i)))) (ME.own zat 3 i (rowV ratQ (l.take i)));rw [zyo]; exact .refl _
 refine zAk ?_;refine zB9 zab mixed [] (9+4294967296*(4+65536*8)) zuP (K:=fun st=>SLe ⟨w,[],Tryz.f99.ntmps⟩ st ⟨[(4,.o (.w 4))],[(4,.own zat 3 (n+1) (rowV ratQ (insU x l)))],[]⟩) (by kernel_rfl) ?_ ?_
 · have hb1 : i+1<=9223372036854775807/\(i+1)*40<=140737488355328:=by omega
   have hb2 : 0<=(i : Int)/\(i : Int)<=(n : Int)/\(n : Int)<=(c : Int):=by omega
   have hb3 : (i+1)+(n-i)<=9223372036854775807/\((i+1)+(n-i))*40<=140737488355328:=by omega
   have hsub : n-i=0\/(if c=i then A else A.map (fun a=>a.add (i*3)))=A.map (fun a=>a.add (i*3)):=by
     by_cases hci : c=i
     · exact .inl (by omega)
     · exact .inr (zxI hci)
   have hfin : app (app (rowV ratQ (l.take i)) (ratC (Q x))) (rowV ratQ ((l.drop i).take (n-i)))=rowV ratQ (insU x l):=by
     have e : (l.drop i).take (n-i)=l.drop i:=zyJ (by rw [zzw]; omega);rw [zlK hlt hge (by omega),za4,za4,e,zaE,zyF];rfl
   have hlen : (i+1)+(n-i)=n+1:=by omega
   conv=>whnf
   repeat' (first
     | exact True.intro
     | (refine And.intro ?_ ?_ <;> (conv=>whnf))
     | (refine zCb (A:=A) (l:=l) (k:=i) (m:=n-i) (n:=3) ratQ zas zhn (zxA ..) hsub (by omega) (by decide) ?_; conv=>whnf)
     | (refine ⟨hb1,?_⟩; conv=>whnf)
     | (refine ⟨hb2,?_⟩; conv=>whnf)
     | (refine ⟨hb3,?_⟩; conv=>whnf)
     | (refine zzi (fun k=>bif Nat.beq k 4 then 47 else k) ⟨rfl,trivial⟩ ⟨⟨_,rfl,?_⟩,trivial⟩ rfl (fun R hR=>by cases hR)
        show MEle (ME.own zat 3 ((i+1)+(n-i)) (app (app (rowV ratQ (l.take i)) (ratC (Q x))) (rowV ratQ ((l.drop i).take (n-i))))) (ME.own zat 3 (n+1) (rowV ratQ (insU x l)))
        rw [hfin,hlen]; exact .refl _))
 intro st hst;refine zy8 ?_ hst;refine zy7 zab mixed ?_;conv=>whnf
 intro N E w' hm;obtain ⟨A2,c2,h1,h2,h3,h4⟩:=hm.frz (k:=4) rfl;have hil : (insU x l).length=n+1:=by
   rw [zlK hlt hge (by omega),zz2,zxR,zyI,zzw]; omega
 refine ⟨⟨some ⟨(A2,c2),by rw [hil]; exact h2⟩,fun h=>(by cases h)⟩,?_,fun R hR=>by rw [zyZ.1 hR]; exact h3,fun R hR=>by rw [zyZ.1 hR]; exact h4.bs⟩;show (AV.w 4).real E=Value.slice A2 (insU x l).length c2;rw [h1,hil]
theorem zk2 (A : Option Addr) (c : Nat) (l : List Rat) (x : Rat) (hl : Asc l) (hx : Sz KV x) (hs : ∀ y∈l,Sz KV y) (n : Nat) (hn' : n=l.length) (hn : n<=1000000) (hc : n<=c) (w : World) (hA : 0<n->A.isSome=true)
  (i : Nat) (hi : i<=n) (hlt : ∀ j y,l[j]?=some y->j<i->y<x) (hge : ∀ z,l[i]?=some z->¬z<x) :
  WPS PP ⟨w,[],Tryz.f99.ntmps⟩ zpV ⟨[(0,.o (.v (.slice A n c))),(3,.o (.p 3 0)),(5,.o (.v (.int .i64 i)))],[(3,ratM (Q x))],[zai A (rowV ratQ l)]⟩ (retQ TB Tryz.f99 fun l_1 st=>zsr (zmp A c l x) (zru l x) w l_1 st):=by
 have hel : ∀ {y},l[i]?=some y->Sz KV y:=fun h=>hs _ (zyq h)
 refine zy9 zab mixed ?_;conv=>whnf
 refine zak.qk ?_;conv=>whnf
 by_cases hin : i<n
 ·refine zag (zz8 (show (i : Int)<(n : Int) by omega)) ?_;obtain ⟨y,hy⟩ : ∃ y,l[i]?=some y:=⟨_,zyy (by omega)⟩;conv=>whnf
  refine ⟨⟨by omega,by omega,hA (by omega)⟩,?_⟩;conv=>whnf
  refine zan.nat (A:=A) ratQ zas (zxA ..) rfl hy ?_;obtain ⟨y',rfl⟩ : ∃ z,z=y:=⟨_,rfl⟩;conv=>whnf
  by_cases hyx : y'=x
  ·refine zag ((eqRV y' x).trans (zz8 hyx)) ?_;conv=>whnf
   intro N E w' hm;exact ⟨⟨none,fun _=>hyx▸zyq hy⟩,by rw [hn']; rfl,fun R hR=>(by cases hR),fun R hR=>(by cases hR)⟩
  ·refine zac ((eqRV y' x).trans (zz9 hyx)) ?_;conv=>whnf
   refine zy8 (st':=⟨[(0,.o (.v (.slice A n c))),(3,.o (.p 3 0)),(5,.o (.v (.int .i64 i)))],[(3,ratM (Q x))],[zai A (rowV ratQ l)]⟩) ?_ (zzj ⟨rfl,rfl,rfl,trivial⟩ ⟨mrf rfl,trivial⟩ (fun R hR=>hR));exact zku A c l x hl hx hs n hn' hn hc w hA i hi hlt (fun z hz=>by rw [hy] at hz; cases hz; have:=hge _ hy; grind)
 ·refine zac (zz9 (show ¬(i : Int)<(n : Int) by omega)) ?_;conv=>whnf
  refine zy8 (st':=⟨[(0,.o (.v (.slice A n c))),(3,.o (.p 3 0)),(5,.o (.v (.int .i64 i)))],[(3,ratM (Q x))],[zai A (rowV ratQ l)]⟩) ?_ (zzj ⟨rfl,rfl,rfl,trivial⟩ ⟨mrf rfl,trivial⟩ (fun R hR=>hR));exact zku A c l x hl hx hs n hn' hn hc w hA i hi hlt (fun z hz=>by have:=(zyz.1 hz).1; omega)
theorem zsi (A : Option Addr) (c : Nat) (l : List Rat) (x : Rat) (hl : Asc l) (hx : Sz KV x) (hs : ∀ y∈l,Sz KV y) (hn : l.length<=1000000) (hc : l.length<=c) :
  FnM PP 99 [.slice A l.length c,qV x] (facts [zai A (rowV ratQ l)]) (zea (zmp A c l x) (zru l x)):=by
 refine FnE.ofS zab mixed Tryz.func99 rfl rfl (zxW rfl) (by simp [zzk]) ?_;intro w hw;obtain ⟨n,hn'⟩ : ∃ n,n=l.length:=⟨_,rfl⟩;have hA : 0<n->A.isSome=true:=fun h=>zam (zaK hw) (by rw [zad zas]; omega)
 rw [<-hn'] at hn hc ⊢;refine zy9 zab mixed ?_;conv=>whnf
 refine zy9 zab mixed ?_;conv=>whnf
 refine zy9 zab mixed ?_;conv=>whnf
 refine zal (ι:=Nat) (fun i=>⟨[(0,.o (.v (.slice A n c))),(3,.o (.p 3 0)),(5,.o (.v (.int .i64 i)))],[(3,ratM (Q x))],[zai A (rowV ratQ l)]⟩)
  (fun i=>i<=n/\∀ j y,l[j]?=some y->j<i->y<x) (fun i=>n-i) 0 ⟨zyD _,fun j y _ h=>by omega⟩
  (zzj ⟨rfl,rfl,rfl,trivial⟩ ⟨mrf rfl,trivial⟩ (fun R hR=>hR)) ?_
 intro i ⟨hi,hlt⟩;have hel : ∀ {y},l[i]?=some y->Sz KV y:=fun h=>hs _ (zyq h)
 conv=>whnf
 refine zak.qk ?_;conv=>whnf
 by_cases hin : i<n
 ·refine zag (zz8 (show (i : Int)<(n : Int) by omega)) ?_;obtain ⟨y,hy⟩ : ∃ y,l[i]?=some y:=⟨_,zyy (by omega)⟩;conv=>whnf
  refine ⟨⟨by omega,by omega,hA (by omega)⟩,?_⟩;conv=>whnf
  refine zan.nat (A:=A) ratQ zas (zxA ..) rfl hy ?_;obtain ⟨y',rfl⟩ : ∃ z,z=y:=⟨_,rfl⟩;conv=>whnf
  refine cd (za2 (Q y') (Q x) ((hel hy).q.le (by decide)) (hx.q.le (by decide))) ?_;rw [Q_v,Q_v];conv=>whnf
  refine zaj ?_ ?_ <;> intro h
  ·have hyx : y' < x:=zbj.1 (zA0 h);conv=>whnf
   refine ⟨i+1,⟨by omega,fun j z hz hj=>?_⟩,by show n-(i+1)<n-i; omega,zzj ⟨rfl,rfl,zaq hin (by omega),trivial⟩ ⟨mrf rfl,trivial⟩ (fun R hR=>hR)⟩;by_cases hji : j=i
   ·subst hji; rw [hy] at hz; cases hz; exact hyx
   ·exact hlt j z hz (by omega)
  ·have hge : ∀ z,l[i]?=some z->¬z<x:=fun z hz hzx=>by
    rw [hy] at hz; cases hz;exact zA1 h (zbj.2 hzx)
   conv=>whnf
   refine zy8 (st':=⟨[(0,.o (.v (.slice A n c))),(3,.o (.p 3 0)),(5,.o (.v (.int .i64 i)))],[(3,ratM (Q x))],[zai A (rowV ratQ l)]⟩) ?_ (zzj ⟨rfl,rfl,rfl,trivial⟩ ⟨mrf rfl,trivial⟩ (fun R hR=>hR));exact zk2 A c l x hl hx hs n hn' hn hc w hA i hi hlt hge
 ·refine zac (zz9 (show ¬(i : Int)<(n : Int) by omega)) ?_;have hge : ∀ z,l[i]?=some z->¬z<x:=fun z hz hzx=>by
   have:=(zyz.1 hz).1;omega
  conv=>whnf
  refine zy8 (st':=⟨[(0,.o (.v (.slice A n c))),(3,.o (.p 3 0)),(5,.o (.v (.int .i64 i)))],[(3,ratM (Q x))],[zai A (rowV ratQ l)]⟩) ?_ (zzj ⟨rfl,rfl,rfl,trivial⟩ ⟨mrf rfl,trivial⟩ (fun R hR=>hR));exact zk2 A c l x hl hx hs n hn' hn hc w hA i hi hlt hge
theorem ztw {a : Addr} {xs : List Value} (h : xs≠[]) : a.block∈SlB (some a) xs:=by
 cases xs with
 | nil=>exact absurd rfl h
 | cons _ _=>exact zyZ.2 rfl
theorem zud (x : Rat) (l : List Rat) : rowV ratQ (insU x l)≠[]:=fun h=>by
 have h1:=zyr List.length h;rw [zad zas,zAK] at h1;have h2:=List.length_pos_of_mem (zct.2 (.inl rfl) : x∈insU x l);omega
theorem zae.ins {C : Cx} {st : SS} {A : Option Addr} {c : Nat} {l : List Rat} {x : Rat} {K : SV->SS->Prop} (hl : Asc l) (hx : Sz KV x) (hs : ∀ y∈l,Sz KV y) (hn : l.length<=1000000) (hc : l.length<=c) (hR : zai A (rowV ratQ l)∈st.re) (hfr : Fr C.W0 A)
  (hk : ∀ A' c',(insU x l).length<=c'->Fr C.W0 A'->K (.o (.v (.slice A' (insU x l).length c'))) { st with re:=zai A' (rowV ratQ (insU x l))::st.re }) {n : Nat} (hn' : n=l.length) {v : Value} (hv : v=qV x) : zae PP C 99 [.o (.v (.slice A n c)),.o (.v v)] st K:=by
 subst hn' hv;have hf:=zsi A c l x hl hx hs hn hc;have h : zaC PP 99 [.o (.v (.slice A l.length c)),.o (.v (qV x))] st (zea (zmp A c l x) (zru l x)):=zzq hf rfl (fun R h=>by rw [zyZ.1 h]; exact hR);refine ⟨hf.enters,fun E w hm=>(h E w (fun k mm _ hk=>hm.ent k mm hk) (fun R hR=>(hm.res R hR).2.1)).mono ?_⟩;rintro e w' ⟨⟨i,hi⟩,rfl,hf',hge,hb⟩;have hm':=hm.world (st:=st) hb
 cases i with
 | none =>
  have hsame:=zk1 hl (hi rfl);obtain ⟨k1,k2,k3⟩:=hm'.res _ hR;refine ⟨E,{ st with re:=zai A (rowV ratQ (insU x l))::st.re },.o (.v (.slice A (insU x l).length c)),?_,?_,zxu hb,fun i sv h=>⟨sv,h,rfl⟩,hk A c (by rw [hsame]; exact hc) hfr⟩
  ·show Ending.returned (Value.slice A l.length c)=Ending.returned (Value.slice A (insU x l).length c);rw [hsame]
  ·rw [hsame];exact hm'.more (zzk _ _) k2 (fun b hb' k m hkk hβ=>(k3 b hb').2 k m hkk hβ)
 | some p =>
  have hR':=zyZ.2 (rfl : zai p.1.1 (rowV ratQ (insU x l))=zai p.1.1 (rowV ratQ (insU x l)));refine ⟨E,{ st with re:=zai p.1.1 (rowV ratQ (insU x l))::st.re },.o (.v (.slice p.1.1 (insU x l).length p.1.2)),rfl,?_,zxu hb,fun i sv h=>⟨sv,h,rfl⟩,hk _ _ p.2 (fun a ha=>zxs hm.ext.size (hge _ hR' a.block (by show a.block∈SlB p.1.1 (rowV ratQ (insU x l)); rw [ha]; exact ztw (zud x l))))⟩;refine hm'.more (zzk _ _) (hf' _ hR') (fun b hb' k m hkk hβ=>?_);have h3:=hge _ hR' b hb';have h4:=(hm.ge k m b hkk hβ).2;omega
abbrev zCc:=@zae.ins
theorem zlA {α : Type} {l m : List α} {i : Nat} {x y : α} (h : l.take i=m.take i) (hx : l[i]?=some x) (hy : m[i]?=some y) (e : x=y) : l.take (i+1)=m.take (i+1):=by
 rw [zaD hx,zaD hy,h,e]
theorem zmC {α : Type} {l m : List α} {i : Nat} {x y : α} (hx : l[i]?=some x) (hy : m[i]?=some y) (e : x≠y) : l≠m:=fun h=>e (by rw [h,hy] at hx; cases hx; rfl)
theorem znf {α : Type} {l m : List α} {i : Nat} (h : l.take i=m.take i) (hl : l.length<=i) (hm : m.length<=i) : l=m:=by
 rwa [zyJ hl,zyJ hm] at h
theorem zu2 (A B : Option Addr) (c d : Nat) (l m : List Rat) (hl : l.length<=100000000) (hm : m.length<=100000000) :
  FnM PP 51 [.slice A l.length c,.slice B m.length d] (facts [zai A (rowV ratQ l),zai B (rowV ratQ m)]) (zaR (.bool (decide (l=m)))):=by
 refine zzo zab mixed Tryz.func51 rfl rfl (zxW rfl) (by simp [zzk]) ?_;intro w hw;obtain ⟨n,hn⟩ : ∃ n,n=l.length:=⟨_,rfl⟩;obtain ⟨k,hk⟩ : ∃ k,k=m.length:=⟨_,rfl⟩;have hA : 0<n->A.isSome=true:=fun h=>zam (hw _ (zxA ..)) (by rw [zad zas]; omega)
 have hB : 0<k->B.isSome=true:=fun h=>zam (hw _ (zxB _ (zxA ..))) (by rw [zad zas]; omega)
 rw [<-hn] at hl ⊢;rw [<-hk] at hm ⊢;conv=>whnf
 by_cases hnk : n=k;rotate_left
 ·refine zag (by show (!((n : Int)==(k : Int)))=true; simp; omega) ?_;conv=>whnf
  refine zaa ?_;rw [zz9 (fun h=>hnk (by rw [hn,hk,h]))]
 refine zac (by show (!((n : Int)==(k : Int)))=false; simp; omega) ?_;conv=>whnf
 refine zal (ι:=Nat) (fun i=>⟨[(0,.o (.v (.slice A n c))),(1,.o (.v (.slice B k d))),(5,.o (.v (.int .i64 i)))],[],[zai A (rowV ratQ l),zai B (rowV ratQ m)]⟩)
  (fun i=>i<=n/\l.take i=m.take i) (fun i=>n-i) 0 ⟨zyD _,rfl⟩ (zzj ⟨rfl,rfl,rfl,trivial⟩ trivial (fun R hR=>hR)) ?_
 intro i ⟨hi,ht⟩;conv=>whnf
 by_cases hin : i<n;rotate_left
 ·refine zac (zz9 (show ¬(i : Int)<(n : Int) by omega)) ?_;conv=>whnf
  refine zaa ?_;rw [zz8 (znf ht (by omega) (by omega))]
 refine zag (zz8 (show (i : Int)<(n : Int) by omega)) ?_;obtain ⟨x,hx⟩ : ∃ x,l[i]?=some x:=⟨_,zyy (by omega)⟩;obtain ⟨y,hy⟩ : ∃ y,m[i]?=some y:=⟨_,zyy (by omega)⟩;conv=>whnf
 refine zak.qk ?_;conv=>whnf
 refine ⟨⟨by omega,by omega,hA (by omega)⟩,?_⟩;conv=>whnf
 refine zzR (A:=A) (xs:=l) (j:=(i : Int)) ratQ zas (zxA ..) rfl (by rw [zzS]; omega) (by decide) (fun h=>by cases h) ?_;intro x' hx';obtain rfl:=zbB hx' hx;conv=>whnf
 refine ⟨⟨by omega,by omega,hB (by omega)⟩,?_⟩;conv=>whnf
 refine zzR (A:=B) (xs:=m) (j:=(i : Int)) ratQ zas (zxB _ (zxA ..)) rfl (by rw [zzS]; omega) (by decide) (fun h=>by cases h) ?_;intro y' hy';obtain rfl:=zbB hy' hy;conv=>whnf
 by_cases hxy : x'=y'
 ·refine zac (zyr (!·) ((eqRV x' y').trans (zz8 hxy))) ?_;conv=>whnf
  exact ⟨i+1,⟨by omega,zlA ht hx hy hxy⟩,by show n-(i+1)<n-i; omega,zzj ⟨rfl,rfl,zaq hin (by omega),trivial⟩ trivial (fun R hR=>hR)⟩
 ·refine zag (zyr (!·) ((eqRV x' y').trans (zz9 hxy))) ?_;conv=>whnf
  refine zaa ?_;rw [zz9 (zmC hx hy hxy)]
theorem zfx (x : Nat) : (intC x).length=1:=rfl
theorem zsd (x y : Cel) : ((x.k : Int)==(y.k : Int)&&((x.c : Int)==(y.c : Int)&&((x.r : Int)==(y.r : Int)&&true)))=decide (x=y):=by
 refine zyV.2 ?_;simp only [zzc,zxV,zyY,zxY];constructor
 ·rintro ⟨h1,h2,h3⟩
  cases x; cases y
  simp only [Cel.mk.injEq]; simp only at h1 h2 h3;omega
 ·rintro rfl; exact ⟨rfl,rfl,rfl⟩
theorem zhN (A B : Option Addr) (c d : Nat) (l m : List Cel) (hl : l.length<=100000000) (hm : m.length<=100000000) :
  FnM PP 11 [.slice A l.length c,.slice B m.length d] (facts [zai A (rowV Cel.C l),zai B (rowV Cel.C m)]) (zaR (.bool (decide (l=m)))):=by
 refine zzo zab mixed Tryz.func11 rfl rfl (zxW rfl) (by simp [zzk]) ?_;intro w hw;obtain ⟨n,hn⟩ : ∃ n,n=l.length:=⟨_,rfl⟩;obtain ⟨k,hk⟩ : ∃ k,k=m.length:=⟨_,rfl⟩;have hA : 0<n->A.isSome=true:=fun h=>zam (hw _ (zxA ..)) (by rw [zad zB0]; omega)
 have hB : 0<k->B.isSome=true:=fun h=>zam (hw _ (zxB _ (zxA ..))) (by rw [zad zB0]; omega)
 rw [<-hn] at hl ⊢;rw [<-hk] at hm ⊢;conv=>whnf
 by_cases hnk : n=k;rotate_left
 ·refine zag (by show (!((n : Int)==(k : Int)))=true; simp; omega) ?_;conv=>whnf
  refine zaa ?_;rw [zz9 (fun h=>hnk (by rw [hn,hk,h]))]
 refine zac (by show (!((n : Int)==(k : Int)))=false; simp; omega) ?_;conv=>whnf
 refine zal (ι:=Nat) (fun i=>⟨[(0,.o (.v (.slice A n c))),(1,.o (.v (.slice B k d))),(5,.o (.v (.int .i64 i)))],[],[zai A (rowV Cel.C l),zai B (rowV Cel.C m)]⟩)
  (fun i=>i<=n/\l.take i=m.take i) (fun i=>n-i) 0 ⟨zyD _,rfl⟩ (zzj ⟨rfl,rfl,rfl,trivial⟩ trivial (fun R hR=>hR)) ?_
 intro i ⟨hi,ht⟩;conv=>whnf
 by_cases hin : i<n;rotate_left
 ·refine zac (zz9 (show ¬(i : Int)<(n : Int) by omega)) ?_;conv=>whnf
  refine zaa ?_;rw [zz8 (znf ht (by omega) (by omega))]
 refine zag (zz8 (show (i : Int)<(n : Int) by omega)) ?_;obtain ⟨x,hx⟩ : ∃ x,l[i]?=some x:=⟨_,zyy (by omega)⟩;obtain ⟨y,hy⟩ : ∃ y,m[i]?=some y:=⟨_,zyy (by omega)⟩;conv=>whnf
 refine zak.qk ?_;conv=>whnf
 refine ⟨⟨by omega,by omega,hA (by omega)⟩,?_⟩;conv=>whnf
 refine zzR (A:=A) (xs:=l) (j:=(i : Int)) Cel.C zB0 (zxA ..) rfl (by rw [zzS]; omega) (by decide) (fun h=>by cases h) ?_;intro x' hx';obtain rfl:=zbB hx' hx;conv=>whnf
 refine ⟨⟨by omega,by omega,hB (by omega)⟩,?_⟩;conv=>whnf
 refine zzR (A:=B) (xs:=m) (j:=(i : Int)) Cel.C zB0 (zxB _ (zxA ..)) rfl (by rw [zzS]; omega) (by decide) (fun h=>by cases h) ?_;intro y' hy';obtain rfl:=zbB hy' hy;conv=>whnf
 by_cases hxy : x'=y'
 ·refine zac (zyr (!·) ((zsd x' y').trans (zz8 hxy))) ?_;conv=>whnf
  exact ⟨i+1,⟨by omega,zlA ht hx hy hxy⟩,by show n-(i+1)<n-i; omega,zzj ⟨rfl,rfl,zaq hin (by omega),trivial⟩ trivial (fun R hR=>hR)⟩
 ·refine zag (zyr (!·) ((zsd x' y').trans (zz9 hxy))) ?_;conv=>whnf
  refine zaa ?_;rw [zz9 (zmC hx hy hxy)]
theorem zwi (s : Sl) (k col : Nat) (hk : k<4) (hc : col<s.X.xs.length) (hL : s.L.xs.length=s.X.xs.length) (hS : s.S.xs.length+1=s.X.xs.length) (hn : s.X.xs.length<=1000000) (hl1 : ∀ l∈s.L.xs,l.xs.length<=1000000) (hs1 : ∀ l∈s.S.xs,l.xs.length<=1000000) :
  FnM PP 55 [s.V,.int .i64 k,.int .i64 col] (facts s.F) (zaR (.int .i64 (cntK s k col))):=by
 refine zzo zab mixed Tryz.func55 rfl rfl (zxW rfl) s.F_ok ?_;intro w hw;have hAL : s.L.A.isSome=true:=zam (hw _ zBW) (by rw [zad zBT]; omega);obtain ⟨l,hl⟩ : ∃ l,s.L.xs[col]?=some l:=⟨_,zyy (by omega)⟩;have hll:=hl1 l (zyq hl);have hw1 : IntKind.i64.wrap ((col : Int)+1)=((col+1 : Nat) : Int):=zfz hc (by omega);conv=>whnf
 refine zak.qk ?_;conv=>whnf
 refine zag (zz8 (by omega)) ?_;conv=>whnf
 have hk' : k=0\/k=1\/k=2\/k=3:=by omega
 have hdL : decide ((col : Int)<(s.L.xs.length : Int))=true:=zz8 (by omega);have vL : ∀ d : Nat,zb2 s d col=(l.xs.length : Int)-d:=fun d=>by
  rw [zb2,zxJ ⟨by omega,hc⟩,zzO,zx4,hl]; rfl
 by_cases hla : col+1<s.X.xs.length
 ·refine zag (zz8 (by rw [hw1]; omega)) ?_;conv=>whnf
  refine zag (zz8 (by omega)) ?_;have hAS : s.S.A.isSome=true:=zam (hw _ zBX) (by rw [zad zBT]; omega);obtain ⟨t,ht⟩ : ∃ t,s.S.xs[col]?=some t:=⟨_,zyy (by omega)⟩;have htl:=hs1 t (zyq ht);have hdS : decide (IntKind.i64.wrap ((col : Int)+1)<(s.L.xs.length : Int))=true:=zz8 (by rw [hw1]; omega);have vS : ∀ d : Nat,za6 s d col=(t.xs.length : Int)+d:=fun d=>by
   rw [za6,zxJ ⟨by omega,hla,by omega⟩,zzO,zx4,ht]; rfl
  rcases hk' with rfl | rfl | rfl | rfl
  ·conv=>whnf
   refine zag hdL ?_;conv=>whnf
   refine ⟨⟨by omega,by omega,hAL⟩,?_⟩;conv=>whnf
   refine zzR (A:=s.L.A) (xs:=s.L.xs) (j:=(col : Int)) Ln.C zBT zBW rfl (by rw [zzS]; omega) (by decide) (fun _=>rfl) ?_;intro l' hl';obtain rfl:=zbB hl' hl;conv=>whnf
   refine zaa (zyr (Value.int .i64) ?_);show (l'.xs.length : Int)=zb2 s 0 col;rw [vL]; omega
  ·conv=>whnf
   refine zag hdL ?_;conv=>whnf
   refine ⟨⟨by omega,by omega,hAL⟩,?_⟩;conv=>whnf
   refine zzR (A:=s.L.A) (xs:=s.L.xs) (j:=(col : Int)) Ln.C zBT zBW rfl (by rw [zzS]; omega) (by decide) (fun _=>rfl) ?_;intro l' hl';obtain rfl:=zbB hl' hl;conv=>whnf
   refine zaa (zyr (Value.int .i64) ?_);show IntKind.i64.wrap ((l'.xs.length : Int)-1)=zb2 s 1 col;rw [vL,wrap_i64 (by omega) (by omega)]; omega
  ·conv=>whnf
   refine zag hdS ?_;conv=>whnf
   refine ⟨⟨by omega,by omega,hAS⟩,?_⟩;conv=>whnf
   refine zzR (A:=s.S.A) (xs:=s.S.xs) (j:=(col : Int)) Ln.C zBT zBX rfl (by rw [zzS]; omega) (by decide) (fun _=>rfl) ?_;intro l' hl';obtain rfl:=zbB hl' ht;conv=>whnf
   refine zaa (zyr (Value.int .i64) ?_);show IntKind.i64.wrap ((l'.xs.length : Int)+2)=za6 s 2 col;rw [vS,wrap_i64 (by omega) (by omega)]; omega
  ·conv=>whnf
   refine zag hdS ?_;conv=>whnf
   refine ⟨⟨by omega,by omega,hAS⟩,?_⟩;conv=>whnf
   refine zzR (A:=s.S.A) (xs:=s.S.xs) (j:=(col : Int)) Ln.C zBT zBX rfl (by rw [zzS]; omega) (by decide) (fun _=>rfl) ?_;intro l' hl';obtain rfl:=zbB hl' ht;conv=>whnf
   refine zaa (zyr (Value.int .i64) ?_);show IntKind.i64.wrap ((l'.xs.length : Int)+1)=za6 s 1 col;rw [vS,wrap_i64 (by omega) (by omega)]; omega
 ·refine zac (zz9 (by rw [hw1]; omega)) ?_;have vS : ∀ d : Nat,za6 s d col=0:=fun d=>by rw [za6,zxI (fun h=>hla h.2.1)]
  rcases hk' with rfl | rfl | rfl | rfl
  ·conv=>whnf
   refine zag hdL ?_;conv=>whnf
   refine ⟨⟨by omega,by omega,hAL⟩,?_⟩;conv=>whnf
   refine zzR (A:=s.L.A) (xs:=s.L.xs) (j:=(col : Int)) Ln.C zBT zBW rfl (by rw [zzS]; omega) (by decide) (fun _=>rfl) ?_;intro l' hl';obtain rfl:=zbB hl' hl;conv=>whnf
   refine zaa (zyr (Value.int .i64) ?_);show (l'.xs.length : Int)=zb2 s 0 col;rw [vL]; omega
  ·conv=>whnf
   refine zag hdL ?_;conv=>whnf
   refine ⟨⟨by omega,by omega,hAL⟩,?_⟩;conv=>whnf
   refine zzR (A:=s.L.A) (xs:=s.L.xs) (j:=(col : Int)) Ln.C zBT zBW rfl (by rw [zzS]; omega) (by decide) (fun _=>rfl) ?_;intro l' hl';obtain rfl:=zbB hl' hl;conv=>whnf
   refine zaa (zyr (Value.int .i64) ?_);show IntKind.i64.wrap ((l'.xs.length : Int)-1)=zb2 s 1 col;rw [vL,wrap_i64 (by omega) (by omega)]; omega
  ·conv=>whnf
   refine zaa (zyr (Value.int .i64) ?_);show (0 : Int)=za6 s 2 col;rw [vS]
  ·conv=>whnf
   refine zaa (zyr (Value.int .i64) ?_);show (0 : Int)=za6 s 1 col;rw [vS]

end Go.Sx
end
section
namespace Go.Sx
def zmq : OT:=.q 0 (.q 1 (.q 2 (.q 3 (.q 4 (.q 5 (.q 6 (.fork (.alt 7 (.walk [8,9,10,11,12,13,14,15]) (.alt 8 (.fork (.alt 7 (.walk [9,10,11,12,13,14,15]) (.alt 9 (.fork (.alt 7 (.walk [10,11,12,13,14,15]) (.alt 10 (.fork (.alt 7 (.walk [11,12,13,14,15]) (.alt 11 (.fork (.alt 7 (.walk [12,13,14,15]) (.alt 12 (.fork (.alt 7 (.walk [13,14,15]) (.alt 13 (.walk [7,14,15]) .nil))) .nil))) .nil))) .nil))) .nil))) (.alt 9 (.fork (.alt 7 (.walk [8,10,11,12,13,14,15]) (.alt 8 (.fork (.alt 7 (.walk [10,11,12,13,14,15]) (.alt 10 (.fork (.alt 7 (.walk [11,12,13,14,15]) (.alt 11 (.fork (.alt 7 (.walk [12,13,14,15]) (.alt 12 (.fork (.alt 7 (.walk [13,14,15]) (.alt 13 (.walk [7,14,15]) .nil))) .nil))) .nil))) .nil))) .nil))) .nil))))))))))
def zrM : OT:=.q 0 (.q 1 (.q 2 (.q 3 (.fork (.alt 4 (.walk [5,6,7,8,9]) (.alt 5 (.fork (.alt 4 (.walk [6,7,8,9]) (.alt 6 (.fork (.alt 4 (.walk [7,8,9]) (.alt 7 (.walk [4,8,9]) .nil))) .nil))) .nil))))))
def zuJ : OT:=zmq
def ziY : OT:=.q 0 (.q 1 (.q 2 (.q 3 (.fork (.alt 4 (.q 5 (.q 6 (.fork (.alt 7 (.walk [8,9,10,11,12]) (.alt 8 (.fork (.alt 7 (.walk [9,10,11,12]) (.alt 9 (.fork (.alt 7 (.walk [10,11,12]) (.alt 10 (.walk [7,11,12]) .nil))) .nil))) (.alt 9 (.fork (.alt 7 (.walk [8,10,11,12]) (.alt 8 (.fork (.alt 7 (.walk [10,11,12]) (.alt 10 (.walk [7,11,12]) .nil))) .nil))) .nil)))))) (.alt 5 (.fork (.alt 4 (.q 6 (.fork (.alt 7 (.walk [8,9,10,11,12]) (.alt 8 (.fork (.alt 7 (.walk [9,10,11,12]) (.alt 9 (.fork (.alt 7 (.walk [10,11,12]) (.alt 10 (.walk [7,11,12]) .nil))) .nil))) (.alt 9 (.fork (.alt 7 (.walk [8,10,11,12]) (.alt 8 (.fork (.alt 7 (.walk [10,11,12]) (.alt 10 (.walk [7,11,12]) .nil))) .nil))) .nil))))) (.alt 6 (.fork (.alt 4 (.fork (.alt 7 (.walk [8,9,10,11,12]) (.alt 8 (.fork (.alt 7 (.walk [9,10,11,12]) (.alt 9 (.fork (.alt 7 (.walk [10,11,12]) (.alt 10 (.walk [7,11,12]) .nil))) .nil))) (.alt 9 (.fork (.alt 7 (.walk [8,10,11,12]) (.alt 8 (.fork (.alt 7 (.walk [10,11,12]) (.alt 10 (.walk [7,11,12]) .nil))) .nil))) .nil)))) (.alt 8 (.fork (.alt 4 (.fork (.alt 7 (.walk [9,10,11,12]) (.alt 9 (.fork (.alt 7 (.walk [10,11,12]) (.alt 10 (.walk [7,11,12]) .nil))) .nil))) (.alt 9 (.fork (.alt 4 (.fork (.alt 7 (.walk [10,11,12]) (.alt 10 (.walk [7,11,12]) .nil))) (.alt 10 (.walk [4,7,11,12]) .nil))) .nil))) (.alt 9 (.fork (.alt 4 (.fork (.alt 7 (.walk [8,10,11,12]) (.alt 8 (.fork (.alt 7 (.walk [10,11,12]) (.alt 10 (.walk [7,11,12]) .nil))) .nil))) (.alt 8 (.fork (.alt 4 (.fork (.alt 7 (.walk [10,11,12]) (.alt 10 (.walk [7,11,12]) .nil))) (.alt 10 (.walk [4,7,11,12]) .nil))) .nil))) .nil)))) (.alt 8 (.fork (.alt 4 (.q 6 (.fork (.alt 7 (.walk [9,10,11,12]) (.alt 9 (.fork (.alt 7 (.walk [10,11,12]) (.alt 10 (.walk [7,11,12]) .nil))) .nil)))) (.alt 6 (.fork (.alt 4 (.fork (.alt 7 (.walk [9,10,11,12]) (.alt 9 (.fork (.alt 7 (.walk [10,11,12]) (.alt 10 (.walk [7,11,12]) .nil))) .nil))) (.alt 9 (.fork (.alt 4 (.fork (.alt 7 (.walk [10,11,12]) (.alt 10 (.walk [7,11,12]) .nil))) (.alt 10 (.walk [4,7,11,12]) .nil))) .nil))) (.alt 9 (.fork (.alt 4 (.q 6 (.fork (.alt 7 (.walk [10,11,12]) (.alt 10 (.walk [7,11,12]) .nil)))) (.alt 6 (.fork (.alt 4 (.fork (.alt 7 (.walk [10,11,12]) (.alt 10 (.walk [7,11,12]) .nil))) (.alt 10 (.walk [4,7,11,12]) .nil))) (.alt 10 (.fork (.alt 4 (.walk [6,7,11,12]) (.alt 6 (.walk [4,7,11,12]) .nil))) .nil)))) .nil)))) (.alt 9 (.fork (.alt 4 (.q 6 (.fork (.alt 7 (.walk [8,10,11,12]) (.alt 8 (.fork (.alt 7 (.walk [10,11,12]) (.alt 10 (.walk [7,11,12]) .nil))) .nil)))) (.alt 6 (.fork (.alt 4 (.fork (.alt 7 (.walk [8,10,11,12]) (.alt 8 (.fork (.alt 7 (.walk [10,11,12]) (.alt 10 (.walk [7,11,12]) .nil))) .nil))) (.alt 8 (.fork (.alt 4 (.fork (.alt 7 (.walk [10,11,12]) (.alt 10 (.walk [7,11,12]) .nil))) (.alt 10 (.walk [4,7,11,12]) .nil))) .nil))) (.alt 8 (.fork (.alt 4 (.q 6 (.fork (.alt 7 (.walk [10,11,12]) (.alt 10 (.walk [7,11,12]) .nil)))) (.alt 6 (.fork (.alt 4 (.fork (.alt 7 (.walk [10,11,12]) (.alt 10 (.walk [7,11,12]) .nil))) (.alt 10 (.walk [4,7,11,12]) .nil))) (.alt 10 (.fork (.alt 4 (.walk [6,7,11,12]) (.alt 6 (.walk [4,7,11,12]) .nil))) .nil)))) .nil)))) .nil))))) (.alt 8 (.fork (.alt 4 (.q 5 (.q 6 (.fork (.alt 7 (.walk [9,10,11,12]) (.alt 9 (.fork (.alt 7 (.walk [10,11,12]) (.alt 10 (.walk [7,11,12]) .nil))) .nil))))) (.alt 5 (.fork (.alt 4 (.q 6 (.fork (.alt 7 (.walk [9,10,11,12]) (.alt 9 (.fork (.alt 7 (.walk [10,11,12]) (.alt 10 (.walk [7,11,12]) .nil))) .nil)))) (.alt 6 (.fork (.alt 4 (.fork (.alt 7 (.walk [9,10,11,12]) (.alt 9 (.fork (.alt 7 (.walk [10,11,12]) (.alt 10 (.walk [7,11,12]) .nil))) .nil))) (.alt 9 (.fork (.alt 4 (.fork (.alt 7 (.walk [10,11,12]) (.alt 10 (.walk [7,11,12]) .nil))) (.alt 10 (.walk [4,7,11,12]) .nil))) .nil))) (.alt 9 (.fork (.alt 4 (.q 6 (.fork (.alt 7 (.walk [10,11,12]) (.alt 10 (.walk [7,11,12]) .nil)))) (.alt 6 (.fork (.alt 4 (.fork (.alt 7 (.walk [10,11,12]) (.alt 10 (.walk [7,11,12]) .nil))) (.alt 10 (.walk [4,7,11,12]) .nil))) (.alt 10 (.fork (.alt 4 (.walk [6,7,11,12]) (.alt 6 (.walk [4,7,11,12]) .nil))) .nil)))) .nil)))) (.alt 9 (.fork (.alt 4 (.q 5 (.q 6 (.fork (.alt 7 (.walk [10,11,12]) (.alt 10 (.walk [7,11,12]) .nil))))) (.alt 5 (.fork (.alt 4 (.q 6 (.fork (.alt 7 (.walk [10,11,12]) (.alt 10 (.walk [7,11,12]) .nil)))) (.alt 6 (.fork (.alt 4 (.fork (.alt 7 (.walk [10,11,12]) (.alt 10 (.walk [7,11,12]) .nil))) (.alt 10 (.walk [4,7,11,12]) .nil))) (.alt 10 (.fork (.alt 4 (.walk [6,7,11,12]) (.alt 6 (.walk [4,7,11,12]) .nil))) .nil)))) (.alt 10 (.fork (.alt 4 (.walk [5,6,7,11,12]) (.alt 5 (.fork (.alt 4 (.walk [6,7,11,12]) (.alt 6 (.walk [4,7,11,12]) .nil))) .nil))) .nil)))) .nil)))) (.alt 9 (.fork (.alt 4 (.q 5 (.q 6 (.fork (.alt 7 (.walk [8,10,11,12]) (.alt 8 (.fork (.alt 7 (.walk [10,11,12]) (.alt 10 (.walk [7,11,12]) .nil))) .nil))))) (.alt 5 (.fork (.alt 4 (.q 6 (.fork (.alt 7 (.walk [8,10,11,12]) (.alt 8 (.fork (.alt 7 (.walk [10,11,12]) (.alt 10 (.walk [7,11,12]) .nil))) .nil)))) (.alt 6 (.fork (.alt 4 (.fork (.alt 7 (.walk [8,10,11,12]) (.alt 8 (.fork (.alt 7 (.walk [10,11,12]) (.alt 10 (.walk [7,11,12]) .nil))) .nil))) (.alt 8 (.fork (.alt 4 (.fork (.alt 7 (.walk [10,11,12]) (.alt 10 (.walk [7,11,12]) .nil))) (.alt 10 (.walk [4,7,11,12]) .nil))) .nil))) (.alt 8 (.fork (.alt 4 (.q 6 (.fork (.alt 7 (.walk [10,11,12]) (.alt 10 (.walk [7,11,12]) .nil)))) (.alt 6 (.fork (.alt 4 (.fork (.alt 7 (.walk [10,11,12]) (.alt 10 (.walk [7,11,12]) .nil))) (.alt 10 (.walk [4,7,11,12]) .nil))) (.alt 10 (.fork (.alt 4 (.walk [6,7,11,12]) (.alt 6 (.walk [4,7,11,12]) .nil))) .nil)))) .nil)))) (.alt 8 (.fork (.alt 4 (.q 5 (.q 6 (.fork (.alt 7 (.walk [10,11,12]) (.alt 10 (.walk [7,11,12]) .nil))))) (.alt 5 (.fork (.alt 4 (.q 6 (.fork (.alt 7 (.walk [10,11,12]) (.alt 10 (.walk [7,11,12]) .nil)))) (.alt 6 (.fork (.alt 4 (.fork (.alt 7 (.walk [10,11,12]) (.alt 10 (.walk [7,11,12]) .nil))) (.alt 10 (.walk [4,7,11,12]) .nil))) (.alt 10 (.fork (.alt 4 (.walk [6,7,11,12]) (.alt 6 (.walk [4,7,11,12]) .nil))) .nil)))) (.alt 10 (.fork (.alt 4 (.walk [5,6,7,11,12]) (.alt 5 (.fork (.alt 4 (.walk [6,7,11,12]) (.alt 6 (.walk [4,7,11,12]) .nil))) .nil))) .nil)))) .nil)))) .nil))))))))
def zoy : OT:=ziY
end Go.Sx
end
section
namespace Go.Sx
open Go Go.Proofs
theorem zpX (A B : Option Addr) (c d : Nat) (xs ys : List Nat) (hx : xs.length<=1000000) :
  FnM PP 35 [.slice A xs.length c,.slice B ys.length d] (facts [zai A (rowV intC xs),zai B (rowV intC ys)]) (zaR (.bool (decide (xs=ys)))):=by
 refine zzo zab mixed Tryz.func35 rfl rfl (zxW rfl) (fun R hR=>by simp only [zy1,zBL,or_false] at hR; rcases hR with rfl | rfl <;> exact zzk _ _) ?_;intro w hw;have hA : 0<xs.length->A.isSome=true:=fun h=>zam (zbz hw).1 (by rw [zad zdo]; omega)
 have hB : 0<ys.length->B.isSome=true:=fun h=>zam (zbz hw).2 (by rw [zad zdo]; omega)
 conv=>whnf
 by_cases hl : xs.length=ys.length;rotate_left
 ·refine zag (show (!((xs.length : Int)==(ys.length : Int)))=true by rw [zzh,zBO]; omega) ?_;conv=>whnf
  refine zaa (zyr Value.bool ?_);rw [zz9 (fun h=>hl (by rw [h]))]
 refine zac (show (!((xs.length : Int)==(ys.length : Int)))=false by rw [zyM,zyY]; omega) ?_;conv=>whnf
 refine zal (ι:=Nat) (fun i=>⟨[(0,.o (.v (.slice A xs.length c))),(1,.o (.v (.slice B ys.length d))),(12,.o (.v (.int .i64 xs.length))),(13,.o (.v (.int .i64 i)))],[],[zai A (rowV intC xs),zai B (rowV intC ys)]⟩)
  (fun i=>i<=xs.length/\xs.take i=ys.take i) (fun i=>xs.length-i) 0 ⟨zyD _,rfl⟩
  (zzj ⟨rfl,rfl,rfl,rfl,trivial⟩ trivial (fun R hR=>hR)) ?_
 rintro i ⟨hi0,hi1⟩;conv=>whnf
 by_cases hi : i<xs.length;rotate_left
 ·refine zac (zz9 (show ¬(i : Int)<(xs.length : Int) by omega)) ?_;rw [zyJ (by omega),zyJ (by omega)] at hi1;conv=>whnf
  exact zaa (zyr Value.bool (zz8 hi1).symm)
 refine zag (zz8 (show (i : Int)<(xs.length : Int) by omega)) ?_;obtain ⟨x,hx1⟩ : ∃ x,xs[i]?=some x:=⟨_,zyy hi⟩;obtain ⟨y,hy1⟩ : ∃ y,ys[i]?=some y:=⟨_,zyy (by omega)⟩;conv=>whnf
 refine zak.qk ?_;conv=>whnf
 refine ⟨⟨by omega,by omega,hA (by omega)⟩,?_⟩;conv=>whnf
 refine zan.nat (A:=A) intC zdo (zxA ..) rfl hx1 ?_;obtain ⟨x',rfl⟩ : ∃ z,z=x:=⟨_,rfl⟩;conv=>whnf
 refine ⟨⟨by omega,by omega,hB (by omega)⟩,?_⟩;conv=>whnf
 refine zan.nat (A:=B) intC zdo (zxB _ (zxA ..)) rfl hy1 ?_;obtain ⟨y',rfl⟩ : ∃ z,z=y:=⟨_,rfl⟩;conv=>whnf
 by_cases hxy : x'=y';rotate_left
 ·refine zag (show (!((x' : Int)==(y' : Int)))=true by rw [zzh,zBO]; omega) ?_;conv=>whnf
  refine zaa (zyr Value.bool (zz9 (fun h=>hxy ?_)).symm);rw [h] at hx1; rw [hx1] at hy1; exact zz1 hy1
 refine zac (show (!((x' : Int)==(y' : Int)))=false by rw [zyM,zyY]; omega) ?_;conv=>whnf
 exact ⟨i+1,⟨by omega,by rw [zaD hx1,zaD hy1,hi1,hxy]⟩,by show xs.length-(i+1)<xs.length-i; omega,zzj ⟨rfl,rfl,rfl,zaq hi (by omega),trivial⟩ trivial (fun S hS=>hS)⟩
deriving instance DecidableEq for Pc
abbrev awE : List (V×V):=[(⟨1,1⟩,⟨3,3⟩)]
abbrev awP : List Pc:=[⟨⟨1,1⟩,⟨3,3⟩,0⟩]
theorem zuM : pcsL ⟨0,0⟩ ⟨4,4⟩ awE=awP:=by decide +kernel
theorem awX : xsL ⟨0,0⟩ ⟨4,4⟩ awP=[0,1,3,4]:=by decide +kernel
theorem awL : ([0,1,3,4] : List Rat).map (ysL ⟨0,0⟩ ⟨4,4⟩ awP)=[[0,4],[0,1,4],[0,3,4],[0,4]]:=by decide +kernel
theorem awS : zbC (zdN ⟨0,0⟩ ⟨4,4⟩ awP) [0,1,3,4]=[[],[0],[]]:=by decide +kernel
structure AwS (s : Sl) : Prop where
 lo : s.lo=⟨0,0⟩
 hi : s.hi=⟨4,4⟩
 sg : s.sg.xs=awE
 is : s.is
theorem AwS.xs {s : Sl} (h : AwS s) : s.X.xs=[0,1,3,4]/\s.L.xs.map (·.xs)=[[0,4],[0,1,4],[0,3,4],[0,4]]/\s.S.xs.map (·.xs)=[[],[0],[]]:=by
 obtain ⟨h1,h2,h3,h4,h5,h6⟩:=h;rw [h1,h2,h3,zuM,awX] at h4;rw [h1,h2,h3,zuM,h4,awL] at h5;rw [h1,h2,h3,zuM,h4,awS] at h6;exact ⟨h4,h5,h6⟩
theorem AwS.cnt {s : Sl} (h : AwS s) (k c : Nat) : cntK s k c=(match k with | 0=>[2,3,3,2].getD c 0 | 1=>[1,2,2,1].getD c 0 | 2=>[2,3,2].getD c 0 | _=>[1,2,1].getD c 0):=by
 obtain ⟨hX,hL,hS⟩:=h.xs;have lX : s.X.xs.length=4:=by rw [hX]; rfl
 have lL : s.L.xs.length=4:=by have:=zyr List.length hL; simpa using this
 have lS : s.S.xs.length=3:=by have:=zyr List.length hS; simpa using this
 have mL : s.L.xs.map (fun x=>(x.xs.length : Int))=[2,3,3,2]:=by rw [show s.L.xs.map (fun x=>(x.xs.length : Int))=(s.L.xs.map (·.xs)).map (fun l=>(l.length : Int)) by rw [zx0]; rfl,hL]; rfl
 have mS : s.S.xs.map (fun x=>(x.xs.length : Int))=[0,1,0]:=by rw [show s.S.xs.map (fun x=>(x.xs.length : Int))=(s.S.xs.map (·.xs)).map (fun l=>(l.length : Int)) by rw [zx0]; rfl,hS]; rfl
 have line : ∀ d,zb2 s d c=if c<4 then ([2,3,3,2] : List Int).getD c 0-d else 0:=fun d=>by
  unfold zb2; rw [lX,lL,mL];by_cases hc : c<4
  ·rw [zxJ ⟨hc,hc⟩,zxJ hc]
  ·rw [zxI (fun h=>hc h.1),zxI hc]
 have strip : ∀ d,za6 s d c=if c<3 then ([0,1,0] : List Int).getD c 0+d else 0:=fun d=>by
  unfold za6; rw [lX,lL,lS,mS];by_cases hc : c<3
  ·rw [zxJ ⟨hc,by omega,by omega⟩,zxJ hc]
  ·rw [zxI (fun h=>hc h.1),zxI hc]
 have big : ∀ {l : List Int},l.length<=c->l.getD c 0=0:=fun h=>by rw [zzO,zym h]; rfl
 match k with
 | 0=>show zb2 s 0 c=_; rw [line]; match c with | 0=>rfl | 1=>rfl | 2=>rfl | 3=>rfl | c+4=>rw [zxI (by omega)]; rfl
 | 1=>show zb2 s 1 c=_; rw [line]; match c with | 0=>rfl | 1=>rfl | 2=>rfl | 3=>rfl | c+4=>rw [zxI (by omega)]; rfl
 | 2=>show za6 s 2 c=_; rw [strip]; match c with | 0=>rfl | 1=>rfl | 2=>rfl | c+3=>rw [zxI (by omega)]; rfl
 | k+3=>show za6 s 1 c=_; rw [strip]; match c with | 0=>rfl | 1=>rfl | 2=>rfl | c+3=>rw [zxI (by omega)]; rfl
theorem AwS.small {s : Sl} (h : AwS s) : s.small:=by
 obtain ⟨hX,hL,hS⟩:=h.xs;have lX : s.X.xs.length=4:=by rw [hX]; rfl
 have lL : s.L.xs.length=4:=by have:=zyr List.length hL; simpa using this
 have lS : s.S.xs.length=3:=by have:=zyr List.length hS; simpa using this
 refine ⟨by omega,by omega,by omega,fun l hl=>?_,fun l hl=>?_,by rw [h.sg]; decide⟩
 ·have : l.xs∈s.L.xs.map (·.xs):=zx1.2 ⟨l,hl,rfl⟩;rw [hL] at this
  revert this; generalize l.xs=t; intro this
  simp only [zy1,zBL,or_false] at this;rcases this with rfl | rfl | rfl | rfl <;> decide
 ·have : l.xs∈s.S.xs.map (·.xs):=zx1.2 ⟨l,hl,rfl⟩;rw [hS] at this
  revert this; generalize l.xs=t; intro this
  simp only [zy1,zBL,or_false] at this;rcases this with rfl | rfl | rfl <;> decide
theorem AwS.sz {s : Sl} (h : AwS s) : s.sz:=by
 refine ⟨fun e he=>?_,?_,?_⟩
 ·rw [h.sg,zyZ] at he;subst he;exact ⟨⟨⟨⟨by decide,by decide⟩,⟨by decide,by decide⟩⟩,⟨⟨by decide,by decide⟩,⟨by decide,by decide⟩⟩⟩,by decide⟩
 ·rw [h.lo]; exact ⟨⟨by decide,by decide⟩,⟨by decide,by decide⟩⟩
 ·rw [h.hi]; exact ⟨⟨by decide,by decide⟩,⟨by decide,by decide⟩⟩
def zfl : List Cel:=[⟨0,0,0⟩,⟨0,0,1⟩,⟨1,0,0⟩,⟨2,0,0⟩,⟨2,0,1⟩,⟨3,0,0⟩,⟨0,1,0⟩,⟨0,1,1⟩,⟨0,1,2⟩,⟨1,1,0⟩,⟨1,1,1⟩,⟨2,1,0⟩,⟨2,1,1⟩,⟨2,1,2⟩,⟨3,1,0⟩,⟨3,1,1⟩,
 ⟨0,2,0⟩,⟨0,2,1⟩,⟨0,2,2⟩,⟨1,2,0⟩,⟨1,2,1⟩,⟨2,2,0⟩,⟨2,2,1⟩,⟨3,2,0⟩,⟨0,3,0⟩,⟨0,3,1⟩,⟨1,3,0⟩]
theorem AwS.cells {s : Sl} (h : AwS s) : zdC s=zfl:=by
 have hk : ∀ k c,zcN s k c=(List.range (match k with | 0=>[2,3,3,2].getD c 0 | 1=>[1,2,2,1].getD c 0 | 2=>[2,3,2].getD c 0 | _=>([1,2,1].getD c 0 : Int)).toNat).map fun r=>⟨k,c,r⟩:=fun k c=>by rw [zcN,h.cnt]
 have hX : s.X.xs.length=4:=by rw [h.xs.1]; rfl
 rw [zdC,hX];simp only [zcW,colF,hk]
 decide +kernel
theorem AwS.cen {s : Sl} (h : AwS s) : cenP s ⟨3,1,1⟩=⟨2,3⟩:=by
 obtain ⟨hX,hL,hS⟩:=h.xs;have lS : s.S.xs.length=3:=by have:=zyr List.length hS; simpa using this
 obtain ⟨t,ht⟩ : ∃ t,s.S.xs[1]?=some t:=⟨_,zyy (by omega)⟩;have htx : t.xs=[0]:=by
  have:=zyr (fun l : List (List Nat)=>l[1]?) hS;simp only [zx4,ht,zxp] at this;exact zz1 this
 have hon : ∀ r x,onP s t r x=⟨x,([0,(hgtE ⟨1,1⟩ ⟨3,3⟩ x).1,4] : List Rat).getD r 0⟩:=fun r x=>by
  rw [onP,zaJ,htx,h.lo,h.hi];show (⟨x,([0,hgtS s x 0,4] : List Rat).getD r 0⟩ : V)=_;rw [hgtS,h.sg]; rfl
 simp only [cenP];rw [hX,zah ht,hon,hon]
 decide +kernel

theorem Sl.F_of {s : Sl} {w : World} (h : facts s.F' w) (hs : (s.sg.R sgq).φ w) : facts s.F w:=fun R hR=>by
 rcases zyK.1 hR with hR | hR
 ·exact h R (zyT _ hR)
 ·simp only [zy1,zBL,or_false] at hR;rcases hR with rfl | rfl | rfl | rfl
  ·exact h _ (zBV _ (by simp))
  ·exact h _ (zBV _ (by simp))
  ·exact h _ (zBV _ (by simp))
  ·exact hs
theorem Sl.F_F' {s : Sl} {R : Res} (h : R∈s.F) : R∈s.F'\/R=s.sg.R sgq:=by
 rcases zyK.1 h with h | h
 ·exact .inl (zyT _ h)
 ·simp only [zy1,zBL,or_false] at h;rcases h with rfl | rfl | rfl | rfl
  ·exact .inl (zBV _ (by simp))
  ·exact .inl (zBV _ (by simp))
  ·exact .inl (zBV _ (by simp))
  ·exact .inr rfl
theorem zuz {lo hi : V} {E : List (V×V)} {A : Option Addr} {c : Nat} (s : zjE lo hi E A c) : ∀ R∈s.1.F',R.ok:=fun R hR=>by
 rcases zyK.1 hR with hR | hR
 ·rcases zyK.1 hR with hR | hR
  ·obtain ⟨l,_,rfl⟩:=zx1.1 hR; exact zzk _ _
  ·obtain ⟨l,_,rfl⟩:=zx1.1 hR; exact zzk _ _
 ·simp only [zy1,zBL,or_false] at hR;rcases hR with rfl | rfl | rfl <;> exact zzk _ _
theorem pt_V {a b : Int} {x y : Rat} (hx : (a : Rat)=x) (hy : (b : Rat)=y) : pV (pt a b)=pV (PQ ⟨x,y⟩):=by rw [<-hx,<-hy]
abbrev zP : List Value:=[.bool false,.string ⟨#[]⟩,.string ⟨#[]⟩,.bool false,.string ⟨#[]⟩,.string ⟨#[]⟩]
theorem zuy : bxV ⟨PQ ⟨0,0⟩,PQ ⟨4,4⟩⟩=.agg ⟨zP++ptC (PQ ⟨4,4⟩)⟩:=by
 rw [show PQ (⟨0,0⟩ : V)=⟨Q 0,Q 0⟩ from rfl,zd8]; rfl
def cn (i k : Nat) : Nat:=(zfl.take i).countP (fun x=>x.k==k)
theorem zci {i : Nat} {x : Cel} (h : zfl[i]?=some x) (k : Nat) : cn (i+1) k=cn i k+(if x.k=k then 1 else 0):=by
 rw [cn,zaD h,List.countP_append,cn]
 congr 1
 by_cases hk : x.k=k <;> simp [hk]
theorem zrA (i k : Nat) : cn i k<=27:=by
 refine zxs (List.countP_le_length) ?_;rw [zyI]; exact Nat.min_le_right _ _
theorem awK : ∀ x∈zfl,x.k<4:=by decide
theorem zhx : Fn PP 7 [] (.bool true):=by
 have h44:=c_pt 4 4 (by decide) (by decide);have h11:=c_pt 1 1 (by decide) (by decide);have h33:=c_pt 3 3 (by decide) (by decide);have h23:=c_pt 2 3 (by decide) (by decide);rw [pt_V (x:=4) (y:=4) (by decide) (by decide)] at h44;rw [pt_V (x:=1) (y:=1) (by decide) (by decide)] at h11;rw [pt_V (x:=3) (y:=3) (by decide) (by decide)] at h33;rw [pt_V (x:=2) (y:=3) (by decide) (by decide)] at h23;have h:=zzl (re:=[]) (R:=zaR (.bool true)) (post:=zql (.bool true)) zab mixed Tryz.func7 rfl rfl (zxW rfl) (by simp) (fun w l st E w' hp hm=>zeS hp hm) (vs:=[]) ?_
 · exact ⟨h.enters,fun w _=>h.calls w (by simp [facts])⟩
 intro w _;refine zy9 zab mixed ?_;conv=>whnf
 refine zy9 zab mixed ?_;conv=>whnf
 refine cf h44 ?_;conv=>whnf
 refine zAk ?_;have hbuild : ∀ b : Nat,FnM PP 8 [.agg ⟨zP++ptC (PQ ⟨4,4⟩)⟩,.slice (some ⟨b,0,none⟩) 1 1] (facts [zai (some ⟨b,0,none⟩) (rowV sgq awE)]) (zea (ι:=zjE ⟨0,0⟩ ⟨4,4⟩ awE (some ⟨b,0,none⟩) 1) (fun s=>.tuple #[s.1.V,.int .i64 0]) (fun s=>s.1.F')):=fun b=>by
   rw [<-zuy];exact zpA ⟨0,0⟩ ⟨4,4⟩ (some ⟨b,0,none⟩) 1 awE ⟨⟨by decide,by decide⟩,⟨by decide,by decide⟩⟩ ⟨⟨by decide,by decide⟩,⟨by decide,by decide⟩⟩ (by decide) (by decide) (fun e he=>by
     rw [zyZ] at he;subst he;exact ⟨⟨⟨⟨by decide,by decide⟩,⟨by decide,by decide⟩⟩,⟨⟨by decide,by decide⟩,⟨by decide,by decide⟩⟩⟩,by decide⟩) (by decide)
 refine WPS.drawS zab mixed [(10,2,[8])] (10+4294967296*6) [0,1,2,3,4] 5 9 [6,7,8,9,10,11] [6,7,8,10,11] (K:=fun s=>∃ d : Sl,AwS d/\SLe ⟨w,[],Tryz.f7.ntmps⟩ s ⟨[(0,.o (.v (.bool false))),(2,.o (.p 2 0)),(3,.o (.v (.int .i64 0)))],[(2,slM d)],d.F⟩) (by kernel_rfl) ?_ ?_
 · conv=>whnf
   refine cd h11 ?_;conv=>whnf
   refine cd h33 ?_;conv=>whnf
   constructor
   · conv=>whnf
     refine zae.fzB 16 rfl (fun b=>?_);have hb:=hbuild b;refine zBI hb.enters (zzq hb rfl (fun R hR=>by rw [zyZ.1 hR]; exact zxA ..)) (fun i=>zuz i) (fun d _=>?_);obtain ⟨d,e1,e2,e3,e4,e5⟩:=d;have e6 : Ln.R sgq d.sg=zai (some ⟨b,0,none⟩) (rowV sgq awE):=by rw [e3]; rfl
     conv=>whnf
     refine ⟨d,⟨e1,e2,by rw [e3],e4⟩,zzj ⟨rfl,rfl,rfl,trivial⟩ ⟨mrf rfl,trivial⟩ (fun R hR=>?_)⟩;rcases Sl.F_F' hR with h | h
     · exact zyT _ h
     · rw [h,e6]; exact zBV _ (zxA ..)
   · conv=>whnf
     refine zae.fzB 16 rfl (fun b=>?_);have hb:=hbuild b;refine zBI hb.enters (zzq hb rfl (fun R hR=>by rw [zyZ.1 hR]; exact zxA ..)) (fun i=>zuz i) (fun d _=>?_);obtain ⟨d,e1,e2,e3,e4,e5⟩:=d;have e6 : Ln.R sgq d.sg=zai (some ⟨b,0,none⟩) (rowV sgq awE):=by rw [e3]; rfl
     conv=>whnf
     refine ⟨d,⟨e1,e2,by rw [e3],e4⟩,zzj ⟨rfl,rfl,rfl,trivial⟩ ⟨mrf rfl,trivial⟩ (fun R hR=>?_)⟩;rcases Sl.F_F' hR with h | h
     · exact zyT _ h
     · rw [h,e6]; exact zBV _ (zxA ..)
 rintro s1 ⟨d,hd,hle⟩;refine zy8 ?_ hle;obtain ⟨hX,hL,hS⟩:=hd.xs;have lX : d.X.xs.length=4:=by rw [hX]; rfl
 have lL : d.L.xs.length=4:=by have:=zyr List.length hL; simpa using this
 have lS : d.S.xs.length=3:=by have:=zyr List.length hS; simpa using this
 obtain ⟨t,ht⟩ : ∃ t,d.S.xs[1]?=some t:=⟨_,zyy (by omega)⟩;have htx : t.xs=[0]:=by
   have:=zyr (fun l : List (List Nat)=>l[1]?) hS;simp only [zx4,ht,zxp] at this;exact zz1 this
 refine WPS.pure (p:=d.S.A.isSome=true) (fun w' hR=>zam (hR _ zBX) (by rw [zad zBT]; omega)) (fun hAS=>?_);refine zy9 zab mixed ?_;conv=>whnf
 refine zac (show ((d.X.xs.length : Int) != 4)=false by rw [lX]; rfl) ?_;conv=>whnf
 refine zac (show ((d.L.xs.length : Int) != 4)=false by rw [lL]; rfl) ?_;conv=>whnf
 refine zac (show ((d.S.xs.length : Int) != 3)=false by rw [lS]; rfl) ?_;conv=>whnf
 refine ⟨⟨by omega,by rw [lS]; decide,hAS⟩,?_⟩;conv=>whnf
 refine zzR (A:=d.S.A) (xs:=d.S.xs) (j:=1) Ln.C zBT zBX rfl (by rw [lS]; decide) (by decide) (fun _=>rfl) ?_;intro t' ht';obtain rfl : t'=t:=by rw [show (1 : Int).toNat=1 from rfl,ht] at ht'; exact (zz1 ht').symm
 conv=>whnf
 refine zae.fzB 45 rfl (fun b=>?_);have he:=zpX t'.A (some ⟨b,0,none⟩) t'.c 1 t'.xs [0] (by rw [htx]; decide);rw [zz8 htx] at he;refine cfs he ?_ rfl (fun R hR=>?_);rotate_left
 · simp only [zy1,zBL,or_false] at hR;rcases hR with rfl | rfl
   · exact zxB _ (Sl.F_s (zyq ht))
   · exact zxA ..
 conv=>whnf
 refine zy9 zab mixed ?_;conv=>whnf
 have hc:=zqk d hd.small (by rw [hd.cells]; decide);rw [hd.cells] at hc;refine zy7 zab mixed ?_;conv=>whnf
 refine zzs 51 hc.enters (zzq hc rfl (fun R hR=>zxB _ hR)) rfl rfl ?_;conv=>whnf
 refine zal (ι:=Nat) (fun i=>⟨[(2,.o (.p 2 0)),(4,.o (.p 4 0)),(51,.o (.w 51)),(52,.o (.v (.int .i64 27))),(53,.o (.v (.int .i64 i)))],
     [(2,slM d),(4,.box [.v (.int .i64 (cn i 0)),.v (.int .i64 (cn i 1)),.v (.int .i64 (cn i 2)),.v (.int .i64 (cn i 3))] zpg),(51,.own zao 3 27 (rowV Cel.C zfl))],d.F⟩)
   (fun i=>i<=27) (fun i=>27-i) 0 (zyD _) (zzj ⟨rfl,rfl,rfl,rfl,rfl,trivial⟩ ⟨mrf rfl,mrf rfl,mrf rfl,trivial⟩ (fun R hR=>zxB _ hR)) ?_
 intro i hi0;conv=>whnf
 by_cases hi : i<27
 · refine zag (zz8 (show (i : Int)<27 by omega)) ?_;obtain ⟨x,hx⟩ : ∃ x,zfl[i]?=some x:=⟨_,zyy (show i<zfl.length from hi)⟩;conv=>whnf
   refine ⟨by show (0 : Int)<=(i : Int)/\(i : Int)<27; omega,?_⟩;conv=>whnf
   refine zzT Cel.C zB0 (k:=i) (by show (i : Int).toNat*3=i*3; rw [zzS]) hi (by decide) (fun h=>by cases h) ?_;intro x' hx';obtain rfl : x'=x:=by rw [hx] at hx'; exact (zz1 hx').symm
   have hk:=awK x' (zyq hx);obtain ⟨k,c,r⟩:=x';have l0:=zrA i 0;have l1:=zrA i 1;have l2:=zrA i 2;have l3:=zrA i 3;have hk' : k=0\/k=1\/k=2\/k=3:=by simp only at hk; omega
   rcases hk' with rfl | rfl | rfl | rfl
   · have hwk : IntKind.i64.wrap ((cn i 0 : Int)+1)=((cn i 0+1 : Nat) : Int):=by rw [wrap_i64 (by omega) (by omega)]; rfl
     have c0 : cn (i+1) 0=cn i 0+1:=zci hx 0;have c1 : cn (i+1) 1=cn i 1:=zci hx 1;have c2 : cn (i+1) 2=cn i 2:=zci hx 2;have c3 : cn (i+1) 3=cn i 3:=zci hx 3;conv=>whnf
     refine ⟨⟨show (0 : Int)<=(0 : Int) by decide,show (0 : Int)<4 by decide⟩,?_⟩;conv=>whnf
     refine ⟨⟨show (0 : Int)<=(0 : Int) by decide,show (0 : Int)<4 by decide⟩,?_⟩;conv=>whnf
     refine ⟨i+1,by show i+1<=27; omega,by show 27-(i+1)<27-i; omega,zzj ⟨rfl,rfl,rfl,rfl,zaq hi (by omega),trivial⟩ ⟨mrf rfl,⟨_,rfl,?_⟩,mrf rfl,trivial⟩ (fun R hR=>hR)⟩;rw [c0,c1,c2,c3,<-hwk]; exact .refl _
   · have hwk : IntKind.i64.wrap ((cn i 1 : Int)+1)=((cn i 1+1 : Nat) : Int):=by rw [wrap_i64 (by omega) (by omega)]; rfl
     have c0 : cn (i+1) 0=cn i 0:=zci hx 0;have c1 : cn (i+1) 1=cn i 1+1:=zci hx 1;have c2 : cn (i+1) 2=cn i 2:=zci hx 2;have c3 : cn (i+1) 3=cn i 3:=zci hx 3;conv=>whnf
     refine ⟨⟨show (0 : Int)<=(1 : Int) by decide,show (1 : Int)<4 by decide⟩,?_⟩;conv=>whnf
     refine ⟨⟨show (0 : Int)<=(1 : Int) by decide,show (1 : Int)<4 by decide⟩,?_⟩;conv=>whnf
     refine ⟨i+1,by show i+1<=27; omega,by show 27-(i+1)<27-i; omega,zzj ⟨rfl,rfl,rfl,rfl,zaq hi (by omega),trivial⟩ ⟨mrf rfl,⟨_,rfl,?_⟩,mrf rfl,trivial⟩ (fun R hR=>hR)⟩;rw [c0,c1,c2,c3,<-hwk]; exact .refl _
   · have hwk : IntKind.i64.wrap ((cn i 2 : Int)+1)=((cn i 2+1 : Nat) : Int):=by rw [wrap_i64 (by omega) (by omega)]; rfl
     have c0 : cn (i+1) 0=cn i 0:=zci hx 0;have c1 : cn (i+1) 1=cn i 1:=zci hx 1;have c2 : cn (i+1) 2=cn i 2+1:=zci hx 2;have c3 : cn (i+1) 3=cn i 3:=zci hx 3;conv=>whnf
     refine ⟨⟨show (0 : Int)<=(2 : Int) by decide,show (2 : Int)<4 by decide⟩,?_⟩;conv=>whnf
     refine ⟨⟨show (0 : Int)<=(2 : Int) by decide,show (2 : Int)<4 by decide⟩,?_⟩;conv=>whnf
     refine ⟨i+1,by show i+1<=27; omega,by show 27-(i+1)<27-i; omega,zzj ⟨rfl,rfl,rfl,rfl,zaq hi (by omega),trivial⟩ ⟨mrf rfl,⟨_,rfl,?_⟩,mrf rfl,trivial⟩ (fun R hR=>hR)⟩;rw [c0,c1,c2,c3,<-hwk]; exact .refl _
   · have hwk : IntKind.i64.wrap ((cn i 3 : Int)+1)=((cn i 3+1 : Nat) : Int):=by rw [wrap_i64 (by omega) (by omega)]; rfl
     have c0 : cn (i+1) 0=cn i 0:=zci hx 0;have c1 : cn (i+1) 1=cn i 1:=zci hx 1;have c2 : cn (i+1) 2=cn i 2:=zci hx 2;have c3 : cn (i+1) 3=cn i 3+1:=zci hx 3;conv=>whnf
     refine ⟨⟨show (0 : Int)<=(3 : Int) by decide,show (3 : Int)<4 by decide⟩,?_⟩;conv=>whnf
     refine ⟨⟨show (0 : Int)<=(3 : Int) by decide,show (3 : Int)<4 by decide⟩,?_⟩;conv=>whnf
     refine ⟨i+1,by show i+1<=27; omega,by show 27-(i+1)<27-i; omega,zzj ⟨rfl,rfl,rfl,rfl,zaq hi (by omega),trivial⟩ ⟨mrf rfl,⟨_,rfl,?_⟩,mrf rfl,trivial⟩ (fun R hR=>hR)⟩;rw [c0,c1,c2,c3,<-hwk]; exact .refl _
 refine zac (zz9 (show ¬(i : Int)<27 by omega)) ?_;obtain rfl : i=27:=by have : i<=27:=hi0; omega
 have hcen:=ziC d ⟨3,1,1⟩ hd.small hd.sz (Sl.is_szX hd.is hd.sz) (by decide) (by rw [hd.cnt]; decide);rw [hd.cen] at hcen;conv=>whnf
 refine cfs hcen ?_;conv=>whnf
 have v0 : cn 27 0=10:=by decide
 have v1 : cn 27 1=6:=by decide
 have v2 : cn 27 2=7:=by decide
 have v3 : cn 27 3=4:=by decide
 refine zak.qk ?_;conv=>whnf
 refine cd h23 ?_;conv=>whnf
 exact zaa (zyr Value.bool ((eqPV ⟨2,3⟩ ⟨2,3⟩).trans (zz8 rfl)))
theorem zjn (p : Pt) : Fn PP 36 [pV p] (.bool (bigP 10 p)):=by
 refine zzn zab mixed Tryz.func36 rfl rfl (zxW rfl) ?_;intro w;unfold bigP;conv=>whnf
 by_cases h1 : 10<p.x.num.length
 ·refine zag (zz8 (show ((p.x.num.length : Nat) : Int)>10 by omega)) ?_;rw [zz8 h1];conv=>whnf
  exact zaa rfl
 refine zac (zz9 (show ¬((p.x.num.length : Nat) : Int)>10 by omega)) ?_;rw [zz9 h1];conv=>whnf
 by_cases h2 : 10<p.x.den.length
 ·refine zag (zz8 (show ((p.x.den.length : Nat) : Int)>10 by omega)) ?_;rw [zz8 h2];conv=>whnf
  exact zaa rfl
 refine zac (zz9 (show ¬((p.x.den.length : Nat) : Int)>10 by omega)) ?_;rw [zz9 h2];conv=>whnf
 by_cases h3 : 10<p.y.num.length
 ·refine zag (zz8 (show ((p.y.num.length : Nat) : Int)>10 by omega)) ?_;rw [zz8 h3];conv=>whnf
  exact zaa rfl
 refine zac (zz9 (show ¬((p.y.num.length : Nat) : Int)>10 by omega)) ?_;rw [zz9 h3];conv=>whnf
 refine zaa (zyr Value.bool ?_);show decide (((p.y.den.length : Nat) : Int)>10)=(false||(false||(false||decide (10<p.y.den.length))));rw [zxU,zxU,zxU];exact decide_eq_decide.2 (by omega)
def bigE (e : Pt×Pt) : Bool:=bigP 10 e.1||bigP 10 e.2
def zer (b : Bx) (l : List (Pt×Pt)) : Bool:=(decide (8<l.length)&&decide (l.length<=400))||(decide (405<l.length)||(bigP 10 b.lo||(bigP 10 b.hi||l.any bigE)))
theorem zqx {b o X j z : Nat} (h : X=j*12) : (some ⟨b,o+X+z,none⟩ : Option Addr)=(some (⟨b,o,none⟩ : Addr)).map (fun a=>a.add (j*12+z)):=by
 subst h; rw [zxp,zxK,zxS]
theorem zqr {b o X j : Nat} (h : X=j*12) : (some ⟨b,o+X,none⟩ : Option Addr)=(some (⟨b,o,none⟩ : Addr)).map (fun a=>a.add (j*12+0)):=zqx (z:=0) h
theorem zqK (b : Bx) (A : Option Addr) (c : Nat) (l : List (Pt×Pt)) : FnM PP 6 [bxV b,.slice A l.length c] (facts [zai A (rowV sgC l)]) (zaR (.bool (zer b l))):=by
 refine zzl zab mixed Tryz.func6 rfl rfl (zxW rfl) (by simp [zzk]) (fun w l st E w' hp hm=>zeS hp hm) ?_;intro w hw;have hA : 0<l.length->∃ b o,A=some ⟨b,o,none⟩:=fun h=>by
  have h1:=zam (zaK hw) (by rw [zad zdu]; omega);obtain ⟨a,rfl⟩:=zx5.1 h1;obtain ⟨b,o,rfl⟩:=zbT (zaK hw) (by intro h2; have:=zyr List.length h2; rw [zad zdu] at this; simp at this; omega);exact ⟨b,o,rfl⟩
 obtain ⟨n,hn⟩ : ∃ n,n=l.length:=⟨_,rfl⟩;have hg : zer b l=((decide (8<n)&&decide (n<=400))||(decide (405<n)||(bigP 10 b.lo||(bigP 10 b.hi||l.any bigE)))):=by rw [hn]; rfl
 rw [<-hn] at hA ⊢;have lo:=zjn b.lo;have hi:=zjn b.hi;obtain ⟨x,hx⟩ : ∃ x,x=bigP 10 b.lo:=⟨_,rfl⟩;obtain ⟨y,hy⟩ : ∃ y,y=bigP 10 b.hi:=⟨_,rfl⟩;rw [<-hx] at lo hg;rw [<-hy] at hi hg;refine zy9 zab mixed ?_;conv=>whnf
 refine WPS.cut zab mixed (ι:=Unit) (fun _=>⟨[(1,.o (.v (.slice A n c)))],[],[zai A (rowV sgC l)]⟩) (fun _=>n<=405/\zer b l=l.any bigE) ?_ ?_
 ·have two : ∀ n8 : Prop,(n8->True)->True:=fun _ _=>trivial
  conv=>whnf
  by_cases h8 : 8<n
  ·refine zag (zz8 (show (n : Int)>8 by omega)) ?_;conv=>whnf
   by_cases h400 : n<=400
   ·refine zag (zz8 (show (n : Int)<=400 by omega)) ?_;have hgt : zer b l=true:=by rw [hg,zz8 h8,zz8 h400]; rfl
    conv=>whnf
    rw [hgt];exact zaa rfl
   refine zac (zz9 (show ¬(n : Int)<=400 by omega)) ?_;conv=>whnf
   by_cases h405 : 405<n
   ·refine zag (zz8 (show (n : Int)>405 by omega)) ?_;have hgt : zer b l=true:=by rw [hg,zz8 h405]; simp
    conv=>whnf
    rw [hgt];exact zaa rfl
   refine zac (zz9 (show ¬(n : Int)>405 by omega)) ?_;conv=>whnf
   refine cf lo ?_
   cases x with
   | true =>
    have hgt : zer b l=true:=by rw [hg]; simp
    conv=>whnf
    rw [hgt];exact zaa rfl
   | false =>
    conv=>whnf
    refine cf hi ?_
    cases y with
    | true =>
     have hgt : zer b l=true:=by rw [hg]; simp
     conv=>whnf
     rw [hgt];exact zaa rfl
    | false =>
     conv=>whnf
     refine ⟨(),⟨by omega,?_⟩,zzj ⟨rfl,trivial⟩ trivial (fun R hR=>hR)⟩;rw [hg,zz9 h405,<-Bool.decide_and,zz9 (show ¬(8<n/\n<=400) by omega)]; simp
  refine zac (zz9 (show ¬(n : Int)>8 by omega)) ?_;conv=>whnf
  by_cases h405 : 405<n
  ·refine zag (zz8 (show (n : Int)>405 by omega)) ?_;have hgt : zer b l=true:=by rw [hg,zz8 h405]; simp
   conv=>whnf
   rw [hgt];exact zaa rfl
  refine zac (zz9 (show ¬(n : Int)>405 by omega)) ?_;conv=>whnf
  refine cf lo ?_
  cases x with
  | true =>
   have hgt : zer b l=true:=by rw [hg]; simp
   conv=>whnf
   rw [hgt];exact zaa rfl
  | false =>
   conv=>whnf
   refine cf hi ?_
   cases y with
   | true =>
    have hgt : zer b l=true:=by rw [hg]; simp
    conv=>whnf
    rw [hgt];exact zaa rfl
   | false =>
    conv=>whnf
    refine ⟨(),⟨by omega,?_⟩,zzj ⟨rfl,trivial⟩ trivial (fun R hR=>hR)⟩;rw [hg,zz9 h405,<-Bool.decide_and,zz9 (show ¬(8<n/\n<=400) by omega)]; simp
 rintro _ ⟨h405,hgl⟩;rw [hgl];refine zy7 zab mixed ?_;conv=>whnf
 refine zal (ι:=Nat) (fun i=>⟨[(1,.o (.v (.slice A n c))),(5,.o (.v (.int .i64 i)))],[],[zai A (rowV sgC l)]⟩)
  (fun i=>i<=n/\(l.take i).any bigE=false) (fun i=>n-i) 0 ⟨zyD _,rfl⟩ (zzj ⟨rfl,rfl,trivial⟩ trivial (fun R hR=>hR)) ?_
 rintro i ⟨hi0,hi1⟩;conv=>whnf
 by_cases hin : i<n;rotate_left
 ·refine zac (zz9 (show ¬(i : Int)<(n : Int) by omega)) ?_;rw [zyJ (by omega)] at hi1;conv=>whnf
  exact zaa (zyr Value.bool hi1.symm)
 refine zag (zz8 (show (i : Int)<(n : Int) by omega)) ?_;obtain ⟨e,he⟩ : ∃ e,l[i]?=some e:=⟨_,zyy (by omega)⟩;obtain ⟨ba,oa,rfl⟩:=hA (by omega);have hT : ∀ t,bigE e=t->(l.take (i+1)).any bigE=t:=fun t ht=>by rw [zaD he,zya,hi1]; simpa using ht
 have hany : bigE e=true->l.any bigE=true:=fun h=>zzV.2 ⟨e,zyq he,h⟩
 have h1:=zjn e.1;have h2:=zjn e.2;conv=>whnf
 refine ⟨⟨by omega,by omega,rfl⟩,?_⟩;rw [zxp,zxK];conv=>whnf
 refine zBM (o:=0) sgC zdu (zyZ.2 rfl) he (by first | exact zqx rfl | exact zqr rfl) (by decide) (by decide) (fun h=>by cases h) ?_;conv=>whnf
 refine cf h1 ?_
 cases hb1 : bigP 10 e.1 with
 | true =>
  have:=hany (by rw [bigE,hb1]; rfl);conv=>whnf
  exact zaa (zyr Value.bool this.symm)
 | false =>
  conv=>whnf
  refine ⟨⟨by omega,by omega,rfl⟩,?_⟩;rw [zxp,zxK];conv=>whnf
  refine zBM (o:=6) sgC zdu (zyZ.2 rfl) he (by first | exact zqx rfl | exact zqr rfl) (by decide) (by decide) (fun h=>by cases h) ?_;conv=>whnf
  refine cf h2 ?_
  cases hb2 : bigP 10 e.2 with
  | true =>
   have:=hany (by rw [bigE,hb1,hb2]; rfl);conv=>whnf
   exact zaa (zyr Value.bool this.symm)
  | false =>
   conv=>whnf
   exact ⟨i+1,⟨by omega,hT false (by rw [bigE,hb1,hb2]; rfl)⟩,by show n-(i+1)<n-i; omega,zzj ⟨rfl,zaq hin (by omega),trivial⟩ trivial (fun R hR=>hR)⟩
theorem zs2 {b : Bx} {l : List (Pt×Pt)} (h : zer b l=false) : b.sm K0/\(∀ e∈l,e.1.sm K0/\e.2.sm K0)/\(l.length<=8\/400<l.length)/\l.length<=405:=by
 unfold zer at h;simp only [zxD,Bool.and_eq_false_iff,zBN] at h;obtain ⟨h1,h2,h3,h4,h5⟩:=h;refine ⟨⟨(zjl h3).le (by decide),(zjl h4).le (by decide)⟩,fun e he=>?_,by omega,by omega⟩;have:=(zxk.1 h5) e he;have h6 : bigE e=false:=by simpa using this
 unfold bigE at h6;rw [zxD] at h6;exact ⟨(zjl h6.1).le (by decide),(zjl h6.2).le (by decide)⟩
end Go.Sx
end
