/- A part of the proof of a law. No conditions. -/
import Derived.Test.YtcmekchbdbakgaaGreatM9
import Derived.Test.YtcmekchbdbakgaaGreatM7
import Derived.Test.YtcmekchbdbakgaaGreatM8
import Derived.KernelRfl
set_option linter.unusedVariables false
set_option linter.unusedSimpArgs false
set_option linter.unusedSectionVars false
set_option maxRecDepth 10000
set_option maxHeartbeats 8000000
section
namespace Go.Sx
open Go Go.Proofs
structure Bld (b : Bx) (l : List (Pt×Pt)) (lo hi : V) (E : List (V×V)) : Prop where
 hb : b=⟨PQ lo,PQ hi⟩
 hl : l=E.map fun e=>(PQ e.1,PQ e.2)
 grt : zer b l=false
 len : E.length<=8
 x : lo.x<hi.x
 y : lo.y<hi.y
 zlo : SzV K0 lo
 zhi : SzV K0 hi
 E : ∀ e∈E,(SzV K0 e.1/\SzV K0 e.2)/\e.1≠e.2
theorem zrI {a : V} (h : (PQ a).sm K0) : SzV K0 a:=by
 have:=h.sz (k:=K0) (by decide);rwa [PQ_v] at this
theorem Bld.of {b : Bx} {l : List (Pt×Pt)} (h : ¬(zer b l=true\/8<l.length\/bldE b l≠0)) : ∃ lo hi E,Bld b l lo hi E:=by
 have h1 : zer b l=false:=by
  cases hg : zer b l with
  | true=>exact absurd (.inl hg) h
  | false=>rfl
 have h2 : ¬8<l.length:=fun k=>h (.inr (.inl k))
 have h3 : bldE b l=0:=zB1 fun k=>h (.inr (.inr k))
 obtain ⟨lo,hi,E,rfl,hx,hy,rfl,hE,hl⟩:=zla h3;obtain ⟨hb,hs,_,_⟩:=zs2 h1;refine ⟨lo,hi,E,rfl,rfl,h1,by rw [zyA] at h2; omega,hx,hy,zrI hb.1,zrI hb.2,fun e he=>?_⟩;have:=hs (PQ e.1,PQ e.2) (zx1.2 ⟨e,he,rfl⟩);exact ⟨⟨zrI this.1,zrI this.2⟩,hE e he⟩
def s0 : Sl:=⟨⟨0,0⟩,⟨0,0⟩,⟨none,0,[]⟩,⟨none,0,[]⟩,⟨none,0,[]⟩,⟨none,0,[]⟩⟩
theorem znD {s : Sl} {x : Cel} : (crnL s x).length<=4:=by
 obtain ⟨k,c,r⟩:=x
 match k with
 | 0=>exact zxW rfl
 | 1=>exact zxW rfl
 | 2=>exact zxW rfl
 | k+3=>exact zxs (zua _) (zhJ _)
theorem zsz {A B : V} {x : Rat} {k : Nat} (hA : SzV K0 A) (hB : SzV K0 B) (hx : Sz k x) : Sz (k+1000) (hgtE A B x).1:=by
 have z0 : Sz (k+1000) (0 : Rat):=(show Sz 1 (0 : Rat) from ⟨by decide,by decide⟩).le (by omega);unfold hgtE;split
 ·exact z0
 ·split
  ·exact (hA.2.add (((hx.sub hA.1).div (hB.sub hA).1).mul (hB.sub hA).2)).le (by simp only [K0]; omega)
  ·exact z0
theorem zja {s : Sl} (hz : s.sz) {l : Ln Nat} {row : Nat} {x : Rat} {k : Nat} (hx : Sz k x) : SzV (k+1000) (onP s l row x):=by
 refine ⟨hx.le (by omega),?_⟩;have z0 : Sz (k+1000) (0 : Rat):=(show Sz 1 (0 : Rat) from ⟨by decide,by decide⟩).le (by omega);have hall : ∀ y∈zaJ s l x,Sz (k+1000) y:=fun y hy=>by
  rcases zy1.1 hy with rfl | hy
  ·exact hz.lo.2.le (by simp only [K0]; omega)
  rcases zyK.1 hy with hy | hy
  ·obtain ⟨k,_,rfl⟩:=zx1.1 hy;unfold hgtS;split
   ·rename_i e he; have:=hz.sg e (zyq he); exact zsz this.1.1 this.1.2 hx
   ·exact z0
  ·rw [zyZ.1 hy]; exact hz.hi.2.le (by simp only [K0]; omega)
 show Sz (k+1000) ((zaJ s l x).getD row 0);rw [zzO]
 cases h : (zaJ s l x)[row]? with
 | none=>exact z0
 | some y=>exact hall y (zyq h)
theorem zga {x y : Rat} {k m : Nat} (hx : Sz k x) (hy : Sz m y) : Sz (k+m+4) ((x+y)/2):=((hx.add hy).div (show Sz 2 (2 : Rat) from ⟨by decide,by decide⟩)).le (by omega)
theorem zrn {s : Sl} (hz : s.sz) (hzx : s.szX) {x : Cel} (hk : x.k<4) (hx2 : (x.r : Int)<cntK s x.k x.c) : (∀ v∈crnL s x,SzV 200000 v)/\SzV 450000 (cenP s x):=by
 obtain ⟨k,c,r⟩:=x;have hk' : k=0\/k=1\/k=2\/k=3:=by have : k<4:=hk; omega
 have sx : ∀ {c X},s.X.xs[c]?=some X->Sz 100000 X:=fun h=>hzx.X _ (zyq h)
 have sl : ∀ {c r : Nat} {l : Ln Rat} {y : Rat},s.L.xs[c]?=some l->l.xs[r]?=some y->Sz 200000 y:=fun h h'=>hzx.L _ (zyq h) _ (zyq h')
 have so : ∀ {c : Nat} {X : Rat} (t r),s.X.xs[c]?=some X->SzV 200000 (onP s t r X):=fun {c X} t r h=>(zja hz (sx h)).le (by decide)
 rcases hk' with rfl | rfl | rfl | rfl
 · obtain ⟨l,X,h1,h2,h3⟩:=zaZ (show (r : Int)<zb2 s 0 c from hx2);obtain ⟨y,hy'⟩ : ∃ y,l.xs[r]?=some y:=⟨_,zyy (by omega)⟩;rw [show crnL s ⟨0,c,r⟩=[⟨X,y⟩] by simp only [crnL]; rw [zah h2,zah (show (s.L.xs.map (·.xs))[c]?=some l.xs by rw [zx4,h1]; rfl),zah hy'],
     show cenP s ⟨0,c,r⟩=⟨X,y⟩ by simp only [cenP]; rw [zah h2,zah (show (s.L.xs.map (·.xs))[c]?=some l.xs by rw [zx4,h1]; rfl),zah hy']]
   refine ⟨fun v hv=>?_,(sx h2).le (by decide),(sl h1 hy').le (by decide)⟩;rw [zyZ.1 hv]; exact ⟨(sx h2).le (by decide),sl h1 hy'⟩
 · obtain ⟨l,X,h1,h2,h3⟩:=zaZ (show (r : Int)<zb2 s 1 c from hx2);obtain ⟨y,hy'⟩ : ∃ y,l.xs[r]?=some y:=⟨_,zyy (by omega)⟩;obtain ⟨y',hy''⟩ : ∃ y,l.xs[r+1]?=some y:=⟨_,zyy (by omega)⟩;rw [show crnL s ⟨1,c,r⟩=[⟨X,y⟩,⟨X,y'⟩] by simp only [crnL]; rw [zah h2,zah (show (s.L.xs.map (·.xs))[c]?=some l.xs by rw [zx4,h1]; rfl),zah hy',zah hy''],
     show cenP s ⟨1,c,r⟩=midV ⟨X,y⟩ ⟨X,y'⟩ by simp only [cenP]; rw [zah h2,zah (show (s.L.xs.map (·.xs))[c]?=some l.xs by rw [zx4,h1]; rfl),zah hy',zah hy'']]
   refine ⟨fun v hv=>?_,(zga (sx h2) (sx h2)).le (by decide),(zga (sl h1 hy') (sl h1 hy'')).le (by decide)⟩;simp only [zy1,zBL,or_false] at hv;rcases hv with rfl | rfl
   · exact ⟨(sx h2).le (by decide),sl h1 hy'⟩
   · exact ⟨(sx h2).le (by decide),sl h1 hy''⟩
 · obtain ⟨t,X,Y,h1,h2,h3,h4,h5⟩:=zaG (show (r : Int)<za6 s 2 c from hx2);rw [show crnL s ⟨2,c,r⟩=[onP s t r X,onP s t r Y] by simp only [crnL]; rw [zah h2,zah h3,zah h1],
     show cenP s ⟨2,c,r⟩=onP s t r ((X+Y)/2) by simp only [cenP]; rw [zah h2,zah h3,zah h1]]
   refine ⟨fun v hv=>?_,(zja hz (zga (sx h2) (sx h3))).le (by decide)⟩;simp only [zy1,zBL,or_false] at hv;rcases hv with rfl | rfl
   · exact so t r h2
   · exact so t r h3
 · obtain ⟨t,X,Y,h1,h2,h3,h4,h5⟩:=zaG (show (r : Int)<za6 s 1 c from hx2);rw [show crnL s ⟨3,c,r⟩=crn3 s t r X Y by simp only [crnL]; rw [zah h2,zah h3,zah h1],
     show cenP s ⟨3,c,r⟩=midV (onP s t r ((X+Y)/2)) (onP s t (r+1) ((X+Y)/2)) by simp only [cenP]; rw [zah h2,zah h3,zah h1]]
   have zm:=zga (sx h2) (sx h3);have o1:=zja (row:=r) (l:=t) hz zm;have o2:=zja (row:=r+1) (l:=t) hz zm;refine ⟨fun v hv=>?_,(zga o1.1 o2.1).le (by decide),(zga o1.2 o2.2).le (by decide)⟩;have : v∈[onP s t r X,onP s t r Y,onP s t (r+1) Y,onP s t (r+1) X]:=by
     unfold crn3 unw at hv;refine zlR.1 ?_;split at hv
     · exact zxP hv
     · exact hv
   simp only [zy1,zBL,or_false] at this;rcases this with rfl | rfl | rfl | rfl
   · exact so t r h2
   · exact so t r h3
   · exact so t (r+1) h3
   · exact so t (r+1) h2
theorem zev (s : Sl) : ∀ (m n c : Nat),zcW s c (m+n)=zcW s c m++zcW s (c+m) n
 | 0,n,c=>by simp [zcW]
 | m+1,n,c=>by
  rw [show m+1+n=(m+n)+1 by omega,zcW,zcW,zev s m n (c+1),zyF,show c+1+m=c+(m+1) by omega]
theorem zmV {s : Sl} {a n : Nat} (h : a+n<=s.X.xs.length) : (zcW s a n).length<=(zdC s).length:=by
 unfold zdC;rw [show s.X.xs.length=a+(n+(s.X.xs.length-(a+n))) by omega,zev,zev,zz2,zz2,zyo];omega
theorem zug {s : Sl} (hs : s.is) (hy : s.lo.y<s.hi.y) (hsm : s.small) (hz : s.sz) (hzx : s.szX) (hcl : (zdC s).length<=1000000000) {x : Cel} (hk : x.k<4) (hx : (x.r : Int)<cntK s x.k x.c) (hc : x.c<s.X.xs.length) :
  FnM PP 26 [s.V,x.V] (facts s.F) (zcl zao 3 (zfo s x).length (rowV Cel.C (zfo s x)) (.int .i64 0))/\(zfo s x).length<=1000000000:=by
 have hl : (zcW s (x.c-1) (x.c+1-(x.c-1))).length<=1000000000:=zxs (zmV (by omega)) hcl;refine ⟨zsc s x hsm hz hzx hk hx (by have:=hsm.1; omega) (fun d hd=>?_) hl,zxs (zCe _ _) hl⟩;obtain ⟨_,_,h3,h4⟩:=zfY hd;exact ztJ hs hy h3 h4
abbrev zCi:=@beq_self_eq_true
abbrev celI (x : Int×Int×Int) : Value:=.agg ⟨celC x.1 x.2.1 x.2.2⟩
theorem zeM {s : Sl} {k c r : Int} (h : isI s k c r=true) : ∃ x : Cel,k=x.k/\c=x.c/\r=x.r/\x.k<4/\(x.r : Int)<cntK s x.k x.c:=by
 have h0 : 0<=k/\k<4/\0<=c/\0<=r:=zB1 fun g=>by rw [zoO g] at h; cases h
 obtain ⟨k,rfl⟩:=zBr h0.1;obtain ⟨c,rfl⟩:=zBr h0.2.2.1;obtain ⟨r,rfl⟩:=zBr h0.2.2.2;rw [zdg (by omega)] at h;exact ⟨⟨k,c,r⟩,rfl,rfl,rfl,by show k<4; omega,zA0 h⟩
theorem zvK {s : Sl} {k c r : Nat} (hk : k<4) (hx : (r : Int)<cntK s k c) : c<s.X.xs.length:=by
 have hk' : k=0\/k=1\/k=2\/k=3:=by omega
 rcases hk' with rfl | rfl | rfl | rfl
 ·obtain ⟨l,x,_,h,_⟩:=zaZ (d:=0) hx; exact (zyz.1 h).1
 ·obtain ⟨l,x,_,h,_⟩:=zaZ (d:=1) hx; exact (zyz.1 h).1
 ·obtain ⟨l,x,y,_,h,_⟩:=zaG (d:=2) hx; exact (zyz.1 h).1
 ·obtain ⟨l,x,y,_,h,_⟩:=zaG (d:=1) hx; exact (zyz.1 h).1
structure SlQ (s : Sl) : Prop where
 is : s.is
 sm : s.small
 z : s.sz
 zx : s.szX
 lx : s.lo.x<s.hi.x
 ly : s.lo.y<s.hi.y
 sg : s.sg.xs.length<=8
 cl : (zdC s).length<=100000000
 L : s.L.xs.length=s.X.xs.length
 S : s.S.xs.length+1=s.X.xs.length
theorem zrh {s : Sl} (h : SlQ s) (x : Int×Int×Int) : ∃ p e,FnM PP 16 [s.V,celI x] (facts s.F) (zaR (.tuple #[pV (PQ p),.int .i64 e]))/\FnM PP 23 [s.V,celI x] (facts s.F) (zaR (.tuple #[pV (PQ p),.int .i64 e])):=by
 obtain ⟨k,c,r⟩:=x
 cases hI : isI s k c r with
 | false=>exact ⟨V0,6,zkL s k c r h.sm hI,zoC s k c r h.L h.S h.sm hI⟩
 | true =>
  obtain ⟨x,rfl,rfl,rfl,hk,hx⟩:=zeM hI;exact ⟨cenP s x,0,ziC s x h.sm h.z h.zx hk hx,zrO s x h.L h.S h.sm h.z h.zx hk hx⟩
theorem zv1 {s : Sl} (h : SlQ s) (x : Int×Int×Int) : ∃ a e,FnM PP 29 [s.V,celI x] (facts s.F) (zaR (.tuple #[qV a,.int .i64 e]))/\FnM PP 30 [s.V,celI x] (facts s.F) (zaR (.tuple #[qV a,.int .i64 e])):=by
 obtain ⟨k,c,r⟩:=x
 cases hI : isI s k c r with
 | false=>exact ⟨0,6,zoH s k c r h.sm hI,zrr s k c r h.L h.S h.sm hI⟩
 | true =>
  obtain ⟨x,rfl,rfl,rfl,hk,hx⟩:=zeM hI;refine ⟨ziv s x,0,zq0 s x h.sm h.z h.zx hk hx,?_⟩;by_cases h3 : x.k<3
  ·exact zuT s x h.L h.S h.sm h3 hx
  ·obtain ⟨k,c,r⟩:=x;obtain rfl : k=3:=by have : k<4:=hk; have : ¬k<3:=h3; omega
   exact zt9 s c r h.L h.S h.sm h.z h.zx hx
theorem zuk {s : Sl} (h : SlQ s) (x : Int×Int×Int) : ∃ L e,L.length<=100000000/\FnM PP 24 [s.V,celI x] (facts s.F) (zcl zao 3 L.length (rowV Cel.C L) (.int .i64 e))/\FnM PP 25 [s.V,celI x] (facts s.F) (zcl zao 3 L.length (rowV Cel.C L) (.int .i64 e)):=by
 obtain ⟨k,c,r⟩:=x
 cases hI : isI s k c r with
 | false=>exact ⟨[],6,by decide,zmk s k c r h.sm hI,zqw s k c r h.L h.S h.sm hI⟩
 | true =>
  obtain ⟨x,rfl,rfl,rfl,hk,hx⟩:=zeM hI;have hf:=ztJ h.is h.ly hk hx;refine ⟨zbf s x,0,?_,zqg s x h.sm h.z h.zx hk hx hf,ztV s x h.L h.S h.sm h.z h.zx hk hx hf⟩;obtain ⟨k,c,r⟩:=x;have hk' : k=0\/k=1\/k=2\/k=3:=by have : k<4:=hk; omega
  rcases hk' with rfl | rfl | rfl | rfl
  ·exact zyD _
  ·exact zxW rfl
  ·exact zxW rfl
  ·obtain ⟨⟨h2,h3⟩,h4,h5⟩:=hf.high rfl;have g0 : endI s c (r+1) 0<1000000:=h2.lt h.sm;have g1 : endI s c (r+1) 1<1000000:=h3.lt h.sm;show (zdJ s c r 0++(([⟨2,c,r⟩,⟨2,c,r+1⟩] : List Cel)++zdJ s c r 1)).length<=_;have hl : ∀ c lo hi,(zdh c lo hi++zc8 c lo hi).length<=2*hi+1:=fun c lo hi=>by
    rw [zz2,zdh,zc8,zyA,zyA,zB2,zB2]; omega
   have e0:=hl (c+0) (endI s c r 0) (endI s c (r+1) 0);have e1:=hl (c+1) (endI s c r 1) (endI s c (r+1) 1);rw [zz2,zz2];show (zdh (c+0) (endI s c r 0) (endI s c (r+1) 0)++zc8 (c+0) (endI s c r 0) (endI s c (r+1) 0)).length+(2+(zdh (c+1) (endI s c r 1) (endI s c (r+1) 1)++zc8 (c+1) (endI s c r 1) (endI s c (r+1) 1)).length)<=_;omega
theorem zvQ {s : Sl} (h : SlQ s) (x : Int×Int×Int) : ∃ L e,L.length<=100000000/\FnM PP 26 [s.V,celI x] (facts s.F) (zcl zao 3 L.length (rowV Cel.C L) (.int .i64 e))/\FnM PP 27 [s.V,celI x] (facts s.F) (zcl zao 3 L.length (rowV Cel.C L) (.int .i64 e)):=by
 obtain ⟨k,c,r⟩:=x
 cases hI : isI s k c r with
 | false=>exact ⟨[],6,by decide,zn6 s k c r h.sm hI,zsu s k c r h.L h.S h.sm hI⟩
 | true =>
  obtain ⟨x,rfl,rfl,rfl,hk,hx⟩:=zeM hI;have hcx:=zvK hk hx;have hl : (zfo s x).length<=100000000:=zxs (zCe _ _) (zxs (zmV (by omega)) h.cl);exact ⟨zfo s x,0,hl,(zug h.is h.ly h.sm h.z h.zx (by have:=h.cl; omega) hk hx hcx).1,zv7 s x _ _ h.L h.S h.sm h.z h.zx hk hx (fun d h1 h2=>ztJ h.is h.ly h1 h2) rfl (zuA rfl) hl⟩
theorem zqu {s : Sl} (h : SlQ s) (x : Int×Int×Int) : ∃ L e,L.length<=4/\FnM PP 15 [s.V,celI x] (facts s.F) (zcl zaw 6 L.length (rowV ptQ L) (.int .i64 e))/\FnM PP 28 [s.V,celI x] (facts s.F) (zcl zaw 6 L.length (rowV ptQ L) (.int .i64 e)):=by
 obtain ⟨k,c,r⟩:=x
 cases hI : isI s k c r with
 | false=>exact ⟨[],6,by decide,zjF s k c r h.sm hI,zl0 s k c r h.L h.S h.sm hI⟩
 | true =>
  obtain ⟨x,rfl,rfl,rfl,hk,hx⟩:=zeM hI;refine ⟨crnL s x,0,znD,zlN s x h.sm h.z h.zx hk hx,?_⟩;obtain ⟨k,c,r⟩:=x;have hk' : k<2\/k=2\/k=3:=by have : k<4:=hk; omega
  rcases hk' with hk2 | rfl | rfl
  ·exact zuL s k c r hk2 h.L h.S h.sm hx
  ·exact zu4 s c r h.L h.S h.sm h.z h.zx hx
  ·exact zva s c r h.L h.S h.sm h.z h.zx hx (fun x y hx hy=>by
    have hasc : Asc s.X.xs:=by rw [h.is.1,xsL]; exact zdt _
    have:=zba hasc hx hy (by omega);exact fun e=>by rw [e] at this; exact absurd this (Rat.lt_irrefl))
theorem zuu {s : Sl} (h : SlQ s) (x : Int×Int×Int) : ∃ L e,L.length<=8/\FnM PP 17 [s.V,celI x] (facts s.F) (zcl zbw 1 L.length (rowV intC L) (.int .i64 e))/\FnM PP 31 [s.V,celI x] (facts s.F) (zcl zbw 1 L.length (rowV intC L) (.int .i64 e)):=by
 obtain ⟨k,c,r⟩:=x
 cases hI : isI s k c r with
 | false=>exact ⟨[],6,by decide,zml s k c r h.sm hI,zo7 s k c r h.L h.S h.sm hI⟩
 | true =>
   obtain ⟨x,rfl,rfl,rfl,hk,hx⟩:=zeM hI;obtain ⟨zcr,zcn⟩:=zrn h.z h.zx hk hx;have hps : zfK (pcsL s.lo s.hi s.sg.xs):=zmh h.z.lo h.z.hi (fun e he=>(h.z.sg e he).1);have hpl : (pcsL s.lo s.hi s.sg.xs).length<=8:=zxs zi4 h.sg;have hce:=zu3 h.is h.z (zBU h.lx) h.ly hk hx;have hsg:=h.sg;refine ⟨zcQ s x,0,?_,zpF s x h.sm h.z h.zx hk hx (zBU h.lx) (zBU h.ly) (by omega) (by omega) hps (fun v hv=>(zcr v hv).le (by decide)) znD,
     ztG s x _ _ h.L h.S h.sm h.z h.zx hk hx (zBU h.lx) (zBU h.ly) (by omega) rfl (zcn.le (by decide)) hce⟩
   unfold zcQ;split
   · simp
   · rw [zyA]; exact zxs (zCe ..) hpl
theorem zj5 (b : Bx) (A : Option Addr) (c : Nat) (l : List (Pt×Pt)) (hlc : l.length<=c) (x : Int×Int×Int) :
  FnM PP 5 [bxV b,.slice A l.length c,celI x] (facts [zai A (rowV sgC l)]) (zaR (.bool true)):=by
 refine zzo zab mixed Tryz.func5 rfl rfl (zxW rfl) (by simp [zzk]) ?_;intro w hw;have hgr:=zqK b A c l;conv=>whnf
 refine cfs hgr ?_
 cases hg : zer b l with
 | true =>
  conv=>whnf
  refine cf zhx ?_;conv=>whnf
  exact zaa rfl
 | false =>
 obtain ⟨hb0,hs0,hlen,hl405⟩:=zs2 hg;conv=>whnf
 by_cases he : bldE b l=0;rotate_left
 ·have h2:=zop b A c l hb0 hs0 (by omega) he;generalize bldE b l=ec at h2 he;refine cfs h2 ?_;conv=>whnf
  refine zag (by show (!(ec==0))=true; simp [he]) ?_;conv=>whnf
  refine cf zhx ?_;conv=>whnf
  exact zaa rfl
 obtain ⟨lo,hi,E,hB⟩:=Bld.of (b:=b) (l:=l) (fun h=>by
  rcases h with h | h | h
  ·rw [hg] at h; cases h
  ·obtain ⟨_,_,E,_,_,_,hl',_,hE4⟩:=zla he;rw [hl',zyA] at hlen h;omega
  ·exact h he)
 obtain ⟨rfl,rfl,_,hlen8,hx,hy,hlo,hhi,hE⟩:=hB;have h2:=zo5 lo hi A c E hlo hhi hx hy hE (by omega);rw [zyA,show rowV sgC (E.map fun e=>(PQ e.1,PQ e.2))=rowV sgq E from zdm ..];refine zBI h2.enters (zzq h2 rfl (fun R h=>h)) (fun i=>zuz i) (fun t _=>?_);obtain ⟨s,f1,f2,f3,hit,f5⟩:=t;have hsg : s.sg.xs.length<=8:=by rw [f3]; exact hlen8
 obtain ⟨hsm,hcl⟩:=Sl.is_small hit hsg;have hz : s.sz:=⟨fun e he=>hE e (by rw [f3] at he; exact he),by rw [f1]; exact hlo,by rw [f2]; exact hhi⟩;obtain ⟨n1,n2,n3⟩:=Sl.is_len hit;have hpd : (pcsL s.lo s.hi s.sg.xs).length<=8:=zxs zi4 hsg;have hxl : s.X.xs.length<=100000:=by
  rw [hit.1];refine zxs (zhm _) ?_;have:=zfr (pcsL s.lo s.hi s.sg.xs) (pcsL s.lo s.hi s.sg.xs).length (by omega);simp only [zxR]; omega
 have hB : ∀ k cc,cntK s k cc<=(28 : Nat):=fun k cc=>by
  have:=zoW (s:=s) (B:=26) (fun l hl=>by
   obtain ⟨x,hx⟩:=Sl.is_line hit hl;rw [hx];have:=zp2 (lo:=s.lo) (hi:=s.hi) (ps:=pcsL s.lo s.hi s.sg.xs) (x:=x);omega) (fun l hl=>by
   obtain ⟨x,y,h⟩:=Sl.is_strip hit hl;rw [h];have:=zkw (lo:=s.lo) (hi:=s.hi) (ps:=pcsL s.lo s.hi s.sg.xs) (l:=x) (r:=y);omega) k cc
  omega
 have hcl8 : (zdC s).length<=100000000:=by
  have:=zhU hB s.X.xs.length 0;rw [zdC]; omega
 have hq : SlQ s:=⟨hit,hsm,hz,Sl.is_szX hit hz,by rw [f1,f2]; exact hx,by rw [f1,f2]; exact hy,hsg,hcl8,n1,by omega⟩;have f6 : Ln.R sgq s.sg=zai A (rowV sgq E):=by rw [f3]; rfl
 have hF : ∀ R∈s.F,R∈s.F'++[zai A (rowV sgq E)]:=fun R hR=>by
  rcases Sl.F_F' hR with h | h
  ·exact zyT _ h
  ·rw [h,f6]; exact zBV _ (zxA ..)
 obtain ⟨p,e1,p1,p2⟩:=zrh hq x;obtain ⟨u,e2,u0,u1,u2⟩:=zuk hq x;obtain ⟨o,e3,o0,o1,o2⟩:=zvQ hq x;obtain ⟨k,e4,k0,k1,k2⟩:=zqu hq x;obtain ⟨a,e5,a1,a2⟩:=zv1 hq x;obtain ⟨t,e6,t0,t1,t2⟩:=zuu hq x;have i1:=zfb s x.1 x.2.1 x.2.2 hsm;have i2:=zeZ s x.1 x.2.1 x.2.2 n1 (by omega) hsm.1 hsm.2.2.2.1 hsm.2.2.2.2.1;generalize isI s x.1 x.2.1 x.2.2=iv at i1 i2;have s1:=fun A1 c1 A2 c2=>zhN A1 A2 c1 c2 u u (by omega) (by omega)
 have s2:=fun A1 c1 A2 c2=>zhN A1 A2 c1 c2 o o (by omega) (by omega)
 have s3:=fun A1 c1 A2 c2=>zwh A1 A2 c1 c2 k k (by omega)
 have s4:=fun A1 c1 A2 c2=>zpX A1 A2 c1 c2 t t (by omega)
 simp only [decide_true] at s1 s2 s3 s4;obtain ⟨x1,x2,x3⟩:=x;conv=>whnf
 refine cfs p1 ?_ rfl hF;conv=>whnf
 refine cfs p2 ?_ rfl hF;conv=>whnf
 refine zzZ 61 u1.enters (zzq u1 rfl hF) rfl rfl ?_;conv=>whnf
 refine zzZ 67 u2.enters (zzq u2 rfl hF) rfl rfl ?_;conv=>whnf
 refine zzZ 73 o1.enters (zzq o1 rfl hF) rfl rfl ?_;conv=>whnf
 refine zzZ 79 o2.enters (zzq o2 rfl hF) rfl rfl ?_;conv=>whnf
 refine zzZ 85 k1.enters (zzq k1 rfl hF) rfl rfl ?_;conv=>whnf
 refine zzZ 91 k2.enters (zzq k2 rfl hF) rfl rfl ?_;conv=>whnf
 refine cfs a1 ?_ rfl hF;conv=>whnf
 refine cfs a2 ?_ rfl hF;conv=>whnf
 refine zzZ 109 t1.enters (zzq t1 rfl hF) rfl rfl ?_;conv=>whnf
 refine zzZ 115 t2.enters (zzq t2 rfl hF) rfl rfl ?_;conv=>whnf
 refine zak.qk ?_;conv=>whnf
 refine cds i1 ?_ rfl hF;conv=>whnf
 refine cds i2 ?_ rfl hF;conv=>whnf
 refine zag (zCi iv) ?_;conv=>whnf
 refine zag ((eqPV p p).trans (zz8 rfl)) ?_;conv=>whnf
 refine zag (zCi e1) ?_;conv=>whnf
 refine zA9 (s1 none 0 none 0).enters (zzX (fun y z=>[y,z]) (zzU (k:=61) rfl) (zzU (k:=67) rfl) (zxA ..) (zxB _ (zxA ..)) (fun _=>rfl) (fun A1 c1 A2 c2 _ _=>s1 A1 c1 A2 c2)) ?_;conv=>whnf
 refine zag (zCi e2) ?_;conv=>whnf
 refine zA9 (s2 none 0 none 0).enters (zzX (fun y z=>[y,z]) (zzU (k:=73) rfl) (zzU (k:=79) rfl) (zxA ..) (zxB _ (zxA ..)) (fun _=>rfl) (fun A1 c1 A2 c2 _ _=>s2 A1 c1 A2 c2)) ?_;conv=>whnf
 refine zag (zCi e3) ?_;conv=>whnf
 refine zA9 (s3 none 0 none 0).enters (zzX (fun y z=>[y,z]) (zzU (k:=85) rfl) (zzU (k:=91) rfl) (zxA ..) (zxB _ (zxA ..)) (fun _=>rfl) (fun A1 c1 A2 c2 _ _=>s3 A1 c1 A2 c2)) ?_;conv=>whnf
 refine zag (zCi e4) ?_;conv=>whnf
 refine zag ((eqRV a a).trans (zz8 rfl)) ?_;conv=>whnf
 refine zag (zCi e5) ?_;conv=>whnf
 refine zA9 (s4 none 0 none 0).enters (zzX (fun y z=>[y,z]) (zzU (k:=109) rfl) (zzU (k:=115) rfl) (zxA ..) (zxB _ (zxA ..)) (fun _=>rfl) (fun A1 c1 A2 c2 _ _=>s4 A1 c1 A2 c2)) ?_;conv=>whnf
 refine zag (zCi e6) ?_;conv=>whnf
 refine cd zhx ?_;conv=>whnf
 exact zaa rfl
end Go.Sx
end
section
namespace Go.Sx
open Go Go.Proofs Go.ChangeShapes Go.WideShapes Go.RowKit Go.Deep
section
variable {H : Type} {enc : TypeId×Value->H} {w : World} {base : Nat} {spare : Nat->Bool} {held : Bool} {fuel : Nat} {cs : List Value} {x : DataW H×List MemPlace}
theorem zn4 : PP.cellsOf zao=3:=by kernel_rfl
theorem zqE : PP.cellsOf zbw=1:=by kernel_rfl
theorem zr4 (h : DataW.trod enc PP w base spare held fuel zao cs=some x) : ∃ k c r : Int,cs=[.int .i64 k,.int .i64 c,.int .i64 r]:=by
 obtain ⟨xs,n,_,_,hlen,hxl,hf⟩:=zBS (zab zao _ rfl).1.und h;rw [zn4] at hlen;obtain ⟨y0,h0⟩:=zcp (show 0<xs.length by rw [hxl]; decide);obtain ⟨y1,h1⟩:=zcp (show 1<xs.length by rw [hxl]; decide);obtain ⟨y2,h2⟩:=zcp (show 2<xs.length by rw [hxl]; decide);have g0 : DataW.trod enc PP w base spare held n zbw ((cs.drop 0).take (PP.cellsOf zbw))=xs[0]?:=hf 0 _ rfl;have g1 : DataW.trod enc PP w base spare held n zbw ((cs.drop 1).take (PP.cellsOf zbw))=xs[1]?:=hf 1 _ rfl;have g2 : DataW.trod enc PP w base spare held n zbw ((cs.drop 2).take (PP.cellsOf zbw))=xs[2]?:=hf 2 _ rfl;rw [h0] at g0; rw [h1] at g1; rw [h2] at g2
 rw [zqE] at g0 g1 g2;obtain ⟨k,e0,_,_⟩:=DataW.trod_int (zab zbw _ rfl).1.und g0;obtain ⟨c,e1,_,_⟩:=DataW.trod_int (zab zbw _ rfl).1.und g1;obtain ⟨r,e2,_,_⟩:=DataW.trod_int (zab zbw _ rfl).1.und g2;refine ⟨k,c,r,?_⟩
 match cs,hlen with
 | [a,b,d],_ =>
  simp only [zAJ,List.drop_succ_cons,zyv,List.take_zero,List.cons.injEq,and_true] at e0 e1 e2;rw [e0,e1,e2]
theorem zrc {r : Reach} {b : Nat} {v : Value} {d : DataW H} {ps : List MemPlace} (hv : Value.okWide PP w r b zao v) (h : DataW.Trod enc PP w base spare held zao v d ps) : ∃ x : Int×Int×Int,v=.agg ⟨[.int .i64 x.1,.int .i64 x.2.1,.int .i64 x.2.2]⟩:=by
 obtain ⟨cs,rfl,_⟩:=okWide_struct (zab zao _ rfl).1.und hv;obtain ⟨fuel,hf⟩:=h;obtain ⟨k,c,r,hr⟩:=zr4 hf;exact ⟨(k,c,r),by cases cs; exact zyr (fun l : List Value=>Value.agg ⟨l⟩) hr⟩
end
end Go.Sx
end
