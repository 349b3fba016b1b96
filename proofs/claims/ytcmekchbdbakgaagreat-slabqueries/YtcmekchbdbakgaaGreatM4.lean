/- A part of the proof of a law. No conditions. -/
import Derived.Test.YtcmekchbdbakgaaGreatM3
import Derived.KernelRfl
set_option linter.unusedVariables false
set_option linter.unusedSimpArgs false
set_option maxRecDepth 10000
set_option maxHeartbeats 8000000
section
namespace Go.Sx
open Go Go.Proofs
abbrev zA6:=@Int.ofNat_lt
abbrev zA5:=@Nat.add_sub_cancel_left
theorem zsD {B j c b x s g : Nat} {S V D : List Nat} (hB : 0<B) (hD : D.length=j) (hb : b<=1) (hsB : s<B) (hv : lv B (S.take j)+B ^ j*(c+b)=lv B D+g*lv B (V.take j)) (hs : S[j]?=some s) (hx : V[j]?=some x) :
  lv B (S.take (j+1))+B ^ (j+1)*((c+g*x)/B+(if s<(c+g*x)%B+b then 1 else 0))=lv B (D++[(B+s-(c+g*x)%B-b)%B])+g*lv B (V.take (j+1)):=by
 rw [za5 hs,za5 hx,zcv,hD,zzD,zzF,zzE g,show g*(B ^ j*x)=B ^ j*(g*x) from zAx _ _ _];generalize g*x=gx;obtain ⟨lo,hlo⟩ : ∃ lo,lo=(c+gx)%B:=⟨_,rfl⟩;have hloB : lo<B:=by rw [hlo]; exact zyl _ hB
 have hdm:=zAw (c+gx) B;rw [<-hlo] at hdm ⊢;have h3 : s+B*(if s<lo+b then 1 else 0)=(B+s-lo-b)%B+lo+b:=by
  split
  ·by_cases h0 : B+s-lo-b<B
   ·rw [zyR,zye h0]; omega
   ·omega
  ·rw [zzM,show B+s-lo-b=(s-lo-b)+B by omega,Nat.add_mod_right,zye (by omega)]; omega
 generalize (if s<lo+b then 1 else 0)=b' at h3 ⊢;generalize (B+s-lo-b)%B=d at h3 ⊢;generalize (c+gx)/B=c' at hdm ⊢;have h5 : B ^ j*(s+B*(c'+b'))=B ^ j*(d+gx+(c+b)):=by congr 1; rw [zzE]; omega
 have a1 : B ^ j*(s+B*(c'+b'))=B ^ j*s+B ^ j*(B*(c'+b')):=zzE ..;have a2 : B ^ j*(d+gx+(c+b))=B ^ j*d+B ^ j*gx+B ^ j*(c+b):=by rw [zzE,zzE]
 omega
theorem zpr {B j t x s : Nat} {D V E : List Nat} (hB : 0<B) (hE : E.length=j) (hv : lv B E+B ^ j*t=lv B (D.take j)+lv B (V.take j)) (hs : D[j]?=some s) (hx : V[j]?=some x) :
  lv B (E++[(s+x+t)%B])+B ^ (j+1)*((s+x+t)/B)=lv B (D.take (j+1))+lv B (V.take (j+1)):=by
 rw [za5 hs,za5 hx,zcv,hE,zzD,zzF];have h3 : B ^ j*((s+x+t)%B)+B ^ j*(B*((s+x+t)/B))=B ^ j*(s+x+t):=by rw [<-zzE,zzy]
 rw [zzE,zzE] at h3;omega
theorem zqm {B k t d D' W q : Nat} {E D V : List Nat} (hB : 0<B) (hE : E.length=k) (hEB : ∀ x∈E,x<B) (hv : lv B E+B ^ k*t=D'+lv B V) (hd : lv B D=D'+B ^ k*d) (hW : W+B ^ (k+1)=lv B D+(q+1)*lv B V) (hq : q=W/lv B V) (hV : lv B V<B ^ k) (hV0 : 0<lv B V) :
  lv B (E++[(d+t)%B])=W%lv B V:=by
 rw [zcv,hE];have h1:=zAw W (lv B V);have h2:=zyl W hV0;rw [<-hq,zzG] at h1;have hp1 : B ^ (k+1)=B ^ k*B:=zzD ..;rw [zzP,zz4,hp1] at hW;have h3 : lv B E+B ^ k*t+B ^ k*d=W%lv B V+B ^ k*B:=by omega
 have h4 : B ^ k*(t+d)+lv B E=W%lv B V+B ^ k*B:=by rw [zzE]; omega
 have hEl:=zfQ hB E hEB;rw [hE] at hEl;generalize W%lv B V=r at *;have h5 : t+d=r/B ^ k+B:=by
  have hp : 0<B ^ k:=zAv hB;have:=zyr (fun z=>z/B ^ k) h4;rw [zyc,zzA _ _ hp,zzB hEl,zzA _ _ hp] at this;omega
 have h6 : r/B ^ k=0:=zzB (by omega);have h7 : t+d=B:=by omega
 rw [zyc d t,h7,Nat.mod_self];rw [h7] at h4;omega
theorem znW {B k x c b N : Nat} {S D : List Nat} (hD : D.length=k) (hcB : c<B) (hxB : x<B) (hb : b<=1) (hS : S.length=k+1) (hx : S[k]?=some x) (hv : lv B (S.take D.length)+B ^ D.length*(c+b)=lv B D+N) :
  lv B S+B ^ (k+1)*(if x<c+b then 1 else 0)=lv B (D++[(B+x-c-b)%B])+N:=by
 have h0 : lv B S=lv B (S.take k)+B ^ k*x:=by
  have:=za5 (B:=B) hx;rwa [zyJ (by omega)] at this
 have h3 : x+B*(if x<c+b then 1 else 0)=(B+x-c-b)%B+c+b:=by
  split
  ·by_cases h0 : B+x-c-b<B
   ·rw [zyR,zye h0]; omega
   ·omega
  ·rw [zzM,show B+x-c-b=(x-c-b)+B by omega,Nat.add_mod_right,zye (by omega)]; omega
 rw [hD] at hv;rw [h0,zcv,hD,zzD,zzF];generalize (if x<c+b then 1 else 0)=b' at h3 ⊢;generalize (B+x-c-b)%B=d at h3 ⊢;have h5 : B ^ k*(x+B*b')=B ^ k*(d+c+b):=by rw [h3]
 have a1 : B ^ k*(x+B*b')=B ^ k*x+B ^ k*(B*b'):=zzE ..;have a2 : B ^ k*(d+c+b)=B ^ k*d+B ^ k*(c+b):=by rw [zxS,zzE]
 omega
theorem ztC (A : Option Addr) (c : Nat) (V P0 S R : List Nat) (hk : 2<=V.length) (hS : S.length=V.length+1) (hV : ∀ x∈V,x<2 ^ 32) (hP0 : ∀ x∈P0,x<2 ^ 32) (hSb : ∀ x∈S,x<2 ^ 32)
   (hVt : 0<V.getD (V.length-1) 0) (hfit : lv (2 ^ 32) S<2 ^ 32*lv (2 ^ 32) V) (hlen : (P0++(S++R)).length<=1000000000000) :
   FnW PP 269 [.slice A V.length c,.int .i64 P0.length] [zai A (u32V V)] zax (P0++(S++R)).length (u32V (P0++(S++R)))
     (u32V (P0++(pad (2 ^ 32) (V.length+1) (lv (2 ^ 32) S%lv (2 ^ 32) V)++R))) (u32 (lv (2 ^ 32) S/lv (2 ^ 32) V)):=by
 refine FnW.ofS zab mixed Tryz.func269 rfl rfl (zxW rfl) (by simp [zzk]) ?_;intro w b cap junk hcap hw;obtain ⟨U,hU⟩ : ∃ U,U=P0++(S++R):=⟨_,rfl⟩;rw [<-hU] at hlen hcap ⊢;obtain ⟨k,hkk⟩ : ∃ k,k=V.length:=⟨_,rfl⟩;have hUl : U.length=P0.length+(k+1)+R.length:=by rw [hU]; simp [hS]; omega
 have hUS : ∀ j,j<k+1->U[P0.length+j]?=some (S.getD j 0):=by
   intro j hj;rw [hU,zyg (by omega),zyd (by omega),zA5];exact zc2 (by omega)
 have hA : A.isSome=true:=zam (zaK hw) (by rw [zav]; omega);rw [<-hkk] at hk hS hVt ⊢;have hik : IntKind.i64.wrap ((P0.length : Int)+(k : Int))=((P0.length+k : Nat) : Int):=by rw [wrap_i64 (by omega) (by omega)]; omega
 have hik1 : IntKind.i64.wrap (IntKind.i64.wrap ((P0.length : Int)+(k : Int))-1)=((P0.length+(k-1) : Nat) : Int):=by rw [hik,wrap_i64 (by omega) (by omega)]; omega
 have hk1 : IntKind.i64.wrap ((k : Int)-1)=((k-1 : Nat) : Int):=by rw [wrap_i64 (by omega) (by omega)]; omega
 obtain ⟨u0,hu0⟩ : ∃ u0,u0=S.getD k 0:=⟨_,rfl⟩;obtain ⟨u1,hu1⟩ : ∃ u1,u1=S.getD (k-1) 0:=⟨_,rfl⟩;obtain ⟨v1,hv1⟩ : ∃ v1,v1=V.getD (k-1) 0:=⟨_,rfl⟩;have hu0b : u0<2 ^ 32:=by rw [hu0]; exact zh8 (by decide) hSb _
 have hu1b : u1<2 ^ 32:=by rw [hu1]; exact zh8 (by decide) hSb _
 have hv1b : v1<2 ^ 32:=by rw [hv1]; exact zh8 (by decide) hV _
 have hUlen : (u32V U++junk).length=U.length+junk.length:=by rw [zz2,zav]
 refine zy9 zab mixed ?_;conv=>whnf
 refine zy9 zab mixed ?_;conv=>whnf
 refine zy9 zab mixed ?_;conv=>whnf
 refine zak.qk ?_;conv=>whnf
 refine ⟨by rw [hik]; omega,?_⟩;conv=>whnf
 refine zA2 u32c zay (k:=P0.length+k) (by rw [hik]; show 0+(P0.length+k)*1=_; omega) (by omega) (by decide) (fun _=>rfl) ?_;intro x hx;obtain rfl : x=u0:=by rw [hUS k (by omega)] at hx; rw [hu0]; exact (zz1 hx).symm
 conv=>whnf
 refine ⟨by decide,?_⟩;conv=>whnf
 refine ⟨by rw [hik1]; omega,?_⟩;conv=>whnf
 refine zA2 u32c zay (k:=P0.length+(k-1)) (by rw [hik1]; show 0+(P0.length+(k-1))*1=_; omega) (by omega) (by decide) (fun _=>rfl) ?_;intro y hy;obtain rfl : y=u1:=by rw [hUS (k-1) (by omega)] at hy; rw [hu1]; exact (zz1 hy).symm
 conv=>whnf
 obtain ⟨top,htop⟩ : ∃ top,top=x*2 ^ 32+y:=⟨_,rfl⟩;have htb : top<2 ^ 64:=by omega
 have hor : IntKind.u64.wrap (BitVec.toNat (w:=64) (BitVec.ofInt 64 (IntKind.u64.wrap (IntKind.u64.wrap (x : Int)*2 ^ min (32 : Int).toNat IntKind.u64.bits)) ||| BitVec.ofInt 64 (IntKind.u64.wrap (y : Int))) : Int)=(top : Int):=by
   have e1 : IntKind.u64.wrap (IntKind.u64.wrap (x : Int)*2 ^ min (32 : Int).toNat IntKind.u64.bits)=((x*2 ^ 32 : Nat) : Int):=by
     rw [show min (32 : Int).toNat IntKind.u64.bits=32 from rfl,zAQ,zAQ]; omega
   have e2 : IntKind.u64.wrap (y : Int)=(y : Int):=by rw [zAQ]; omega
   rw [e1,e2,znh,zAB,zaU (by omega),zaU (by omega),zzG,<-zAC hu1b,htop];omega
 refine zy9 zab mixed ?_;conv=>whnf
 refine zak.qk ?_;conv=>whnf
 have hz1 : V[k-1]?=some v1:=by rw [hv1]; exact zc2 (by omega)
 refine ⟨⟨by rw [hk1]; omega,by rw [hk1]; omega,hA⟩,?_⟩;conv=>whnf
 refine zzR u32c zay (zyZ.2 rfl) rfl (by rw [hk1]; omega) (by decide) (fun _=>rfl) ?_;rw [hk1,zzS];intro z hz;obtain rfl : z=v1:=by rw [hz1] at hz; exact (zz1 hz).symm
 have hv1p : 0<z:=by rw [hv1]; exact hVt
 have hz64 : IntKind.u64.wrap (z : Int)=(z : Int):=by rw [zAQ]; omega
 conv=>whnf
 refine ⟨by rw [hz64]; omega,?_⟩;conv=>whnf
 refine ⟨⟨by rw [hk1]; omega,by rw [hk1]; omega,hA⟩,?_⟩;conv=>whnf
 refine zzR u32c zay (zyZ.2 rfl) rfl (by rw [hk1]; omega) (by decide) (fun _=>rfl) ?_;rw [hk1,zzS];intro z' hz';obtain rfl : z'=z:=by rw [hz1] at hz'; exact (zz1 hz').symm
 conv=>whnf
 refine ⟨by rw [hz64]; omega,?_⟩;conv=>whnf
 obtain ⟨Q,hQ⟩ : ∃ Q,Q=lv (2 ^ 32) S/lv (2 ^ 32) V:=⟨_,rfl⟩;obtain ⟨v2,hv2⟩ : ∃ v2,v2=V.getD (k-2) 0:=⟨_,rfl⟩;obtain ⟨u2,hu2⟩ : ∃ u2,u2=S.getD (k-2) 0:=⟨_,rfl⟩;have hv2b : v2<2 ^ 32:=by rw [hv2]; exact zh8 (by decide) hV _
 have hu2b : u2<2 ^ 32:=by rw [hu2]; exact zh8 (by decide) hSb _
 have hVd : lv (2 ^ 32) V=(z'*2 ^ 32+v2)*(2 ^ 32) ^ (k-2)+lv (2 ^ 32) (V.take (k-2)):=by rw [hv1,hv2]; exact zte hk hkk.symm
 have hVl : lv (2 ^ 32) (V.take (k-2))<(2 ^ 32) ^ (k-2):=by
   have:=zfQ (B:=2 ^ 32) (by decide) (V.take (k-2)) (fun x hx=>hV x (zxP hx));rwa [zyI,zAs (by omega)] at this
 have hVpos : 0<lv (2 ^ 32) V:=by
   have h1 : 0<z'*2 ^ 32+v2:=by omega
   rw [hVd];exact zxw (zyN h1 (zAv (by decide))) (Nat.le_add_right _ _)
 have hSd : ∃ wl,lv (2 ^ 32) S=(top*2 ^ 32+u2)*(2 ^ 32) ^ (k-2)+wl/\wl<(2 ^ 32) ^ (k-2):=by
   refine ⟨lv (2 ^ 32) (S.take (k-2)),?_,?_⟩
   · have h1:=zr5 (B:=2 ^ 32) hk hS;rw [<-hu0,<-hu1,<-htop,<-hu2] at h1;exact h1
   · have:=zfQ (B:=2 ^ 32) (by decide) (S.take (k-2)) (fun x hx=>hSb x (zxP hx));rwa [zyI,zAs (by omega)] at this
 obtain ⟨wl,hSd,hwl⟩:=hSd;have hinit : Q<=top/z':=by rw [hQ]; exact zob hv1p hVd hSd hu2b hwl hVpos
 refine WPS.cutW (ι:=Nat×Nat) (fun ⟨g,r⟩=>⟨[(0,.o (.s 194 0 U.length cap)),(1,.o (.v (.slice A k c))),(2,.o (.v (.int .i64 P0.length))),(7,.o (.v (.int .i64 k))),(9,.o (.v (.int .u64 g)))],[(194,.sym (u32V U++junk) zax)],[zai A (u32V V)]⟩)
   (fun ⟨g,r⟩=>g<2 ^ 32/\Q<=g/\g<=Q+1) ?_ ?_
 · have hsh : ∀ m : Nat,(m : Int).fdiv (2 ^ min (32 : Int).toNat IntKind.u64.bits)=((m/2 ^ 32 : Nat) : Int):=fun m=>by
     rw [show min (32 : Int).toNat IntKind.u64.bits=32 from rfl,zAO _ (by decide)]; rfl
   have hk2 : IntKind.i64.wrap ((k : Int)-2)=((k-2 : Nat) : Int):=by rw [wrap_i64 (by omega) (by omega)]; omega
   have hik2 : IntKind.i64.wrap (IntKind.i64.wrap ((P0.length : Int)+(k : Int))-2)=((P0.length+(k-2) : Nat) : Int):=by rw [hik,wrap_i64 (by omega) (by omega)]; omega
   refine zAl ?_;refine zAm (ι:=Nat×Nat) (fun ⟨g,r⟩=>⟨[(0,.o (.s 194 0 U.length cap)),(1,.o (.v (.slice A k c))),(2,.o (.v (.int .i64 P0.length))),(7,.o (.v (.int .i64 k))),(9,.o (.v (.int .u64 g))),(10,.o (.v (.int .u64 r)))],[(194,.sym (u32V U++junk) zax)],[zai A (u32V V)]⟩)
     (fun ⟨g,r⟩=>g*z'+r=top/\Q<=g) (fun ⟨g,r⟩=>g) (top/z',top%z') ⟨by rw [zzG]; exact zAw top z',hinit⟩ (zzj ⟨rfl,rfl,rfl,rfl,?_,?_,trivial⟩ ⟨mrf rfl,trivial⟩ (fun R hR=>hR)) ?_
   · show some (SV.o (.v (.int .u64 (IntKind.u64.wrap (Int.tdiv (IntKind.u64.wrap (BitVec.toNat (w:=64) (BitVec.ofInt 64 _ ||| BitVec.ofInt 64 _) : Int)) (IntKind.u64.wrap (z' : Int)))))))=some (SV.o (.v (.int .u64 ((top/z' : Nat) : Int))));rw [hor,hz64,zAD (by omega)];have e3 : (top : Int)/(z' : Int)=((top/z' : Nat) : Int):=rfl;have e4 : top/z'<=top:=zAe _ _;rw [e3];generalize top/z'=q at e4 ⊢;rw [zAQ]; congr 4; omega
   · show some (SV.o (.v (.int .u64 (Int.tmod (IntKind.u64.wrap (BitVec.toNat (w:=64) (BitVec.ofInt 64 _ ||| BitVec.ofInt 64 _) : Int)) (IntKind.u64.wrap (z' : Int))))))=some (SV.o (.v (.int .u64 ((top%z' : Nat) : Int))));rw [hor,hz64,zAF (by omega)]; rfl
   rintro ⟨g,r⟩ ⟨hgr,hQg⟩;have hgb : g<=top:=by have : g*1<=g*z':=zzH _ hv1p; omega
   have hrb : r<=top:=by omega
   have hdec : Q<g->(g-1)*z'+(r+z')=top/\Q<=g-1/\g-1<g/\IntKind.u64.wrap ((g : Int)-1)=((g-1 : Nat) : Int)/\IntKind.u64.wrap ((r : Int)+IntKind.u64.wrap (z' : Int))=((r+z' : Nat) : Int):=by
     intro h;obtain ⟨m,rfl⟩ : ∃ m,g=m+1:=⟨g-1,by omega⟩;rw [zzP,zz4] at hgr;refine ⟨by rw [zAZ]; omega,by omega,by omega,by rw [zAQ]; omega,by rw [hz64,zAQ]; omega⟩
   have hfin : g<2 ^ 32->g*v2<=r*2 ^ 32+u2->g<2 ^ 32/\Q<=g/\g<=Q+1:=fun h1 h2=>⟨h1,hQg,by rw [hQ]; exact zln (by decide) hv1p hVd hVl hSd hgr h2 h1 hVpos⟩
   have hQb : Q<2 ^ 32:=by rw [hQ]; exact zzK (by rw [zzG]; exact hfit)
   refine zAk ?_;refine WPS.cut zab mixed (ι:=Bool) (fun bb=>⟨[(0,.o (.s 194 0 U.length cap)),(1,.o (.v (.slice A k c))),(2,.o (.v (.int .i64 P0.length))),(7,.o (.v (.int .i64 k))),(9,.o (.v (.int .u64 g))),(10,.o (.v (.int .u64 r))),(82,.o (.v (.bool bb)))],[(194,.sym (u32V U++junk) zax)],[zai A (u32V V)]⟩)
     (fun bb=>(bb=true->Q<g)/\(bb=false->g<2 ^ 32/\g<=Q+1)) ?_ ?_
   · conv=>whnf
     refine zak.qk ?_;conv=>whnf
     refine ⟨by decide,?_⟩;conv=>whnf
     refine zaj ?_ ?_
     · intro hg1;have hg2 : 2 ^ 32<=g:=by
         have : (g : Int).fdiv (2 ^ min (32 : Int).toNat IntKind.u64.bits)>0:=zA0 hg1;rw [hsh] at this; omega
       conv=>whnf
       exact ⟨true,⟨fun _=>by omega,fun h=>by cases h⟩,zzj ⟨rfl,rfl,rfl,rfl,rfl,rfl,rfl,trivial⟩ ⟨mrf rfl,trivial⟩ (fun R hR=>hR)⟩
     · intro hg1;have hg2 : g<2 ^ 32:=by
         have : ¬(g : Int).fdiv (2 ^ min (32 : Int).toNat IntKind.u64.bits)>0:=zA1 hg1;rw [hsh] at this; omega
       conv=>whnf
       refine ⟨by decide,?_⟩;conv=>whnf
       refine zaj ?_ ?_
       · intro hr1;have hr2 : r<2 ^ 32:=by
           have : (r : Int).fdiv (2 ^ min (32 : Int).toNat IntKind.u64.bits)=0:=eq_of_beq hr1;rw [hsh] at this; omega
         conv=>whnf
         refine ⟨⟨by rw [hk2]; omega,by rw [hk2]; omega,hA⟩,?_⟩;conv=>whnf
         refine zzR u32c zay (zyZ.2 rfl) rfl (by rw [hk2]; omega) (by decide) (fun _=>rfl) ?_;rw [hk2,zzS];intro a ha;obtain rfl : a=v2:=by rw [zc2 (show k-2<V.length by omega),<-hv2] at ha; exact (zz1 ha).symm
         conv=>whnf
         refine ⟨by decide,?_⟩;conv=>whnf
         refine ⟨by rw [hik2]; omega,?_⟩;conv=>whnf
         refine zA2 u32c zay (k:=P0.length+(k-2)) (by rw [hik2]; show 0+(P0.length+(k-2))*1=_; omega) (by omega) (by decide) (fun _=>rfl) ?_;intro e he;obtain rfl : e=u2:=by rw [hUS (k-2) (by omega)] at he; rw [hu2]; exact (zz1 he).symm
         have hmul : IntKind.u64.wrap ((g : Int)*IntKind.u64.wrap (a : Int))=((g*a : Nat) : Int):=by
           have h1 : g*a<=(2 ^ 32-1)*(2 ^ 32-1):=zAS (by omega) (by omega);have e1 : IntKind.u64.wrap (a : Int)=(a : Int):=by rw [zAQ]; omega
           rw [e1,<-zAG];generalize g*a=m at h1 ⊢;rw [zAQ]; omega
         have hor2' : IntKind.u64.wrap (BitVec.toNat (w:=64) (BitVec.ofInt 64 (IntKind.u64.wrap ((r : Int)*2 ^ min (32 : Int).toNat IntKind.u64.bits)) ||| BitVec.ofInt 64 (IntKind.u64.wrap (e : Int))) : Int)=((r*2 ^ 32+e : Nat) : Int):=by
           have e1 : IntKind.u64.wrap ((r : Int)*2 ^ min (32 : Int).toNat IntKind.u64.bits)=((r*2 ^ 32 : Nat) : Int):=by
             rw [show min (32 : Int).toNat IntKind.u64.bits=32 from rfl,zAQ]; omega
           have e2 : IntKind.u64.wrap (e : Int)=(e : Int):=by rw [zAQ]; omega
           rw [e1,e2,znh,zAB,zaU (by omega),zaU (by omega),zzG,<-zAC hu2b]
         have hor2 : IntKind.u64.wrap (((BitVec.ofInt IntKind.u64.bits (IntKind.u64.wrap ((r : Int)*2 ^ min (32 : Int).toNat IntKind.u64.bits)) ||| BitVec.ofInt IntKind.u64.bits (IntKind.u64.wrap (e : Int))).toNat : Nat) : Int)=((r*2 ^ 32+e : Nat) : Int):=hor2';conv=>whnf
         refine ⟨_,⟨fun hc=>?_,fun hc=>?_⟩,zzj ⟨rfl,rfl,rfl,rfl,rfl,rfl,rfl,trivial⟩ ⟨mrf rfl,trivial⟩ (fun R hR=>hR)⟩
         · have hc2 : r*2 ^ 32+e<g*a:=by
             have:=zA0 hc;rw [hmul,hor2] at this; exact zA6.1 this
           rw [hQ]; exact zpZ hVd hSd hwl hgr hc2 hVpos
         · have hc2 : g*a<=r*2 ^ 32+e:=by
             have:=zA1 hc;rw [hmul,hor2] at this; exact Int.ofNat_le.1 (Int.not_lt.1 this)
           exact ⟨hg2,(hfin hg2 hc2).2.2⟩
       · intro hr1;have hr2 : ¬r<2 ^ 32:=by
           have : ¬(r : Int).fdiv (2 ^ min (32 : Int).toNat IntKind.u64.bits)=0:=ne_of_beq_false hr1;rw [hsh] at this; omega
         conv=>whnf
         refine ⟨false,⟨fun h=>(by cases h),fun _=>⟨hg2,(hfin hg2 ?_).2.2⟩⟩,zzj ⟨rfl,rfl,rfl,rfl,rfl,rfl,rfl,trivial⟩ ⟨mrf rfl,trivial⟩ (fun R hR=>hR)⟩;have h1 : g*v2<=(2 ^ 32-1)*(2 ^ 32-1):=zAS (by omega) (by omega);omega
   · rintro bb ⟨hT,hF⟩;refine zy7 zab mixed ?_;conv=>whnf
     cases bb with
     | false =>
       obtain ⟨h1,h2⟩:=hF rfl;conv=>whnf
       exact ⟨(g,r),⟨h1,hQg,h2⟩,zzj ⟨rfl,rfl,rfl,rfl,rfl,trivial⟩ ⟨mrf rfl,trivial⟩ (fun R hR=>hR)⟩
     | true =>
       obtain ⟨d1,d2,d3,d4,d5⟩:=hdec (hT rfl);conv=>whnf
       refine zy7 zab mixed ?_;conv=>whnf
       refine ⟨⟨by rw [hk1]; omega,by rw [hk1]; omega,hA⟩,?_⟩;conv=>whnf
       refine zzR u32c zay (zyZ.2 rfl) rfl (by rw [hk1]; omega) (by decide) (fun _=>rfl) ?_;rw [hk1,zzS];intro zz hzz;obtain rfl : zz=z':=by rw [hz1] at hzz; exact (zz1 hzz).symm
       conv=>whnf
       refine ⟨by decide,?_⟩;conv=>whnf
       have hgb2 : IntKind.u64.wrap ((g : Int)-1)=((g-1 : Nat) : Int):=d4;have hrr : IntKind.u64.wrap ((r : Int)+IntKind.u64.wrap (zz : Int))=((r+zz : Nat) : Int):=d5;have hnext : ∀ s : SS,lk 0 s.tm=some (.o (.s 194 0 U.length cap))->lk 1 s.tm=some (.o (.v (.slice A k c)))->lk 2 s.tm=some (.o (.v (.int .i64 P0.length)))->lk 7 s.tm=some (.o (.v (.int .i64 k)))->lk 9 s.tm=some (.o (.v (.int .u64 (IntKind.u64.wrap ((g : Int)-1)))))->lk 10 s.tm=some (.o (.v (.int .u64 (IntKind.u64.wrap ((r : Int)+IntKind.u64.wrap (zz : Int))))))->lk 194 s.me=some (.sym (u32V U++junk) zax)->s.re=[zai A (u32V V)] ->
           SLe (⟨w,[b],Tryz.f269.ntmps⟩ : Cx) s ⟨[(0,.o (.s 194 0 U.length cap)),(1,.o (.v (.slice A k c))),(2,.o (.v (.int .i64 P0.length))),(7,.o (.v (.int .i64 k))),(9,.o (.v (.int .u64 ((g-1 : Nat) : Int)))),(10,.o (.v (.int .u64 ((r+zz : Nat) : Int))))],[(194,.sym (u32V U++junk) zax)],[zai A (u32V V)]⟩:=by
         intro s h0 h1 h2 h7 h9 h10 hm hr;rw [hgb2] at h9;rw [hrr] at h10;exact zzj ⟨h0,h1,h2,h7,h9,h10,trivial⟩ ⟨⟨_,hm,.refl _⟩,trivial⟩ (fun R hR=>by rw [hr]; exact hR)
       refine zaj ?_ ?_
       · intro hr1;have hr2 : 2 ^ 32<=r+zz:=by
           have : (IntKind.u64.wrap ((r : Int)+IntKind.u64.wrap (zz : Int))).fdiv (2 ^ min (32 : Int).toNat IntKind.u64.bits)>0:=zA0 hr1;rw [hrr,hsh] at this; omega
         conv=>whnf
         refine ⟨by decide,?_⟩;conv=>whnf
         refine zaj ?_ ?_
         · intro hg3;have hg4 : g-1<2 ^ 32:=by
             have : (IntKind.u64.wrap ((g : Int)-1)).fdiv (2 ^ min (32 : Int).toNat IntKind.u64.bits)=0:=eq_of_beq hg3;rw [hgb2,hsh] at this; omega
           conv=>whnf
           refine ⟨(g-1,r+zz),⟨hg4,d2,?_⟩,?_⟩
           · rw [hQ];refine zln (by decide) hv1p hVd hVl hSd d1 ?_ hg4 hVpos;have h1 : (g-1)*v2<=(2 ^ 32-1)*(2 ^ 32-1):=zAS (by omega) (by omega);have h2 : 2 ^ 32*2 ^ 32<=(r+zz)*2 ^ 32:=zyL _ hr2;omega
           · refine SLe.trans (hnext _ rfl rfl rfl rfl rfl rfl rfl rfl) (zzj ⟨rfl,rfl,rfl,rfl,rfl,trivial⟩ ⟨mrf rfl,trivial⟩ (fun R hR=>hR))
         · intro hg3;conv=>whnf
           exact ⟨(g-1,r+zz),⟨d1,d2⟩,d3,hnext _ rfl rfl rfl rfl rfl rfl rfl rfl⟩
       · intro hr1;conv=>whnf
         exact ⟨(g-1,r+zz),⟨d1,d2⟩,d3,hnext _ rfl rfl rfl rfl rfl rfl rfl rfl⟩
 · rintro ⟨g,r0⟩ ⟨hgB,hQg,hgQ⟩;clear hor;have hgb64 : IntKind.u64.wrap (g : Int)=(g : Int):=by rw [zAQ]; omega
   refine zy9 zab mixed ?_;conv=>whnf
   refine zAk ?_;refine zy9 zab mixed ?_;conv=>whnf
   refine zAl ?_;refine zAm (ι:=List Nat×Nat×Nat) (fun ⟨D,cy,bo⟩=>⟨[(0,.o (.s 194 0 U.length cap)),(1,.o (.v (.slice A k c))),(2,.o (.v (.int .i64 P0.length))),(7,.o (.v (.int .i64 k))),(9,.o (.v (.int .u64 g))),(11,.o (.v (.int .u64 cy))),(12,.o (.v (u32 bo))),(101,.o (.v (.slice A k c))),(102,.o (.v (.int .i64 k))),(103,.o (.v (.int .i64 D.length)))],[(194,.sym (u32V (P0++(D++(S.drop D.length++R)))++junk) zax)],[zai A (u32V V)]⟩)
     (fun ⟨D,cy,bo⟩=>D.length<=k/\cy<2 ^ 32/\bo<=1/\(∀ x∈D,x<2 ^ 32)/\lv (2 ^ 32) (S.take D.length)+(2 ^ 32) ^ D.length*(cy+bo)=lv (2 ^ 32) D+g*lv (2 ^ 32) (V.take D.length)) (fun ⟨D,cy,bo⟩=>k-D.length) ([],0,0)
     ⟨zyD _,by decide,by decide,(fun x h=>by cases h),by simp [lv]⟩ (zzj ⟨rfl,rfl,rfl,rfl,rfl,rfl,rfl,rfl,rfl,rfl,trivial⟩ ⟨⟨_,rfl,by rw [hU]; exact .refl _⟩,trivial⟩ (fun R hR=>hR)) ?_
   rintro ⟨D,cy,bo⟩ ⟨hD,hcy,hbo,hDb,hinv⟩;refine zy7 zab mixed ?_;conv=>whnf
   refine zaj ?_ ?_
   · intro h
     have hi : D.length<k:=by have : (D.length : Int)<k:=by simpa using h
                              omega
     conv=>whnf
     refine ⟨⟨by omega,by omega,hA⟩,?_⟩;conv=>whnf
     refine zzR u32c zay (zyZ.2 rfl) rfl (by rw [zzS]; omega) (by decide) (fun _=>rfl) ?_;rw [zzS];intro v hv;have hvb : v<2 ^ 32:=hV v (zyq hv);conv=>whnf
     have hij : IntKind.i64.wrap ((P0.length : Int)+(D.length : Int))=((P0.length+D.length : Nat) : Int):=by rw [wrap_i64 (by omega) (by omega)]; omega
     obtain ⟨sj,hsj⟩ : ∃ sj,sj=S.getD D.length 0:=⟨_,rfl⟩;have hsg : S[D.length]?=some sj:=by rw [hsj]; exact zc2 (by omega)
     have hsb : sj<2 ^ 32:=hSb sj (zyq hsg);have hdrop : S.drop D.length=sj::S.drop (D.length+1):=by
       rw [zzd (show D.length<S.length by omega)]
       congr 1
       rw [zyy (show D.length<S.length by omega)] at hsg;exact zz1 hsg
     refine ⟨⟨by rw [hij]; omega,by rw [hij]; omega⟩,?_⟩;conv=>whnf
     refine zA2 u32c zay (k:=P0.length+D.length) (by rw [hij]; show 0+(P0.length+D.length)*1=_; omega) (by rw [hdrop]; simp) (by decide) (fun _=>rfl) ?_;intro s' hs';obtain rfl : s'=sj:=by
       rw [zyg (by omega),zA5,zyg (by omega),zAI,hdrop] at hs';exact (zz1 hs').symm
     conv=>whnf
     have hgv : g*v<=(2 ^ 32-1)*(2 ^ 32-1):=zAS (by omega) (by omega);have hmul : IntKind.u64.wrap ((g : Int)*IntKind.u64.wrap (v : Int))=((g*v : Nat) : Int):=by
       have e1 : IntKind.u64.wrap (v : Int)=(v : Int):=by rw [zAQ]; omega
       rw [e1,<-zAG];generalize g*v=m at hgv ⊢;rw [zAQ]; omega
     obtain ⟨t,ht⟩ : ∃ t,t=cy+g*v:=⟨_,rfl⟩;have htb : t<2 ^ 64:=by rw [ht]; generalize g*v=m at hgv ⊢; omega
     have hsum : IntKind.u64.wrap ((cy : Int)+IntKind.u64.wrap ((g : Int)*IntKind.u64.wrap (v : Int)))=(t : Int):=by
       rw [hmul,ht]; generalize g*v=m at hgv ⊢; rw [zAQ]; omega
     have hlo : IntKind.u32.wrap (IntKind.u64.wrap ((cy : Int)+IntKind.u64.wrap ((g : Int)*IntKind.u64.wrap (v : Int))))=((t%2 ^ 32 : Nat) : Int):=by
       rw [hsum,zAz]; omega
     have hlob : t%2 ^ 32<2 ^ 32:=zyl _ (by decide);refine zzt (zjG s' (t%2 ^ 32) bo hsb hlob hbo) (zyr (fun z=>[SV.o (.v (u32 s')),.o (.v (.int .u32 z)),.o (.v (u32 bo))]) hlo) ?_;conv=>whnf
     refine ⟨⟨by rw [hij]; omega,by rw [hij]; omega⟩,?_⟩;conv=>whnf
     refine ⟨by rw [hij,zz2,zav,hdrop]; show 0+(P0.length+D.length)*1+1<=_; simp; omega,?_⟩;conv=>whnf
     refine ⟨by decide,?_⟩;conv=>whnf
     refine ⟨(D++[(2 ^ 32+s' - t%2 ^ 32-bo)%2 ^ 32],t/2 ^ 32,if s' < t%2 ^ 32+bo then 1 else 0),⟨by simp; omega,by show t/2 ^ 32<2 ^ 32; omega,?_,?_,?_⟩,by simp; omega,?_⟩
     · show (if s' < t%2 ^ 32+bo then 1 else 0)<=1;split <;> omega
     · intro z hz;rcases zyK.1 hz with hz | hz
       · exact hDb z hz
       · rw [zyZ.1 hz]; exact zyl _ (by decide)
     · rw [zz2,ht];exact zsD (by decide) rfl hbo hsb hinv hsg hv
     · refine zzj ⟨rfl,rfl,rfl,rfl,rfl,?_,rfl,rfl,rfl,?_,trivial⟩ ⟨⟨_,rfl,?_⟩,trivial⟩ (fun R hR=>hR)
       · show some (SV.o (.v (.int _ (Int.fdiv (IntKind.u64.wrap ((cy : Int)+IntKind.u64.wrap ((g : Int)*IntKind.u64.wrap (v : Int)))) (2 ^ min (32 : Int).toNat IntKind.u64.bits)))))=some (SV.o (.v (.int _ ((t/2 ^ 32 : Nat) : Int))));rw [hsum,show min (32 : Int).toNat IntKind.u64.bits=32 from rfl,zAO _ (by decide)]; rfl
       · show some (SV.o (.v (.int _ (IntKind.i64.wrap ((D.length : Int)+1)))))=some (SV.o (.v (.int _ (((D++[_]).length : Nat) : Int))));rw [wrap_i64 (by omega) (by omega),zz2]; rfl
       · show MEle (ME.sym (putN (0+(IntKind.i64.wrap ((P0.length : Int)+(D.length : Int))).toNat*1) [Value.int .u32 _] (rowV u32c (P0++(D++(S.drop D.length++R)))++junk)) _)
           (ME.sym (rowV u32c (P0++((D++[(2 ^ 32+s' - t%2 ^ 32-bo)%2 ^ 32])++(S.drop (D++[_]).length++R)))++junk) _)
         rw [hij,hdrop,zz2,<-zyF P0 D,zyw,zfV (P0++D) _ _ _ _ (by simp; omega)];simp only [zyF];exact .refl _
   · intro h
     have hi : D.length=k:=by have : ¬(D.length : Int)<k:=by simpa using h
                              omega
     have hvt : lv (2 ^ 32) (V.take D.length)=lv (2 ^ 32) V:=by rw [zyJ (by omega)]
     rw [hvt] at hinv;conv=>whnf
     refine WPS.cut zab mixed (ι:=Nat×Nat) (fun ⟨d,b'⟩=>⟨[(0,.o (.s 194 0 U.length cap)),(1,.o (.v (.slice A k c))),(2,.o (.v (.int .i64 P0.length))),(7,.o (.v (.int .i64 k))),(9,.o (.v (.int .u64 g))),(12,.o (.v (u32 b')))],[(194,.sym (u32V (P0++((D++[d])++R))++junk) zax)],[zai A (u32V V)]⟩)
       (fun ⟨d,b'⟩=>d<2 ^ 32/\b'<=1/\lv (2 ^ 32) S+(2 ^ 32) ^ (k+1)*b'=lv (2 ^ 32) (D++[d])+g*lv (2 ^ 32) V) ?_ ?_
     · have hsk : S[k]?=some x:=by rw [hu0]; exact zc2 (by omega)
       have hdrop : S.drop D.length=[x]:=by
         rw [hi,zzd (show k<S.length by omega),zzQ (by omega)]
         congr 1
         rw [zyy (show k<S.length by omega)] at hsk;exact zz1 hsk
       conv=>whnf
       refine ⟨by rw [hik]; omega,?_⟩;conv=>whnf
       refine zA2 u32c zay (k:=P0.length+k) (by rw [hik]; show 0+(P0.length+k)*1=_; omega) (by rw [hdrop]; simp; omega) (by decide) (fun _=>rfl) ?_;intro s' hs';obtain rfl : s'=x:=by
         rw [zyg (by omega),zA5,zyg (by omega),hdrop,hi,zAI] at hs';exact (zz1 hs').symm
       conv=>whnf
       have hlo : IntKind.u32.wrap (cy : Int)=((cy : Nat) : Int):=by rw [zAz]; omega
       refine zzt (zjG s' cy bo hu0b hcy hbo) (zyr (fun z=>[SV.o (.v (u32 s')),.o (.v (.int .u32 z)),.o (.v (u32 bo))]) hlo) ?_;conv=>whnf
       refine ⟨by rw [hik]; omega,?_⟩;conv=>whnf
       refine ⟨by rw [hik,zz2,zav,hdrop]; show 0+(P0.length+k)*1+1<=_; simp; omega,?_⟩;conv=>whnf
       refine ⟨((2 ^ 32+s' - cy-bo)%2 ^ 32,if s' < cy+bo then 1 else 0),⟨zyl _ (by decide),by show (if s' < cy+bo then 1 else 0)<=1; split <;> omega,?_⟩,?_⟩
       · have h1:=znW (B:=2 ^ 32) (x:=s') (c:=cy) (b:=bo) (D:=D) (S:=S) (k:=k) hi hcy hu0b hbo hS hsk hinv;exact h1
       · refine zzj ⟨rfl,rfl,rfl,rfl,rfl,rfl,trivial⟩ ⟨⟨_,rfl,?_⟩,trivial⟩ (fun R hR=>hR);show MEle (ME.sym (putN (0+(IntKind.i64.wrap ((P0.length : Int)+(k : Int))).toNat*1) [Value.int .u32 _] (rowV u32c (P0++(D++(S.drop D.length++R)))++junk)) _)
           (ME.sym (rowV u32c (P0++((D++[(2 ^ 32+s' - cy-bo)%2 ^ 32])++R))++junk) _)
         rw [hik,hdrop,<-zyF P0 D,zyw,zfV (P0++D) _ _ _ _ (by simp; omega)];simp only [zyF,zzJ];exact .refl _
     · rintro ⟨d,b'⟩ ⟨hdB,hb',hfin⟩;obtain ⟨D',hD'⟩ : ∃ D',D'=D++[d]:=⟨_,rfl⟩;have hDl : D'.length=k+1:=by rw [hD',zz2,hi]; rfl
       have hDB : ∀ x∈D',x<2 ^ 32:=by
         rw [hD']; intro z hz;rcases zyK.1 hz with hz | hz
         · exact hDb z hz
         · rw [zyZ.1 hz]; exact hdB
       have hDlt:=zfQ (B:=2 ^ 32) (by decide) D' hDB;rw [hDl] at hDlt;have hVlt:=zfQ (B:=2 ^ 32) (by decide) V hV;rw [<-hkk] at hVlt;have hSmod:=zAw (lv (2 ^ 32) S) (lv (2 ^ 32) V);have hSr:=zyl (lv (2 ^ 32) S) hVpos;rw [<-hQ] at hSmod;rw [<-hD'] at hfin;refine zy9 zab mixed ?_;conv=>whnf
       refine zaj ?_ ?_
       · intro hc
         have hb0 : b'=0:=by have : (b' : Int)=0:=eq_of_beq hc
                             omega
         subst hb0;have hg : g=Q:=by rw [hQ]; exact (zly (by rw [<-hQ]; exact hQg) (by rw [<-hQ]; exact hgQ) hVpos).1 (by omega)
         have hval : lv (2 ^ 32) D'=lv (2 ^ 32) S%lv (2 ^ 32) V:=by
           rw [hg] at hfin; rw [zzG] at hSmod; omega
         conv=>whnf
         refine ⟨?_,?_⟩
         · show [SV.o (.v (.int .u32 (IntKind.u32.wrap (g : Int))))]=_;rw [zAz,show (g : Int)%4294967296=(g : Int) by omega,hg,hQ]
         · show some (ME.sym (u32V (P0++((D++[d])++R))++junk) zax)=_;rw [<-hD',<-hval,<-hDl,zkv (by decide) D' hDB]
       · intro hc
         have hb1 : b'=1:=by have : ¬(b' : Int)=0:=ne_of_beq_false hc
                             omega
         subst hb1;have hg : g=Q+1:=by rw [hQ]; exact (zly (by rw [<-hQ]; exact hQg) (by rw [<-hQ]; exact hgQ) hVpos).2 (by omega)
         conv=>whnf
         refine zy7 zab mixed ?_;conv=>whnf
         refine zal (ι:=List Nat×Nat) (fun ⟨E,t⟩=>⟨[(0,.o (.s 194 0 U.length cap)),(1,.o (.v (.slice A k c))),(2,.o (.v (.int .i64 P0.length))),(7,.o (.v (.int .i64 k))),(9,.o (.v (.int .u64 g))),(15,.o (.v (u32 t))),(157,.o (.v (.slice A k c))),(158,.o (.v (.int .i64 k))),(159,.o (.v (.int .i64 E.length)))],[(194,.sym (u32V (P0++(E++(D'.drop E.length++R)))++junk) zax)],[zai A (u32V V)]⟩)
           (fun ⟨E,t⟩=>E.length<=k/\t<=1/\(∀ x∈E,x<2 ^ 32)/\lv (2 ^ 32) E+(2 ^ 32) ^ E.length*t=lv (2 ^ 32) (D'.take E.length)+lv (2 ^ 32) (V.take E.length)) (fun ⟨E,t⟩=>k-E.length) ([],0)
           ⟨zyD _,by decide,(fun x h=>by cases h),by simp [lv]⟩ (zzj ⟨rfl,rfl,rfl,rfl,rfl,rfl,rfl,rfl,rfl,trivial⟩ ⟨⟨_,rfl,by rw [hD']; exact .refl _⟩,trivial⟩ (fun R hR=>hR)) ?_
         rintro ⟨E,t⟩ ⟨hE,ht,hEb,hinv2⟩;conv=>whnf
         refine zaj ?_ ?_
         · intro h
           have hi2 : E.length<k:=by have : (E.length : Int)<k:=by simpa using h
                                     omega
           conv=>whnf
           refine ⟨⟨by omega,by omega,hA⟩,?_⟩;conv=>whnf
           refine zzR u32c zay (zyZ.2 rfl) rfl (by rw [zzS]; omega) (by decide) (fun _=>rfl) ?_;rw [zzS];intro v hv;have hvb : v<2 ^ 32:=hV v (zyq hv);conv=>whnf
           have hij : IntKind.i64.wrap ((P0.length : Int)+(E.length : Int))=((P0.length+E.length : Nat) : Int):=by rw [wrap_i64 (by omega) (by omega)]; omega
           obtain ⟨sj,hsj⟩ : ∃ sj,sj=D'.getD E.length 0:=⟨_,rfl⟩;have hsg : D'[E.length]?=some sj:=by rw [hsj]; exact zc2 (by omega)
           have hsb : sj<2 ^ 32:=hDB sj (zyq hsg);have hdrop : D'.drop E.length=sj::D'.drop (E.length+1):=by
             rw [zzd (show E.length<D'.length by omega)]
             congr 1
             rw [zyy (show E.length<D'.length by omega)] at hsg;exact zz1 hsg
           refine ⟨by rw [hij]; omega,?_⟩;conv=>whnf
           refine zA2 u32c zay (k:=P0.length+E.length) (by rw [hij]; show 0+(P0.length+E.length)*1=_; omega) (by rw [hdrop]; simp) (by decide) (fun _=>rfl) ?_;intro s' hs';obtain rfl : s'=sj:=by
             rw [zyg (by omega),zA5,zyg (by omega),zAI,hdrop] at hs';exact (zz1 hs').symm
           conv=>whnf
           refine zzt (zuX s' v t hsb hvb ht) rfl ?_;conv=>whnf
           refine ⟨by rw [hij]; omega,?_⟩;conv=>whnf
           refine ⟨by rw [hij,zz2,zav,hdrop]; show 0+(P0.length+E.length)*1+1<=_; simp; omega,?_⟩;conv=>whnf
           refine ⟨(E++[(s'+v+t)%2 ^ 32],(s'+v+t)/2 ^ 32),⟨by simp; omega,by show (s'+v+t)/2 ^ 32<=1; omega,?_,?_⟩,by simp; omega,?_⟩
           · intro z hz;rcases zyK.1 hz with hz | hz
             · exact hEb z hz
             · rw [zyZ.1 hz]; exact zyl _ (by decide)
           · rw [zz2];exact zpr (by decide) rfl hinv2 hsg hv
           · refine zzj ⟨rfl,rfl,rfl,rfl,rfl,rfl,rfl,rfl,?_,trivial⟩ ⟨⟨_,rfl,?_⟩,trivial⟩ (fun R hR=>hR)
             · show some (SV.o (.v (.int _ (IntKind.i64.wrap ((E.length : Int)+1)))))=some (SV.o (.v (.int _ (((E++[_]).length : Nat) : Int))));rw [wrap_i64 (by omega) (by omega),zz2]; rfl
             · show MEle (ME.sym (putN (0+(IntKind.i64.wrap ((P0.length : Int)+(E.length : Int))).toNat*1) [Value.int .u32 _] (rowV u32c (P0++(E++(D'.drop E.length++R)))++junk)) _)
                 (ME.sym (rowV u32c (P0++((E++[(s'+v+t)%2 ^ 32])++(D'.drop (E++[_]).length++R)))++junk) _)
               rw [hij,hdrop,zz2,<-zyF P0 E,zyw,zfV (P0++E) _ _ _ _ (by simp; omega)];simp only [zyF];exact .refl _
         · intro h
           have hi2 : E.length=k:=by have : ¬(E.length : Int)<k:=by simpa using h
                                     omega
           have hdrop : D'.drop E.length=[d]:=by rw [hD',hi2,<-hi]; simp
           have htk : D'.take E.length=D:=by rw [hD',hi2,<-hi]; simp
           rw [htk,zyJ (show V.length<=E.length by omega)] at hinv2;conv=>whnf
           refine ⟨by rw [hik]; omega,?_⟩;conv=>whnf
           refine zA2 u32c zay (k:=P0.length+k) (by rw [hik]; show 0+(P0.length+k)*1=_; omega) (by rw [hdrop]; simp; omega) (by decide) (fun _=>rfl) ?_;intro s' hs';obtain rfl : s'=d:=by
             rw [zyg (by omega),zA5,zyg (by omega),hdrop,hi2,zAI] at hs';exact (zz1 hs').symm
           conv=>whnf
           refine ⟨by rw [hik]; omega,?_⟩;conv=>whnf
           refine ⟨by rw [hik,zz2,zav,hdrop]; show 0+(P0.length+k)*1+1<=_; simp; omega,?_⟩;conv=>whnf
           refine ⟨?_,?_⟩
           · show [SV.o (.v (.int .u32 (IntKind.u32.wrap (IntKind.u64.wrap ((g : Int)-1)))))]=_;have e1 : IntKind.u64.wrap ((g : Int)-1)=(Q : Int):=by rw [zAQ]; omega
             rw [e1,zAz,show (Q : Int)%4294967296=(Q : Int) by omega,hQ]
           · show some (ME.sym (putN (0+(IntKind.i64.wrap ((P0.length : Int)+(k : Int))).toNat*1) [Value.int .u32 (IntKind.u32.wrap ((s' : Int)+(t : Int)))] (rowV u32c (P0++(E++(D'.drop E.length++R)))++junk)) zax)=_;have e2 : IntKind.u32.wrap ((s' : Int)+(t : Int))=(((s'+t)%2 ^ 32 : Nat) : Int):=by rw [zAz]; omega
             have hres : lv (2 ^ 32) (E++[(s'+t)%2 ^ 32])=lv (2 ^ 32) S%lv (2 ^ 32) V:=by
               refine zqm (D:=D') (d:=s') (D':=lv (2 ^ 32) D) (by decide) hi2 hEb (by rw [<-hi2]; exact hinv2) (by rw [hD',zcv,hi]) ?_ hQ hVlt hVpos;rw [<-hg]; rw [zyR] at hfin; exact hfin
             rw [e2,hik,hdrop,<-zyF P0 E,zyw,zfV (P0++E) _ _ _ _ (by simp; omega),<-hres];have hl3 : (E++[(s'+t)%2 ^ 32]).length=k+1:=by rw [zz2,hi2]; rfl
             rw [<-hl3,zkv (by decide) _ (by
               intro z hz;rcases zyK.1 hz with hz | hz
               · exact hEb z hz
               · rw [zyZ.1 hz]; exact zyl _ (by decide))]
             simp only [zyF,zzJ]
abbrev zA7:=@List.length_replicate
theorem zt0 {B m i k r : Nat} (hB : 0<B) (hm : i+k<=m) (hr : r<B ^ (i+k)) :
  ∃ P S R,pad B m r=P++(S++R)/\P.length=i/\S.length=k/\(∀ x∈P,x<B)/\(∀ x∈S,x<B)/\lv B S=r/B ^ i /\
   ∀ s,s<B ^ k->P++(pad B k s++R)=pad B m (r%B ^ i+B ^ i*s):=by
 have hBm : B ^ (i+k)<=B ^ m:=zAa hB hm;have hval : lv B (pad B m r)=r:=by rw [zgK hB,zye (by omega)]
 have hlt:=zhr hB m r;obtain ⟨l,hl⟩ : ∃ l,l=pad B m r:=⟨_,rfl⟩;have hll : l.length=m:=by rw [hl,zaF]
 rw [<-hl] at hval hlt ⊢;refine ⟨l.take i,(l.drop i).take k,(l.drop i).drop k,by rw [zz0,zz0],by rw [zyI]; omega,by rw [zyI,zzw]; omega,fun x hx=>hlt x (zxP hx),fun x hx=>hlt x (zxQ (zxP hx)),?_,?_⟩
 all_goals
  have hR : lv B ((l.drop i).drop k)=0:=by
   rw [zze,<-zgr hB hlt _ (by omega),hval,zzB hr]
  have hP : lv B (l.take i)<B ^ i:=by
   have:=zfQ hB (l.take i) (fun x hx=>hlt x (zxP hx));rwa [zyI,zAs (by omega)] at this
  have h1 : lv B (l.drop i)=r/B ^ i:=by rw [<-zgr hB hlt _ (by omega),hval]
  have h2 : lv B (l.drop i)=lv B ((l.drop i).take k):=by
   conv=>lhs; rw [<-zz0 k (l.drop i),zbL,hR]
   omega
  have h3 : lv B (l.take i)=r%B ^ i:=by
   have h4 : r=lv B (l.take i)+B ^ i*lv B (l.drop i):=by
    conv=>lhs; rw [<-hval,<-zz0 i l,zbL,zyI,zAs (by omega)]
   rw [h4,zAy,zye hP]
 ·rw [<-h2,h1]
 ·intro s hs;have h5 : ∀ x∈l.take i++(pad B k s++(l.drop i).drop k),x<B:=by
   intro x hx;rcases zyK.1 hx with hx | hx
   ·exact hlt x (zxP hx)
   ·rcases zyK.1 hx with hx | hx
    ·exact zhr hB _ _ x hx
    ·exact hlt x (zxQ (zxQ hx))
  have h6:=zkv hB _ h5;rw [zbL,zbL,hR,zyI,zAs (by omega),zgK hB,zye hs,h3,zzM,zxL] at h6;rw [<-h6]
  congr 1
  simp only [zz2,zyI,zzw,zaF];omega
theorem zrC {B v N i : Nat} (hB : 0<B) (hv : 0<v) :
  N%(B ^ (i+1)*v)/(B ^ i*v)=N/(B ^ i*v)%B/\N%(B ^ (i+1)*v)%(B ^ i*v)=N%(B ^ i*v)/\N/(B ^ (i+1)*v)=N/(B ^ i*v)/B:=by
 have e : B ^ (i+1)*v=(B ^ i*v)*B:=by rw [zzD]; exact Nat.mul_right_comm _ _ _
 rw [e];refine ⟨?_,?_,(zAt _ _ _).symm⟩
 ·rw [Nat.mod_mul_right_div_self]
 ·exact Nat.mod_mul_right_mod _ _ _
theorem zpk {B v r i : Nat} : r%B ^ i+B ^ i*(r/B ^ i%v)=r%(B ^ i*v):=by rw [Nat.mod_mul]
theorem zqD {B v r i : Nat} : r/B ^ i/v=r/(B ^ i*v):=zAt _ _ _
theorem zpH {k q t n : Nat} {B : Nat} (hB : B=2 ^ 32) (hk : 0<k) (ht : t=(digs B q).getD (k-1) 0) (hkl : k=(digs B q).length) (hn : t*2 ^ n<2 ^ 32) (hn2 : 2 ^ 31<=t*2 ^ n) :
  q*2 ^ n<B ^ k/\2 ^ 31*B ^ (k-1)<=q*2 ^ n:=by
 have hB2 : 2<=B:=by rw [hB]; decide
 have hq:=zbN hB2 q;have hlt:=zb1 hB2 q;obtain ⟨l,hl⟩ : ∃ l,l=digs B q:=⟨_,rfl⟩;rw [<-hl] at hq hlt ht hkl;obtain ⟨j,rfl⟩ : ∃ j,k=j+1:=⟨k-1,by omega⟩;rw [zAZ] at ht ⊢;have h1 : l=l.take j++[t]:=by
  conv=>lhs; rw [<-zz0 j l]
  congr 1
  rw [zzd (by omega),zzQ (by omega),ht,zzO,zyy (by omega)];rfl
 have h2 : lv B l=lv B (l.take j)+B ^ j*t:=by
  conv=>lhs; rw [h1,zbL,zyI,zAs (by omega)]
  simp [lv]
 have h3 : lv B (l.take j)<B ^ j:=by
  have:=zfQ (show 0<B by omega) (l.take j) (fun x hx=>hlt x (zxP hx));rwa [zyI,zAs (by omega)] at this
 have hqe : q=lv B (l.take j)+B ^ j*t:=by rw [<-hq,h2]
 have hpn : 0<2 ^ n:=zAv (by decide);constructor
 ·have h4 : q<B ^ j*(t+1):=by rw [zzE]; omega
  have h5 : q*2 ^ n<B ^ j*(t+1)*2 ^ n:=zAV h4 hpn;have h6 : (t+1)*2 ^ n<=B:=by
   rw [hB];have hd : (2:Nat) ^ 32=2 ^ (32-n)*2 ^ n:=by
    rw [<-zAg]; congr 1;by_cases hn3 : n<=32
    ·omega
    ·exfalso;have h7 : 2 ^ 32<=2 ^ n:=zAa (by decide) (by omega);have h8 : 0<t:=by
      rcases zyf t with h9 | h9
      ·rw [h9] at hn2; omega
      ·exact h9
     have : 1*2 ^ n<=t*2 ^ n:=zyL _ h8;omega
   rw [hd] at hn ⊢;have : t<2 ^ (32-n):=Nat.lt_of_mul_lt_mul_right hn;exact zyL _ this
  have h7 : B ^ j*(t+1)*2 ^ n<=B ^ (j+1):=by
   rw [zzF,zzD]; exact zzH _ h6
  omega
 ·have h4 : B ^ j*t<=q:=by omega
  have h5 : B ^ j*t*2 ^ n<=q*2 ^ n:=zyL _ h4;have h6 : B ^ j*2 ^ 31<=B ^ j*(t*2 ^ n):=zzH _ hn2;rw [<-zzF] at h6;rw [zzG]; omega

theorem zmP (A D : Option Addr) (c d : Nat) (p q : Nat) (hq : 0<q) (hlp : (digs (2 ^ 32) p).length<=100000000000) (hlq : (digs (2 ^ 32) q).length<=100000000000) :
   FnM PP 235 [.slice A (digs (2 ^ 32) p).length c,.slice D (digs (2 ^ 32) q).length d] (facts [zai A (u32V (digs (2 ^ 32) p)),zai D (u32V (digs (2 ^ 32) q))])
     (zsj (.slice A (digs (2 ^ 32) p).length c) (u32V (digs (2 ^ 32) p)) (digs (2 ^ 32) p).length zax 1 (digs (2 ^ 32) (p/q)).length (u32V (digs (2 ^ 32) (p/q))) (digs (2 ^ 32) (p%q)).length (u32V (digs (2 ^ 32) (p%q)))):=by
 refine FnD.of zab mixed Tryz.func235 rfl rfl (zxW rfl) (by simp [zzk]) ?_;intro w hw;conv=>whnf
 have hcs:=zh9 p q A D c d (by omega) (by omega);refine zzr hcs.enters (zzq hcs rfl (fun R hR=>hR)) ?_;conv=>whnf
 refine zaj ?_ ?_
 · intro h;have hlt : p<q:=by
     have : cmpN p q<0:=zA0 h;unfold cmpN at this; split at this
     · assumption
     · split at this <;> omega
   conv=>whnf
   refine .inr ⟨rfl,?_⟩;rw [zzB hlt,zye hlt,zbg];exact ⟨rfl,rfl,rfl,rfl⟩
 · intro h;have hle : q<=p:=by
     have : ¬cmpN p q<0:=zA1 h;unfold cmpN at this; split at this
     · omega
     · omega
   conv=>whnf
   refine zaj ?_ ?_
   · intro h1;have hl1 : (digs (2 ^ 32) q).length=1:=by
       have : ((digs (2 ^ 32) q).length : Int)=1:=eq_of_beq h1;omega
     have hq1 : digs (2 ^ 32) q=[q]:=by
       have e1:=zbN (B:=2 ^ 32) (by decide) q
       match hd : digs (2 ^ 32) q,hl1 with
       | [x],_=>rw [hd] at e1; simp [lv] at e1; rw [e1]
     have hqb : q<2 ^ 32:=zb1 (by decide) q q (by rw [hq1]; simp);have hD : D.isSome=true:=zam (zbz hw).2 (by rw [zav]; omega);conv=>whnf
     refine ⟨⟨by decide,by omega,hD⟩,?_⟩;conv=>whnf
     refine zzR u32c zay (zxB _ (zyZ.2 rfl)) rfl (by rw [hl1]; decide) (by decide) (fun _=>rfl) ?_;intro x hx;obtain rfl : x=q:=by rw [hq1] at hx; exact (zz1 hx).symm
     conv=>whnf
     have hsh:=zui A c (digs (2 ^ 32) p) x (zb1 (by decide) p) hq hqb hlp;rw [zbN (by decide)] at hsh;refine zzZ 26 hsh.enters (zzq hsh rfl (fun R hR=>zy1.2 (.inl (zyZ.1 hR)))) rfl rfl ?_;conv=>whnf
     have hr:=zyl p hq;have htr : tr [p%x]=digs (2 ^ 32) (p%x):=by
       rw [zgM (B:=2 ^ 32) (by decide) (by intro y hy; rw [zyZ.1 hy]; omega)]; simp [lv]
     have hn1:=zck [p%x];rw [htr] at hn1;refine zae.cutB 32 (t:=zax) (es:=1) (n:=1) (n':=(digs (2 ^ 32) (p%x)).length) (cp:=1) (xs:=u32V [p%x]) (fun A c hc=>?_) rfl rfl hn1 (by decide) (by decide) rfl rfl rfl ?_ rfl
     · have:=zez A c [p%x] hc (by simp);rw [htr] at this; exact this
     · conv=>whnf
       refine .inl ⟨26,32,rfl,by decide,rfl,?_⟩;show some (ME.own zax 1 _ ((rowV u32c [p%x]).take ((digs (2 ^ 32) (p%x)).length*1)))=_;rw [zbh zay,<-htr,zc7]
   · intro h1;obtain ⟨k,hk⟩ : ∃ k,k=(digs (2 ^ 32) q).length:=⟨_,rfl⟩;obtain ⟨m,hm⟩ : ∃ m,m=(digs (2 ^ 32) p).length:=⟨_,rfl⟩;have hk2 : 2<=k:=by
       have h2 : ¬((digs (2 ^ 32) q).length : Int)=1:=ne_of_beq_false h1;have h3 : digs (2 ^ 32) q≠[]:=fun e=>by have:=(zhf (by decide)).1 e; omega
       have:=List.length_pos_iff.2 h3;omega
     have hmk : k<=m:=by
       rw [hk,hm];exact zbc (by decide) (zAc hle (zbF (by decide)))
     have hD : D.isSome=true:=zam (zbz hw).2 (by rw [zav]; omega);have hqlt:=zb1 (B:=2 ^ 32) (by decide) q;have hplt:=zb1 (B:=2 ^ 32) (by decide) p;obtain ⟨t,ht⟩ : ∃ t,t=(digs (2 ^ 32) q).getD (k-1) 0:=⟨_,rfl⟩;have htg : (digs (2 ^ 32) q)[k-1]?=some t:=by rw [ht]; exact zc2 (by omega)
     have htb : t<2 ^ 32:=hqlt t (zyq htg);have ht0 : 0<t:=by
       have:=zlt (B:=2 ^ 32) (by decide) q;rw [zAu,<-hk,htg] at this;rcases zyf t with h0 | h0
       · rw [h0] at this; exact absurd rfl this
       · exact h0
     obtain ⟨n,hn⟩ : ∃ n,n=32-blen t:=⟨_,rfl⟩;have hb1:=zlU t;have hb2:=zjL ht0;have hb3:=zlY htb;have hn32 : n<32:=by omega
     have hlead : t*2 ^ n<2 ^ 32/\2 ^ 31<=t*2 ^ n:=by
       have e1 : (2 : Nat) ^ 32=2 ^ blen t*2 ^ n:=by rw [<-zAg]; congr 1; omega
       have e2 : (2 : Nat) ^ 31=2 ^ (blen t-1)*2 ^ n:=by rw [<-zAg]; congr 1; omega
       rw [e1,e2];exact ⟨zAV hb1 (zAv (by decide)),zyL _ hb2.1⟩
     have hnorm:=zpH (k:=k) (q:=q) (t:=t) (n:=n) rfl (by omega) ht hk hlead.1 hlead.2;have hk1 : IntKind.i64.wrap ((k : Int)-1)=((k-1 : Nat) : Int):=by rw [wrap_i64 (by omega) (by omega)]; omega
     conv=>whnf
     refine ⟨⟨by rw [<-hk,hk1]; omega,by rw [<-hk,hk1]; omega,hD⟩,?_⟩;conv=>whnf
     refine zzR u32c zay (zxB _ (zyZ.2 rfl)) rfl (by rw [<-hk,hk1,zzS]; omega) (by decide) (fun _=>rfl) ?_;rw [<-hk,hk1,zzS];intro x hx;obtain rfl : x=t:=by rw [htg] at hx; exact (zz1 hx).symm
     conv=>whnf
     have hlz:=zgN x htb;rw [<-hn] at hlz;refine zzt hlz rfl ?_;conv=>whnf
     have hs1:=zo1 A c (digs (2 ^ 32) p) n hplt hn32 hlp;rw [zbN (by decide)] at hs1;refine zzs 42 hs1.enters (zzq hs1 rfl (fun R hR=>zy1.2 (.inl (zyZ.1 hR)))) rfl rfl ?_;conv=>whnf
     have hs2:=zo1 D d (digs (2 ^ 32) q) n hqlt hn32 hlq;rw [zbN (by decide),<-hk] at hs2;refine zzs 45 hs2.enters (zzq hs2 rfl (fun R hR=>zy1.2 (.inr hR))) rfl rfl ?_;conv=>whnf
     obtain ⟨v,hv⟩ : ∃ v,v=q*2 ^ n:=⟨_,rfl⟩;rw [<-hv] at hnorm;have hvpos : 0<v:=zxw (zyN (by decide) (zAv (by decide))) hnorm.2;have hpk : (2 ^ 32) ^ (k-1)<=v:=by
       have : 1*(2 ^ 32) ^ (k-1)<=2 ^ 31*(2 ^ 32) ^ (k-1):=zyL _ (by decide);omega
     have hVp : pad (2 ^ 32) k v=digs (2 ^ 32) v:=zmG (by decide) hnorm.1 (.inr hpk);have hVl : (digs (2 ^ 32) v).length=k:=by rw [<-hVp,zaF]
     have hVlt:=zb1 (B:=2 ^ 32) (by decide) v;have hVlv:=zbN (B:=2 ^ 32) (by decide) v;have htrV : tr (pad (2 ^ 32) (k+1) v)=digs (2 ^ 32) v:=by
       rw [zgM (B:=2 ^ 32) (by decide) (zhr (by decide) _ _),zgK (by decide),zye (zxw hnorm.1 (zAa (by decide) (by omega)))]
     refine zzY (n:=k+1) (xs:=u32V (pad (2 ^ 32) (k+1) (q*2 ^ n))) (n':=k) 46 (fun A c hc=>?_) rfl (by omega) rfl rfl ?_ rfl
     · have:=zez A c (pad (2 ^ 32) (k+1) v) (by rw [zaF]; exact hc) (by rw [zaF]; omega);rw [htrV,hVl,zaF] at this;rw [<-hv]; exact this
     have hVtake : (u32V (pad (2 ^ 32) (k+1) (q*2 ^ n))).take (k*1)=u32V (digs (2 ^ 32) v):=by
       have:=zc7 (pad (2 ^ 32) (k+1) v);rw [htrV,hVl] at this;rw [<-hv,zbh zay,this]
     have hml : IntKind.i64.wrap (((m+1 : Nat) : Int)-(k : Int))=((m+1-k : Nat) : Int):=by rw [wrap_i64 (by omega) (by omega)]; omega
     rw [hVtake];rw [<-hm];conv=>whnf
     rw [hml];refine ⟨⟨by omega,by omega,by show (4 : Int)*_<=_; omega,by omega⟩,?_⟩;conv=>whnf
     obtain ⟨N,hN⟩ : ∃ N,N=p*2 ^ n:=⟨_,rfl⟩;rw [<-hN];have hp1 : p<(2 ^ 32) ^ m:=by rw [hm]; exact zbF (by decide)
     have hNlt : N<(2 ^ 32) ^ (m+1-k)*v:=by
       have e1 : N<(2 ^ 32) ^ m*2 ^ 31:=by
         have h1 : p*2 ^ n<(2 ^ 32) ^ m*2 ^ n:=zAV hp1 (zAv (by decide));have h2 : (2 ^ 32) ^ m*2 ^ n<=(2 ^ 32) ^ m*2 ^ 31:=zzH _ (zAa (by decide) (by omega));rw [hN]; omega
       have e2 : (2 ^ 32) ^ (m+1-k)*(2 ^ 31*(2 ^ 32) ^ (k-1))<=(2 ^ 32) ^ (m+1-k)*v:=zzH _ hnorm.2;have e3 : ((2 ^ 32) ^ (m+1-k)*(2 ^ 31*(2 ^ 32) ^ (k-1)) : Nat)=(2 ^ 32) ^ m*2 ^ 31:=by
         have : m=(m+1-k)+(k-1):=by omega
         conv=>rhs; rw [this]
         rw [zAg,zzF,zzG (2 ^ 31)]
       omega
     refine zal (ι:=Nat) (fun j=>⟨[(8,.o (.v (.int .i64 n))),(9,.o (.w 42)),(10,.o (.w 46)),(11,.o (.w 52)),(12,.o (.v (.int .i64 ((j : Int)-1))))],[(42,.own zax 1 (m+1) (u32V (pad (2 ^ 32) (m+1) (N%((2 ^ 32) ^ j*v))))),(46,.own zax 1 k (u32V (digs (2 ^ 32) v))),(52,.own zax 1 (m+1-k) (u32V (List.replicate j 0++pad (2 ^ 32) (m+1-k-j) (N/((2 ^ 32) ^ j*v)))))],[zai A (u32V (digs (2 ^ 32) p)),zai D (u32V (digs (2 ^ 32) q))]⟩)
       (fun j=>j<=m+1-k) (fun j=>j) (m+1-k) (zxr _) (zzj ⟨rfl,rfl,rfl,rfl,?_,trivial⟩ ⟨⟨_,rfl,?_⟩,mrf rfl,⟨_,rfl,?_⟩,trivial⟩ (fun R hR=>hR)) ?_
     · show some (SV.o (.v (.int _ (IntKind.i64.wrap (((m+1-k : Nat) : Int)-1)))))=some (SV.o (.v (.int _ (((m+1-k : Nat) : Int)-1))));rw [wrap_i64 (by omega) (by omega)]
     · rw [zye hNlt]; exact .refl _
     · rw [zAI,zzS];simp only [ME.ren,u32V,pad,List.range_zero,zyt,zyP,zb4];exact .refl _
     intro j hj;conv=>whnf
     refine zaj ?_ ?_
     · intro h
       have hj0 : 0<j:=by have : (0 : Int)<=(j : Int)-1:=zA0 h
                          omega
       conv=>whnf
       obtain ⟨i,rfl⟩ : ∃ i,j=i+1:=⟨j-1,by omega⟩;have hvk : v<(2 ^ 32) ^ k:=hnorm.1;obtain ⟨r,hr⟩ : ∃ r,r=N%((2 ^ 32) ^ (i+1)*v):=⟨_,rfl⟩;have hvp2 : 0<(2 ^ 32) ^ (i+1)*v:=zyN (zAv (by decide)) hvpos;have hrlt : r<(2 ^ 32) ^ (i+1)*v:=by rw [hr]; exact zyl _ hvp2
       have hrk : r<(2 ^ 32) ^ (i+(k+1)):=by
         have h1 : (2 ^ 32) ^ (i+1)*v<(2 ^ 32) ^ (i+1)*(2 ^ 32) ^ k:=Nat.mul_lt_mul_of_pos_left hvk (zAv (by decide));rw [<-zAg] at h1;rw [show i+(k+1)=i+1+k by omega]; omega
       obtain ⟨P,S,R,hcut,hPl,hSl,hPb,hSb,hSv,hback⟩:=zt0 (B:=2 ^ 32) (m:=m+1) (i:=i) (k:=k+1) (r:=r) (by decide) (by omega) hrk;have hfit : lv (2 ^ 32) S<2 ^ 32*v:=by
         rw [hSv,zz5 (zAv (by decide))];rw [zzD] at hrlt;have : (2 ^ 32) ^ i*2 ^ 32*v=2 ^ 32*v*(2 ^ 32) ^ i:=by rw [zzF]; exact zzG _ _
         omega
       obtain ⟨hs1,hs2,hs3⟩:=zrC (B:=2 ^ 32) (v:=v) (N:=N) (i:=i) (by decide) hvpos;rw [<-hr] at hs1 hs2;have hdig : ∀ A c,k<=c->FnW PP 269 (.slice A k c::[.int .i64 ((((i+1 : Nat) : Int))-1)]) [zai A (u32V (digs (2 ^ 32) v))] zax (m+1) (u32V (pad (2 ^ 32) (m+1) r)) (u32V (pad (2 ^ 32) (m+1) (N%((2 ^ 32) ^ i*v)))) (u32 (N/((2 ^ 32) ^ i*v)%2 ^ 32)):=by
         intro A c hc;have hl : (P++(S++R)).length=m+1:=by rw [<-hcut,zaF]
         have:=ztC A c (digs (2 ^ 32) v) P S R (by omega) (by omega) hVlt hPb hSb (by
           have h0:=zlt (B:=2 ^ 32) (by decide) v;rw [zAu] at h0;rw [zc2 (show (digs (2 ^ 32) v).length-1<(digs (2 ^ 32) v).length by omega)] at h0;rcases zyf ((digs (2 ^ 32) v).getD ((digs (2 ^ 32) v).length-1) 0) with h2 | h2
           · rw [h2] at h0; exact absurd rfl h0
           · exact h2) (by rw [hVlv]; exact hfit) (by omega)
         rw [hl,hVl,hVlv,hSv,zqD,hs1,<-hcut,hback _ (Nat.lt_trans (zyl _ hvpos) (zxw hvk (zAa (by decide) (by omega)))),zpk,hs2,hPl] at this;rw [show (((i+1 : Nat) : Int))-1=(i : Int) by omega];exact this
       refine zae.w1 (k:=42) (j:=46) (tl:=[.int .i64 ((((i+1 : Nat) : Int))-1)]) (by decide) rfl rfl (by omega) (fun A c hc=>by rw [<-hr]; exact hdig A c hc) (by rw [zav,zav,zaF,zaF]) ?_;conv=>whnf
       refine ⟨⟨by omega,by omega⟩,?_⟩;conv=>whnf
       refine ⟨⟨by rw [zav,zz2,zA7,zaF]; show ((((i+1 : Nat) : Int))-1).toNat*1+1<=_; omega,by decide⟩,?_⟩;conv=>whnf
       refine ⟨i,by omega,by omega,zzj ⟨rfl,rfl,rfl,rfl,?_,trivial⟩ ⟨mrf rfl,mrf rfl,⟨_,rfl,?_⟩,trivial⟩ (fun R hR=>hR)⟩
       · show some (SV.o (.v (.int _ (IntKind.i64.wrap ((((i+1 : Nat) : Int))-1-1)))))=some (SV.o (.v (.int _ ((i : Int)-1))));rw [wrap_i64 (by omega) (by omega)]; congr 4; omega
       · show MEle (ME.own _ _ _ (putN (((((i+1 : Nat) : Int))-1).toNat*1) [Value.int .u32 ((N/((2 ^ 32) ^ i*v)%2 ^ 32 : Nat) : Int)] (rowV u32c (List.replicate (i+1) 0++pad (2 ^ 32) (m+1-k-(i+1)) (N/((2 ^ 32) ^ (i+1)*v))))))
           (ME.own _ _ _ (rowV u32c (List.replicate i 0++pad (2 ^ 32) (m+1-k-i) (N/((2 ^ 32) ^ i*v)))))
         rw [show m+1-k-i=(m+1-k-(i+1))+1 by omega,zjR,<-hs3];have hrep : List.replicate (i+1) 0++pad (2 ^ 32) (m+1-k-(i+1)) (N/((2 ^ 32) ^ (i+1)*v))=List.replicate i 0++0::pad (2 ^ 32) (m+1-k-(i+1)) (N/((2 ^ 32) ^ (i+1)*v)):=by
           rw [zAT]; simp
         rw [hrep,zds (List.replicate i 0) _ 0 _ (by rw [zA7]; omega)];simp only [zyF,zAU];exact .refl _
     · intro h
       have hj0 : j=0:=by have : ¬(0 : Int)<=(j : Int)-1:=zA1 h
                          omega
       subst hj0;rw [Nat.pow_zero,zz4,zza,zAW,zzJ];have hpq : N/v=p/q:=by rw [hN,hv,Nat.mul_div_mul_right _ _ (zAv (by decide))]
       have hpr : N%v=p%q*2 ^ n:=by rw [hN,hv,Nat.mul_mod_mul_right]
       have hq1 : tr (pad (2 ^ 32) (m+1-k) (N/v))=digs (2 ^ 32) (p/q):=by
         rw [zgM (B:=2 ^ 32) (by decide) (zhr (by decide) _ _),zgK (by decide),zye (zzK (by rw [zzG]; exact hNlt)),hpq]
       have hr1 : tr (pad (2 ^ 32) (m+1) (N%v))=digs (2 ^ 32) (N%v):=by
         rw [zgM (B:=2 ^ 32) (by decide) (zhr (by decide) _ _),zgK (by decide),zye (Nat.lt_trans (zyl _ hvpos) (zxw hnorm.1 (zAa (by decide) (by omega))))]
       have hql:=zck (pad (2 ^ 32) (m+1-k) (N/v));have hrl:=zck (pad (2 ^ 32) (m+1) (N%v));rw [hq1,zaF] at hql;rw [hr1,zaF] at hrl;conv=>whnf
       refine zzY (n:=m+1-k) (xs:=u32V (pad (2 ^ 32) (m+1-k) (N/v))) (n':=(digs (2 ^ 32) (p/q)).length) 68 (fun A c hc=>?_) rfl hql rfl rfl ?_ rfl
       · have:=zez A c (pad (2 ^ 32) (m+1-k) (N/v)) (by rw [zaF]; exact hc) (by rw [zaF]; omega);rw [hq1,zaF] at this; exact this
       conv=>whnf
       refine zzY (n:=m+1) (xs:=u32V (pad (2 ^ 32) (m+1) (N%v))) (n':=(digs (2 ^ 32) (N%v)).length) 70 (fun A c hc=>?_) rfl hrl rfl rfl ?_ rfl
       · have:=zez A c (pad (2 ^ 32) (m+1) (N%v)) (by rw [zaF]; exact hc) (by rw [zaF]; omega);rw [hr1,zaF] at this; exact this
       have ht1 : (u32V (pad (2 ^ 32) (m+1-k) (N/v))).take ((digs (2 ^ 32) (p/q)).length*1)=u32V (digs (2 ^ 32) (p/q)):=by
         have:=zc7 (pad (2 ^ 32) (m+1-k) (N/v));rw [hq1] at this;rw [zbh zay,this]
       have ht2 : (u32V (pad (2 ^ 32) (m+1) (N%v))).take ((digs (2 ^ 32) (N%v)).length*1)=u32V (digs (2 ^ 32) (N%v)):=by
         have:=zc7 (pad (2 ^ 32) (m+1) (N%v));rw [hr1] at this;rw [zbh zay,this]
       rw [ht1,ht2];conv=>whnf
       have hu : ∀ A c,(digs (2 ^ 32) (N%v)).length<=c->FnM PP 270 [.slice A (digs (2 ^ 32) (N%v)).length c,.int .i64 n] (facts [zai A (u32V (digs (2 ^ 32) (N%v)))]) (zbD zax 1 (digs (2 ^ 32) (p%q)).length (u32V (digs (2 ^ 32) (p%q)))):=by
         intro A c hc;have:=zpC A c (digs (2 ^ 32) (N%v)) n (zb1 (by decide) _) hn32 (by
           have : (digs (2 ^ 32) (N%v)).length<=k:=zbc (by decide) (Nat.lt_trans (zyl _ hvpos) hnorm.1);omega)
         rw [zbN (by decide),hpr,Nat.mul_div_cancel _ (zAv (by decide))] at this;rw [hpr]; exact this
       refine zzs 72 (hu none _ (zxr _)).enters (zzW (fun z=>[z,.int .i64 n]) (zzU (k:=70) rfl) (zxA ..) (fun _=>rfl) hu) rfl rfl ?_;conv=>whnf
       exact .inl ⟨68,72,rfl,by decide,rfl,rfl⟩
theorem zaf.o {P : Program} {st : SS} {g : FuncId} {args : List SV} {d : Option Tmp} {t es n : Nat} {xs : List Value} {K : SV->Option ME->Prop} (hE : Enters P g) (h : zaC P g args st (zbD t es n xs)) (hk : K (.o (.w (d.getD 0))) (some (.own t es n xs))) : zaf P g args d st K :=
 ⟨hE,.inr ⟨t,es,n,xs,h,hk⟩⟩
abbrev zA8:=@zaf.o
theorem zaf.v {P : Program} {st : SS} {g : FuncId} {args : List SV} {d : Option Tmp} {r : Value} {K : SV->Option ME->Prop} (hE : Enters P g) (h : zaC P g args st (zaR r)) (hk : K (.o (.v r)) none) : zaf P g args d st K :=
 ⟨hE,.inl ⟨r,h,hk⟩⟩
abbrev zA9:=@zaf.v
abbrev dg (l : List UInt8) : List Nat:=digs (2 ^ 32) (nat l)
theorem zeg {l : List UInt8} : (dg l).length<=l.length:=by
 refine zbc (by decide) (zxw (zcT l) ?_);exact Nat.pow_le_pow_left (by decide) _
theorem zvB (l : List UInt8) : ∀ x∈dg l,x<2 ^ 32:=zb1 (by decide) _
theorem zbA {st : SS} (l : List UInt8) (hl : l.length<=1000000000000) : zaC PP 189 [.o (.v (.string (bs l)))] st (zbD zax 1 (dg l).length (u32V (dg l))) :=
 zzq (zs4 l hl) rfl (fun R hR=>by cases hR)
theorem za1 : Enters PP 189:=(zs4 [] (by decide)).enters
theorem zeq {st : SS} {k : Nat} (neg : Bool) (n : Nat) (hl : (digs (2 ^ 32) n).length<=1000000000000) (hk : lk k st.me=some (.own zax 1 (digs (2 ^ 32) n).length (u32V (digs (2 ^ 32) n)))) :
  zaC PP 191 [.o (.v (.bool neg)),.o (.w k)] st (zaR (zV (sg neg n))):=by
 refine zzW (fun z=>[.bool neg,z]) (zzU hk) (zxB _ (zxA ..)) (fun _=>rfl) (fun A c hc=>?_);have:=zo9 neg A c (digs (2 ^ 32) n) (zb1 (by decide) _) hc hl;rw [zbN (by decide)] at this;exact this
theorem zb7 : Enters PP 191:=(zo9 false none 0 [] (by simp) (by simp) (by simp)).enters
theorem zwS (b : Bool) (l : List UInt8) (hl : l.length<=10000000000) : Fn PP 197 [intV b (bs l)] (zV (-(sg b (nat l)))):=by
 refine zzn zab mixed Tryz.func197 rfl rfl (zxW rfl) ?_;intro w;have hd : (digs (2 ^ 32) (nat l)).length<=l.length:=zeg;conv=>whnf
 refine zak.qk ?_;conv=>whnf
 refine zA8 za1 (zbA l (by omega)) ?_;conv=>whnf
 refine zA9 zb7 (zeq (k:=8) (!b) (nat l) (by omega) rfl) ?_;conv=>whnf
 refine zaa ?_;have : sg (!b) (nat l)=-(sg b (nat l)):=by cases b <;> simp [sg]
 rw [this]
theorem ztd (a b : Bool) (m n : Nat) : sg (a != b) (m*n)=sg a m*sg b n:=by cases a <;> cases b <;> simp [sg,zAG,Int.neg_mul,Int.mul_neg]
theorem zkM : Enters PP 192:=(zoX none none 0 0 [] [] (by simp) (by simp) (by simp) (by simp)).enters
theorem zri (a b : Bool) (l m : List UInt8) (hl : l.length<=10000000000) (hm : m.length<=10000000000) : Fn PP 126 [intV a (bs l),intV b (bs m)] (zV (sg a (nat l)*sg b (nat m))):=by
 refine zzn zab mixed Tryz.func126 rfl rfl (zxW rfl) ?_;intro w;have hd:=zeg (l:=l);have hd2:=zeg (l:=m);have hd3 : (digs (2 ^ 32) (nat l*nat m)).length<=l.length+m.length:=by
  refine zbc (by decide) (zxw (zbZ (zcT l) (zcT m)) ?_);exact Nat.pow_le_pow_left (by decide) _
 conv=>whnf
 refine zak.qk ?_;conv=>whnf
 refine zA8 za1 (zbA l (by omega)) ?_;conv=>whnf
 refine zA8 za1 (zbA m (by omega)) ?_;conv=>whnf
 refine zA8 zkM (zzX (fun y z=>[y,z]) (zzU (k:=12) rfl) (zzU (k:=15) rfl) (zxA ..) (zxB _ (zxA ..)) (fun _=>rfl) (fun A c B d hc hd=>zoX A B c d (dg l) (dg m) (zvB l) (zvB m) (by omega) (by omega))) ?_;rw [zbN (by decide),zbN (by decide)];conv=>whnf
 refine zA9 zb7 (zeq (k:=16) (a != b) (nat l*nat m) (by omega) rfl) ?_;conv=>whnf
 refine zaa ?_;rw [ztd]
abbrev zBa:=@List.take_succ_eq_append_getElem

def zeA (b : Bool) (l : List UInt8) : Value:=if l.length<=7 then .tuple #[.int .i64 (sg b (nat l)),.bool true] else .tuple #[.int .i64 0,.bool false]
theorem znM (b : Bool) (l : List UInt8) (hl : l.length<=10000000000) : Fn PP 228 [intV b (bs l)] (zeA b l):=by
 refine zzn zab mixed Tryz.func228 rfl rfl (zxW rfl) ?_;intro w;conv=>whnf
 refine zaj ?_ ?_
 ·intro h;have h1 : ¬l.length<=7:=by
   have : ((l.length : Nat) : Int)>7:=zA0 h;omega
  conv=>whnf
  refine zau ?_;rw [zeA,zxI h1]
 ·intro h;have h1 : l.length<=7:=by
   have : ¬((l.length : Nat) : Int)>7:=zA1 h;omega
  conv=>whnf
  refine zal (ι:=Nat) (fun i=>⟨[(1,.o (.p 1 0)),(4,.o (.v (.int .i64 (nat (l.take i))))),(12,.o (.v (.int .i64 l.length))),(13,.o (.v (.int .i64 i)))],[(1,.box [.v (.bool b),.v (.string (bs l))] zbG)],[]⟩)
   (fun i=>i<=l.length) (fun i=>l.length-i) 0 (zyD _) (zzj ⟨rfl,rfl,rfl,rfl,trivial⟩ ⟨mrf rfl,trivial⟩ (fun R hR=>hR)) ?_
  intro i hi;conv=>whnf
  refine zaj ?_ ?_
  ·intro h2;have hi2 : i<l.length:=by
    have : (i : Int)<(l.length : Int):=zA0 h2;omega
   conv=>whnf
   refine ⟨by decide,?_⟩;conv=>whnf
   refine ⟨⟨by omega,by show (i : Int)<(l.length : Int); omega⟩,?_⟩;conv=>whnf
   obtain ⟨x,hx⟩ : ∃ x,x=l[i]:=⟨_,rfl⟩;have hg : l.getD i 0=x:=by rw [hx,zzO,zyy hi2]; rfl
   have htk : l.take (i+1)=l.take i++[x]:=by rw [zBa hi2,hx]
   have hnat : nat (l.take (i+1))=x.toNat+256*nat (l.take i):=by rw [htk,zdM]
   have hnb : nat (l.take i)<256 ^ 6:=za7 (by rw [zyI]; omega);have hxb : x.toNat<256:=x.toBitVec.isLt;have hor : IntKind.i64.wrap (BitVec.toNat (w:=64) (BitVec.ofInt 64 (IntKind.i64.wrap ((nat (l.take i) : Int)*2 ^ min (8 : Int).toNat IntKind.i64.bits)) ||| BitVec.ofInt 64 (IntKind.i64.wrap (sb (bs l) (i : Int)))) : Int)=(nat (l.take (i+1)) : Int):=by
    have e1 : IntKind.i64.wrap ((nat (l.take i) : Int)*2 ^ min (8 : Int).toNat IntKind.i64.bits)=((nat (l.take i)*2 ^ 8 : Nat) : Int):=by
     rw [show min (8 : Int).toNat IntKind.i64.bits=8 from rfl,wrap_i64 (by omega) (by omega)]; omega
    have e2 : IntKind.i64.wrap (sb (bs l) (i : Int))=(x.toNat : Int):=by
     rw [zgP,zzS,hg,wrap_i64 (by omega) (by omega)]
    rw [e1,e2,zAB,zaU (by omega),zaU (by omega),zzG,<-zAC (show x.toNat<2 ^ 8 by omega),hnat];rw [wrap_i64 (by omega) (by omega)]; omega
   refine ⟨i+1,by omega,by omega,zzj ⟨rfl,?_,rfl,?_,trivial⟩ ⟨mrf rfl,trivial⟩ (fun R hR=>hR)⟩
   ·show some (SV.o (.v (.int .i64 (IntKind.i64.wrap (BitVec.toNat (w:=64) (BitVec.ofInt 64 _ ||| BitVec.ofInt 64 _) : Int)))))=some (SV.o (.v (.int .i64 (nat (l.take (i+1)) : Int))));rw [hor]
   ·show some (SV.o (.v (.int _ (IntKind.i64.wrap ((i : Int)+1)))))=some (SV.o (.v (.int _ ((i+1 : Nat) : Int))));rw [wrap_i64 (by omega) (by omega)]; rfl
  ·intro h2;have hi2 : i=l.length:=by
    have : ¬(i : Int)<(l.length : Int):=zA1 h2;omega
   subst hi2;have hnb : nat l<256 ^ 7:=za7 h1;rw [zAq]
   cases b with
   | false =>
    conv=>whnf
    refine zau ?_;rw [zeA,zxJ h1]; rfl
   | true =>
    conv=>whnf
    refine zau ?_;rw [zeA,zxJ h1];show Value.tuple #[.int .i64 (IntKind.i64.wrap (0-(nat l : Int))),.bool true]=_;rw [wrap_i64 (by omega) (by omega),Int.zero_sub]; rfl
theorem zpf (a : Bool) (n : Nat) : sg (!a) n=-(sg a n):=by cases a <;> simp [sg]
theorem ziG {l : List UInt8} (h : l.length<=7) : nat l<72057594037927936:=za7 h
theorem zl3 : Enters PP 229:=(zsT none none 0 0 [] [] (by simp) (by simp) (by simp) (by simp)).enters
theorem Fn.ofW {P : Program} {T : TT} (hT : zaY P T) (hmix : P.follows .mixedOrders=true) {f : FuncId} {fn : Func} {c : Code} {vs : List Value} {r : Value}
  (hf : P.funcs[f]? = some fn) (hb : fn.body = some c) (hnm : (fn.name == "runtime.NumGoroutine") = false) (hn : vs.length <= fn.ntmps)
  (hs : ∀ w,WPS P ⟨w,[],fn.ntmps⟩ c ⟨zdx 0 (vsv vs),[],[]⟩ (retQ T fn (zql r))) : Fn P f vs r:=by
 have:=zzl (re:=[]) hT hmix hf hb hnm hn (by simp) (fun w l st E w' hp hm=>zeS hp hm) (fun w _=>hs w);exact ⟨this.enters,fun w _=>this.calls w (by simp [facts])⟩
theorem zmw {x y : Nat} : cmpN x y<0↔x<y:=by
 unfold cmpN; split
 ·constructor
  ·intro; assumption
  ·intro; decide
 ·split <;> constructor <;> intro h <;> omega
theorem zrX {l m : List UInt8} {k : Nat} (hl : l.length<=k) (hm : m.length<=k) : (digs (2 ^ 32) (nat l+nat m)).length<=k+1:=by
 refine zbc (by decide) ?_;have h1:=za7 hl;have h2:=za7 hm;have h3 : (256 : Nat) ^ k<=(2 ^ 32) ^ k:=Nat.pow_le_pow_left (by decide) _;rw [zzD];omega
theorem zeu {m n : Nat} (h : m<=n) : (digs (2 ^ 32) m).length<=(digs (2 ^ 32) n).length:=zbc (by decide) (zAc h (zbF (by decide)))
theorem zc6 {st : SS} {i j : Nat} (x y : Nat) (hx : (digs (2 ^ 32) x).length<=100000000000) (hy : (digs (2 ^ 32) y).length<=100000000000)
  (hi : lk i st.me=some (.own zax 1 (digs (2 ^ 32) x).length (u32V (digs (2 ^ 32) x)))) (hj : lk j st.me=some (.own zax 1 (digs (2 ^ 32) y).length (u32V (digs (2 ^ 32) y)))) :
  zaC PP 190 [.o (.w i),.o (.w j)] st (zaR (.int .i64 (cmpN x y))) :=
 zzX (fun y z=>[y,z]) (zzU hi) (zzU hj) (zxA ..) (zxB _ (zxA ..)) (fun _=>rfl) (fun A c B d _ _=>zh9 x y A B c d (by omega) (by omega))
theorem zbY : Enters PP 190:=(zh9 0 0 none none 0 0 (by simp [zbg]) (by simp [zbg])).enters
theorem ztX {st : SS} {i j : Nat} (x y : Nat) (hx : (digs (2 ^ 32) x).length<=100000000000) (hy : (digs (2 ^ 32) y).length<=100000000000)
  (hi : lk i st.me=some (.own zax 1 (digs (2 ^ 32) x).length (u32V (digs (2 ^ 32) x)))) (hj : lk j st.me=some (.own zax 1 (digs (2 ^ 32) y).length (u32V (digs (2 ^ 32) y)))) :
  zaC PP 229 [.o (.w i),.o (.w j)] st (zbD zax 1 (digs (2 ^ 32) (x+y)).length (u32V (digs (2 ^ 32) (x+y)))) :=
 zzX (fun y z=>[y,z]) (zzU hi) (zzU hj) (zxA ..) (zxB _ (zxA ..)) (fun _=>rfl) (fun A c B d _ _=>by
  have:=zsT A B c d (digs (2 ^ 32) x) (digs (2 ^ 32) y) (zb1 (by decide) _) (zb1 (by decide) _) (by omega) (by omega);rw [zbN (by decide),zbN (by decide)] at this;exact this)
theorem zmA {st : SS} {i j : Nat} (x y : Nat) (hyx : y<=x) (hx : (digs (2 ^ 32) x).length<=100000000000)
  (hi : lk i st.me=some (.own zax 1 (digs (2 ^ 32) x).length (u32V (digs (2 ^ 32) x)))) (hj : lk j st.me=some (.own zax 1 (digs (2 ^ 32) y).length (u32V (digs (2 ^ 32) y)))) :
  zaC PP 230 [.o (.w i),.o (.w j)] st (zbD zax 1 (digs (2 ^ 32) (x-y)).length (u32V (digs (2 ^ 32) (x-y)))) :=
 zzX (fun y z=>[y,z]) (zzU hi) (zzU hj) (zxA ..) (zxB _ (zxA ..)) (fun _=>rfl) (fun A c B d _ _=>zqv A B c d x y hyx (by omega))
theorem zgF : Enters PP 230:=(zqv none none 0 0 0 0 (by simp) (by simp [zbg])).enters
theorem zts (a b : Bool) (l m : List UInt8) (hl : l.length<=10000000000) (hm : m.length<=10000000000) : Fn PP 186 [intV a (bs l),intV b (bs m)] (zV (sg a (nat l)+sg b (nat m))):=by
 refine Fn.ofW zab mixed Tryz.func186 rfl rfl (zxW rfl) ?_;intro w;have hd : (digs (2 ^ 32) (nat l)).length<=l.length:=zeg;have hd2 : (digs (2 ^ 32) (nat m)).length<=m.length:=zeg;have hd3:=zrX hl hm;have hd4:=zeu (Nat.sub_le (nat l) (nat m));have hd5:=zeu (Nat.sub_le (nat m) (nat l));refine zy9 zab mixed ?_;conv=>whnf
 refine WPS.cut zab mixed (ι:=Unit) (fun _=>⟨[(2,.o (.p 2 0)),(3,.o (.p 3 0)),(4,.o (.p 4 0))],[(2,.box [.v (.bool a),.v (.string (bs l))] zbG),(3,.box [.v (.bool b),.v (.string (bs m))] zbG),(4,.box [.v (.bool false),.v (.string ⟨#[]⟩)] zbG)],[]⟩) (fun _=>True) ?_ ?_
 ·have done : ∀ s,(SLe (⟨w,[],Tryz.f186.ntmps⟩ : Cx) s ⟨[(2,.o (.p 2 0)),(3,.o (.p 3 0)),(4,.o (.p 4 0))],[(2,.box [.v (.bool a),.v (.string (bs l))] zbG),(3,.box [.v (.bool b),.v (.string (bs m))] zbG),(4,.box [.v (.bool false),.v (.string ⟨#[]⟩)] zbG)],[]⟩)->∃ j : Unit,True/\SLe (⟨w,[],Tryz.f186.ntmps⟩ : Cx) s ⟨[(2,.o (.p 2 0)),(3,.o (.p 3 0)),(4,.o (.p 4 0))],[(2,.box [.v (.bool a),.v (.string (bs l))] zbG),(3,.box [.v (.bool b),.v (.string (bs m))] zbG),(4,.box [.v (.bool false),.v (.string ⟨#[]⟩)] zbG)],[]⟩:=fun s h=>⟨(),trivial,h⟩
  conv=>whnf
  refine zzt (znM a l hl) rfl ?_;by_cases h1 : l.length<=7
  ·rw [zeA,zxJ h1];conv=>whnf
   refine zzt (znM b m hm) rfl ?_;by_cases h2 : m.length<=7
   ·rw [zeA,zxJ h2];conv=>whnf
    have hn1:=ziG h1;have hn2:=ziG h2;have hz1:=zbb a (nat l);have hz2:=zbb b (nat m);have hw : IntKind.i64.wrap (sg a (nat l)+sg b (nat m))=sg a (nat l)+sg b (nat m):=wrap_i64 (by omega) (by omega);refine zzt (r:=zV (sg a (nat l)+sg b (nat m))) (c_Of (sg a (nat l)+sg b (nat m)) (by omega) (by omega)) (zyr (fun z=>[SV.o (.v (.int .i64 z))]) hw) ?_;conv=>whnf
    exact zaa rfl
   ·rw [zeA,zxI h2];conv=>whnf
    exact done _ (zzj ⟨rfl,rfl,rfl,trivial⟩ ⟨mrf rfl,mrf rfl,mrf rfl,trivial⟩ (fun R hR=>hR))
  ·rw [zeA,zxI h1];conv=>whnf
   exact done _ (zzj ⟨rfl,rfl,rfl,trivial⟩ ⟨mrf rfl,mrf rfl,mrf rfl,trivial⟩ (fun R hR=>hR))
 ·intro _ _;refine zy7 zab mixed ?_;conv=>whnf
  refine zak.qk ?_;conv=>whnf
  refine zA8 za1 (zbA l (by omega)) ?_;conv=>whnf
  refine zA8 za1 (zbA m (by omega)) ?_;conv=>whnf
  refine zaj ?_ ?_
  ·intro hab;have hab : a=b:=eq_of_beq hab;subst hab;conv=>whnf
   refine zak.qk ?_;conv=>whnf
   refine zA8 zl3 (ztX (i:=29) (j:=32) (nat l) (nat m) (by omega) (by omega) rfl rfl) ?_;conv=>whnf
   refine zA9 zb7 (zeq (k:=43) a (nat l+nat m) (by omega) rfl) ?_;conv=>whnf
   refine zaa ?_;have : sg a (nat l+nat m)=sg a (nat l)+sg a (nat m):=by cases a <;> simp [sg] <;> omega
   rw [this]
  ·intro hab;have hab : ¬a=b:=ne_of_beq_false hab;conv=>whnf
   refine zzr zbY (zc6 (i:=29) (j:=32) (nat l) (nat m) (by omega) (by omega) rfl rfl) ?_;conv=>whnf
   refine zaj ?_ ?_
   ·intro hc;have hlt : nat l<nat m:=zmw.1 (zA0 hc);conv=>whnf
    refine zak.qk ?_;conv=>whnf
    refine zA8 zgF (zmA (i:=32) (j:=29) (nat m) (nat l) (by omega) (by omega) rfl rfl) ?_;conv=>whnf
    refine zA9 zb7 (zeq (k:=54) b (nat m-nat l) (by omega) rfl) ?_;conv=>whnf
    refine zaa ?_;have : sg b (nat m-nat l)=sg a (nat l)+sg b (nat m):=by cases a <;> cases b <;> simp [sg] at hab ⊢ <;> omega
    rw [this]
   ·intro hc;have hlt : ¬nat l<nat m:=fun h=>zA1 hc (zmw.2 h)
    conv=>whnf
    refine zak.qk ?_;conv=>whnf
    refine zA8 zgF (zmA (i:=29) (j:=32) (nat l) (nat m) (by omega) (by omega) rfl rfl) ?_;conv=>whnf
    refine zA9 zb7 (zeq (k:=60) a (nat l-nat m) (by omega) rfl) ?_;conv=>whnf
    refine zaa ?_;have : sg a (nat l-nat m)=sg a (nat l)+sg b (nat m):=by cases a <;> cases b <;> simp [sg] at hab ⊢ <;> omega
    rw [this]

theorem zwz (a b : Bool) (l m : List UInt8) (hl : l.length<=10000000000) (hm : m.length<=10000000000) : Fn PP 236 [intV a (bs l),intV b (bs m)] (zV (sg a (nat l)-sg b (nat m))):=by
 refine zzn zab mixed Tryz.func236 rfl rfl (zxW rfl) ?_;intro w;conv=>whnf
 refine zzt (zts a (!b) l m hl hm) rfl ?_;conv=>whnf
 refine zaa ?_;rw [zpf,Int.sub_eq_add_neg]
def cmpZ (x y : Int) : Int:=if x<y then -1 else if y<x then 1 else 0
theorem zfX (x y : Nat) : cmpZ x y=cmpN x y:=by simp only [cmpZ,cmpN,zA6]
theorem znk (x y : Nat) : cmpZ (-(x : Int)) (-(y : Int))=cmpN y x:=by
 unfold cmpZ cmpN;by_cases h1 : y<x
 ·rw [zxJ (by omega),zxJ h1]
 ·rw [zxI (by omega),zxI h1];by_cases h2 : x<y
  ·rw [zxJ (by omega),zxJ h2]
  ·rw [zxI (by omega),zxI h2]
theorem zge {x y : Int} (h : x<y) : cmpZ x y=-1:=by rw [cmpZ,zxJ h]
theorem zgk {x y : Int} (h : y<x) : cmpZ x y=1:=by rw [cmpZ,zxI (by omega),zxJ h]
theorem ze6 {l : List UInt8} : ((digs (2 ^ 32) (nat l)).length : Int)>0↔0<nat l:=by
 have:=zhf (B:=2 ^ 32) (n:=nat l) (by decide);rcases zyf (nat l) with h | h
 ·rw [this.2 h]; simp [h]
 ·have h2 : digs (2 ^ 32) (nat l)≠[]:=fun e=>by have:=this.1 e; omega
  have:=List.length_pos_iff.2 h2;omega
theorem zfD (a b : Bool) (l m : List UInt8) (hl : l.length<=10000000000) (hm : m.length<=10000000000) : Fn PP 125 [intV a (bs l),intV b (bs m)] (.int .i64 (cmpZ (sg a (nat l)) (sg b (nat m)))):=by
 refine zzn zab mixed Tryz.func125 rfl rfl (zxW rfl) ?_;intro w;have hd : (digs (2 ^ 32) (nat l)).length<=l.length:=zeg;have hd2 : (digs (2 ^ 32) (nat m)).length<=m.length:=zeg
 cases a <;> cases b
 ·conv=>whnf
  refine zak.qk ?_;conv=>whnf
  refine zA8 za1 (zbA l (by omega)) ?_;conv=>whnf
  refine zA8 za1 (zbA m (by omega)) ?_;conv=>whnf
  refine zzr zbY (zc6 (i:=9) (j:=12) (nat l) (nat m) (by omega) (by omega) rfl rfl) ?_;conv=>whnf
  refine zaa ?_;rw [<-zfX]; rfl
 ·conv=>whnf
  refine zak.qk ?_;conv=>whnf
  refine zA8 za1 (zbA l (by omega)) ?_;conv=>whnf
  refine zA8 za1 (zbA m (by omega)) ?_;conv=>whnf
  refine zaj ?_ ?_
  ·intro h;have hp : 0<nat m:=ze6.1 (zA0 h);conv=>whnf
   refine zaa ?_;rw [zgk (by simp [sg]; omega)]
  ·intro h;have hp : ¬0<nat m:=fun h2=>zA1 h (ze6.2 h2)
   conv=>whnf
   refine zzr zbY (zc6 (i:=9) (j:=12) (nat l) (nat m) (by omega) (by omega) rfl rfl) ?_;conv=>whnf
   refine zaa ?_;rw [<-zfX,show nat m=0 by omega]; rfl
 ·conv=>whnf
  refine zak.qk ?_;conv=>whnf
  refine zA8 za1 (zbA l (by omega)) ?_;conv=>whnf
  refine zA8 za1 (zbA m (by omega)) ?_;conv=>whnf
  refine zaj ?_ ?_
  ·intro h;have hp : 0<nat l:=ze6.1 (zA0 h);conv=>whnf
   refine zaj ?_ ?_
   ·intro h2;conv=>whnf
    refine zaa ?_;rw [zge (by simp [sg]; omega)]
   ·intro h2;exact absurd (h.symm.trans h2) (by decide)
  ·intro h;have hp : ¬0<nat l:=fun h2=>zA1 h (ze6.2 h2)
   conv=>whnf
   refine zaj ?_ ?_
   ·intro h2;exact absurd (h.symm.trans h2) (by decide)
   ·intro h2;conv=>whnf
    refine zzr zbY (zc6 (i:=9) (j:=12) (nat l) (nat m) (by omega) (by omega) rfl rfl) ?_;conv=>whnf
    refine zaa ?_;rw [<-zfX,show nat l=0 by omega]; rfl
 ·conv=>whnf
  refine zak.qk ?_;conv=>whnf
  refine zA8 za1 (zbA l (by omega)) ?_;conv=>whnf
  refine zA8 za1 (zbA m (by omega)) ?_;conv=>whnf
  refine zaj ?_ ?_
  ·intro h;have hp : 0<nat l:=ze6.1 (zA0 h);conv=>whnf
   refine zaj ?_ ?_
   ·intro h2;have hp2 : 0<nat m:=ze6.1 (zA0 h2);conv=>whnf
    refine zzr zbY (zc6 (i:=12) (j:=9) (nat m) (nat l) (by omega) (by omega) rfl rfl) ?_;conv=>whnf
    refine zaa ?_;rw [<-znk]; rfl
   ·intro h2;have hp2 : ¬0<nat m:=fun h3=>zA1 h2 (ze6.2 h3)
    conv=>whnf
    refine zaj ?_ ?_
    ·intro h3;conv=>whnf
     refine zaa ?_;rw [zge (by simp [sg]; omega)]
    ·intro h3;exact absurd (h.symm.trans h3) (by decide)
  ·intro h;have hp : ¬0<nat l:=fun h2=>zA1 h (ze6.2 h2)
   conv=>whnf
   refine zaj ?_ ?_
   ·intro h2;exact absurd (h.symm.trans h2) (by decide)
   ·intro h2;conv=>whnf
    refine zaj ?_ ?_
    ·intro h3;have hp2 : 0<nat m:=ze6.1 (zA0 h3);conv=>whnf
     refine zaa ?_;rw [zgk (by simp [sg]; omega)]
     trace_state
    ·intro h3;have hp2 : ¬0<nat m:=fun h4=>zA1 h3 (ze6.2 h4)
     conv=>whnf
     refine zzr zbY (zc6 (i:=9) (j:=12) (nat l) (nat m) (by omega) (by omega) rfl rfl) ?_;conv=>whnf
     refine zaa ?_;rw [<-zfX,show nat l=0 by omega,show nat m=0 by omega]; rfl
abbrev zBg:=@Int.natAbs_zero
abbrev zBf:=@Int.fdiv_fmod_unique'
abbrev zBe:=@Int.fdiv_fmod_unique
abbrev zBd:=@Nat.gcd_zero_right
abbrev zBc:=@Nat.gcd_rec
abbrev zBb:=@Nat.gcd_comm

theorem zxg (a b : Bool) (l m : List UInt8) (hl : l.length<=10000000000) (hm : m.length<=10000000000) : Fn PP 194 [intV a (bs l),intV b (bs m)] (zV (Nat.gcd (nat l) (nat m))):=by
 refine zzn zab mixed Tryz.func194 rfl rfl (zxW rfl) ?_;intro w;have hd : (digs (2 ^ 32) (nat l)).length<=l.length:=zeg;have hd2 : (digs (2 ^ 32) (nat m)).length<=m.length:=zeg;conv=>whnf
 refine zak.qk ?_;conv=>whnf
 refine zA8 za1 (zbA l (by omega)) ?_;conv=>whnf
 refine zA8 za1 (zbA m (by omega)) ?_;conv=>whnf
 refine zal (ι:=Nat×Nat) (fun ⟨x,y⟩=>⟨[(4,.o (.p 4 0)),(5,.o (.w 11)),(6,.o (.w 14))],[(4,.box [.v (.bool false),.v (.string ⟨#[]⟩)] zbG),(11,.own zax 1 (digs (2 ^ 32) x).length (u32V (digs (2 ^ 32) x))),(14,.own zax 1 (digs (2 ^ 32) y).length (u32V (digs (2 ^ 32) y)))],[]⟩)
  (fun ⟨x,y⟩=>Nat.gcd x y=Nat.gcd (nat l) (nat m)/\(digs (2 ^ 32) x).length<=10000000000/\(digs (2 ^ 32) y).length<=10000000000) (fun ⟨x,y⟩=>y) (nat l,nat m) ⟨rfl,by omega,by omega⟩ (zzj ⟨rfl,rfl,rfl,trivial⟩ ⟨mrf rfl,mrf rfl,mrf rfl,trivial⟩ (fun R hR=>hR)) ?_
 rintro ⟨x,y⟩ ⟨hg,hx,hy⟩;conv=>whnf
 refine zaj ?_ ?_
 ·intro h;have hy0 : 0<y:=by
   have : ((digs (2 ^ 32) y).length : Int)>0:=zA0 h;rcases zyf y with h2 | h2
   ·rw [h2,zbg] at this; exact absurd this (by decide)
   ·exact h2
  conv=>whnf
  refine zae.d 26 27 (k:=11) (j:=14) (fun A c A' c' h1 h2=>zmP A A' c c' x y hy0 (by omega) (by omega)) rfl rfl rfl rfl rfl rfl rfl ?_;conv=>whnf
  refine ⟨(y,x%y),⟨by rw [<-hg,zBb x y,zBc y x,zBb],hy,zxs (zeu (Nat.mod_le x y)) hx⟩,zyl _ hy0,?_⟩;exact zzi (fun k=>bif Nat.beq k 11 then 14 else bif Nat.beq k 14 then 27 else k) ⟨rfl,rfl,rfl,trivial⟩ ⟨mrf rfl,mrf rfl,mrf rfl,trivial⟩ rfl (fun R hR=>hR)
 ·intro h;have hy0 : y=0:=by
   have : ¬((digs (2 ^ 32) y).length : Int)>0:=zA1 h;exact (zhf (B:=2 ^ 32) (by decide)).1 (zyO.1 (by omega))
  subst hy0;rw [zBd] at hg;conv=>whnf
  refine zzr zb7 (zeq (k:=11) false x (by omega) rfl) ?_;conv=>whnf
  refine zaa ?_;rw [<-hg]; rfl
theorem sg_z (z : Int) : sg (decide (z<0)) z.natAbs=z:=by
 unfold sg; by_cases h : z<0
 ·rw [zz8 h,zxJ rfl]; omega
 ·rw [zz9 h,zxI (by decide)]; omega
theorem zfy (a b : Bool) (l m : Nat) (hm : 0<m) (h : a=b\/l%m=0) : (sg a l).fdiv (sg b m)=sg (a != b) (l/m)/\(sg a l).fmod (sg b m)=sg a (l%m):=by
 have h1:=zzy l m;have h2:=zyl l hm;have h3 : ((l%m : Nat) : Int)+(m : Int)*((l/m : Nat) : Int)=l:=by rw [<-zAG,<-Int.natCast_add,h1]
 have hm0 : (0 : Int)<(m : Int):=by omega
 generalize l%m=r at *;generalize l/m=q at *
 cases a <;> cases b <;> simp only [sg,if_true,if_false,zyi,bne_self_eq_false,bne]
 ·exact (zBe hm0).2 ⟨h3,by omega,by omega⟩
 ·have hr : r=0:=by rcases h with h | h; cases h; exact h
  subst hr;refine (zBf (by omega)).2 ⟨?_,by omega,by omega⟩;show ((0 : Nat) : Int)+-(m : Int)*-(q : Int)=l;rw [Int.neg_mul_neg]; exact h3
 ·have hr : r=0:=by rcases h with h | h; cases h; exact h
  subst hr;refine (zBe hm0).2 ⟨?_,by omega,by omega⟩;show -((0 : Nat) : Int)+(m : Int)*-(q : Int)=-(l : Int);rw [Int.mul_neg]; omega
 ·refine (zBf (by omega)).2 ⟨?_,by omega,by omega⟩;show -(r : Int)+-(m : Int)*(q : Int)=-(l : Int);rw [Int.neg_mul]; omega
theorem ziU (a b : Bool) (l m : Nat) (hm : 0<m) (hab : a≠b) (hr : l%m≠0) : (sg a l).fdiv (sg b m)=sg (a != b) (l/m)-1/\(sg a l).fmod (sg b m)=sg a (l%m)+sg b m:=by
 have h1:=zzy l m;have h2:=zyl l hm;have h3 : ((l%m : Nat) : Int)+(m : Int)*((l/m : Nat) : Int)=l:=by rw [<-zAG,<-Int.natCast_add,h1]
 have hm0 : (0 : Int)<(m : Int):=by omega
 generalize l%m=r at *;generalize l/m=q at *
 cases a <;> cases b <;> simp only [sg,if_true,if_false,zyi,bne]
 ·exact absurd rfl hab
 ·refine (zBf (by omega)).2 ⟨?_,by omega,by omega⟩;show (r : Int)+-(m : Int)+-(m : Int)*(-(q : Int)-1)=l;rw [Int.mul_sub,Int.neg_mul_neg]; omega
 ·refine (zBe hm0).2 ⟨?_,by omega,by omega⟩;show -(r : Int)+(m : Int)+(m : Int)*(-(q : Int)-1)=-(l : Int);rw [Int.mul_sub,Int.mul_neg]; omega
 ·exact absurd rfl hab
theorem zv6 (x y : Int) (hx : (bytes x.natAbs).length<=10000000000) (hy : (bytes y.natAbs).length<=10000000000) : Fn PP 236 [zV x,zV y] (zV (x-y)):=by
 have:=zwz (decide (x<0)) (decide (y<0)) (bytes x.natAbs) (bytes y.natAbs) hx hy;rw [zap,zap,sg_z,sg_z] at this;exact this
def divV (q r : Int) (e : Int) : Value:=.tuple #[zV q,zV r,.int .i64 e]
theorem zwf (a b : Bool) (l m : List UInt8) (hl : l.length<=1000000000) (hm : m.length<=1000000000) :
  Fn PP 195 [intV a (bs l),intV b (bs m)] (if nat m=0 then divV 0 0 10 else divV ((sg a (nat l)).fdiv (sg b (nat m))) ((sg a (nat l)).fmod (sg b (nat m))) 0):=by
 refine zzn zab mixed Tryz.func195 rfl rfl (zxW rfl) ?_;intro w;have hd : (digs (2 ^ 32) (nat l)).length<=l.length:=zeg;have hd2 : (digs (2 ^ 32) (nat m)).length<=m.length:=zeg;conv=>whnf
 refine zzs 14 za1 (zbA m (by omega)) rfl rfl ?_;conv=>whnf
 refine zaj ?_ ?_
 ·intro h;have h0 : nat m=0:=by
   have : ((digs (2 ^ 32) (nat m)).length : Int)=0:=eq_of_beq h;exact (zhf (B:=2 ^ 32) (by decide)).1 (zyO.1 (by omega))
  rw [zxJ h0];conv=>whnf
  refine zar ?_;simp only [divV,zV,zaS,zBg];rfl
 ·intro h;have h0 : 0<nat m:=by
   have : ¬((digs (2 ^ 32) (nat m)).length : Int)=0:=ne_of_beq_false h;rcases zyf (nat m) with h2 | h2
   ·rw [h2,zbg] at this; exact absurd rfl this
   ·exact h2
  rw [zxI (by omega)];conv=>whnf
  refine zzs 23 za1 (zbA l (by omega)) rfl rfl ?_;conv=>whnf
  refine zae.d 55 56 (k:=23) (j:=14) (fun A c A' c' h1 h2=>zmP A A' c c' (nat l) (nat m) h0 (by omega) (by omega)) rfl rfl rfl rfl rfl rfl rfl ?_;conv=>whnf
  refine zy4 [(13,10,[7,8,9,10])] (by kernel_rfl) ?_;conv=>whnf
  have hq1:=zeu (zAe (nat l) (nat m));have hr1:=zeu (Nat.mod_le (nat l) (nat m));refine zA9 zb7 (zeq (k:=55) (a != b) (nat l/nat m) (by omega) rfl) ?_;conv=>whnf
  refine zA9 zb7 (zeq (k:=56) a (nat l%nat m) (by omega) rfl) ?_;conv=>whnf
  have hnz : ∀ n : Nat,((!((bs (bytes (sg a n).natAbs)).toList==(⟨#[]⟩ : ByteArray).toList))=true↔n≠0):=by
   intro n;rw [zhq,zbb]; simp
  have hbq : (bytes (sg (a != b) (nat l/nat m)).natAbs).length<=1000000000:=by
   rw [zbb]; exact zxs (zbd (zAc (zAe _ _) (zcT l))) hl
  have hbr : (bytes (sg a (nat l%nat m)).natAbs).length<=1000000000:=by
   rw [zbb]; exact zxs (zbd (zAc (Nat.mod_le _ _) (zcT l))) hl
  refine zaj ?_ ?_
  ·intro h1;have hr0:=(hnz _).1 h1;conv=>whnf
   refine zaj ?_ ?_
   ·intro h2;have hab : a≠b:=by simpa using h2
    obtain ⟨e1,e2⟩:=ziU a b (nat l) (nat m) h0 hab hr0;rw [e1,e2];conv=>whnf
    refine zy4 [(6,10,[3,4,5])] (by kernel_rfl) ?_;conv=>whnf
    refine zzu (c_Of 1 (by decide) (by decide)) rfl ?_;conv=>whnf
    refine zzu (zv6 (sg (a != b) (nat l/nat m)) 1 (by omega) (zxs (zbd (k:=1) (by decide)) (by decide))) rfl ?_;conv=>whnf
    have hadd:=zts (decide (sg a (nat l%nat m)<0)) b (bytes (sg a (nat l%nat m)).natAbs) m (by omega) (by omega);rw [zap,sg_z] at hadd;refine zzu hadd rfl ?_;conv=>whnf
    refine zy4 [(2,4,[1])] (by kernel_rfl) ?_;conv=>whnf
    exact zar rfl
   ·intro h2;have hab : a=b:=by simpa using h2
    obtain ⟨e1,e2⟩:=zfy a b (nat l) (nat m) h0 (.inl hab);rw [e1,e2];conv=>whnf
    refine zy4 [(2,4,[1])] (by kernel_rfl) ?_;conv=>whnf
    exact zar rfl
  ·intro h1;have hr0 : nat l%nat m=0:=by
    rcases zyf (nat l%nat m) with h3 | h3
    ·exact h3
    ·exact absurd (h1.symm.trans ((hnz _).2 (by omega))) (by decide)
   obtain ⟨e1,e2⟩:=zfy a b (nat l) (nat m) h0 (.inr hr0);rw [e1,e2];conv=>whnf
   refine zy4 [(2,4,[1])] (by kernel_rfl) ?_;conv=>whnf
   exact zar rfl
abbrev rawV (r : Raw) : Value:=.agg ⟨[.bool r.neg,.string (bs r.num),.string (bs r.den)]⟩
abbrev qV (x : Rat) : Value:=rawV (Q x)
abbrev zfW (a : Bool) (s : ByteArray) (b : Bool) (t : ByteArray) : Value:=.agg ⟨[.bool a,.string s,.bool b,.string t]⟩
theorem zkT (b : Bool) (s : ByteArray) : Fn PP 196 [.bool b,.string s] (intV b s):=by
 refine zzn zab mixed Tryz.func196 rfl rfl (zxW rfl) ?_;intro w;conv=>whnf
 exact zaa rfl
theorem zht {x y : Int} : cmpZ x y=0↔x=y:=by
 unfold cmpZ;by_cases h : x<y
 ·rw [zxJ h]; constructor <;> intro h2 <;> omega
 ·rw [zxI h];by_cases h3 : y<x
  ·rw [zxJ h3]; constructor <;> intro h2 <;> omega
  ·rw [zxI h3]; constructor <;> intro h2 <;> omega
theorem c_is (b : Bool) (l : List UInt8) (n : Int) (hl : l.length<=10000000000) (h1 : -9223372036854775808<=n) (h2 : n<=9223372036854775807) : Fn PP 193 [intV b (bs l),.int .i64 n] (.bool (decide (sg b (nat l)=n))):=by
 refine zzn zab mixed Tryz.func193 rfl rfl (zxW rfl) ?_;intro w;conv=>whnf
 refine zak.qk ?_;conv=>whnf
 refine zzu (c_Of n h1 h2) rfl ?_;conv=>whnf
 have hn : n.natAbs<256 ^ 8:=by omega
 have hc:=zfD b (decide (n<0)) l (bytes n.natAbs) hl (zxs (zbd hn) (by decide));rw [zap,sg_z] at hc;refine zzu hc rfl ?_;conv=>whnf
 refine zaa ?_;have : (cmpZ (sg b (nat l)) n==0)=decide (sg b (nat l)=n):=by
  by_cases h : sg b (nat l)=n
  ·rw [zz8 h,(zht).2 h]; rfl
  ·rw [zz9 h]
   cases h3 : (cmpZ (sg b (nat l)) n==0) with
   | true=>exact absurd (zht.1 (eq_of_beq h3)) h
   | false=>rfl
 rw [this]
def Raw.den1 (r : Raw) : List UInt8:=if nat r.den=0 then bytes 1 else r.den
theorem Raw.nat_den1 (r : Raw) : nat r.den1=r.d:=by
 unfold Raw.den1 Raw.d dnm;split
 ·rw [zap]
 ·rfl
abbrev zBh:=@Raw.nat_den1
theorem Raw.den1_len {r : Raw} {k : Nat} (hk : 1<=k) (h : r.den.length<=k) : r.den1.length<=k:=by
 unfold Raw.den1;split
 ·exact zxs (zbd (k:=1) (by decide)) hk
 ·exact h
abbrev zBi:=@Raw.den1_len
theorem c_of (r : Raw) (h : r.sm 10000000000) : Fn PP 133 [rawV r] (zfW r.neg (bs r.num) false (bs r.den1)):=by
 refine zzn zab mixed Tryz.func133 rfl rfl (zxW rfl) ?_;intro w;conv=>whnf
 refine zak.qk ?_;conv=>whnf
 refine zzu (zkT r.neg (bs r.num)) rfl ?_;conv=>whnf
 refine zzu (zkT false (bs r.den)) rfl ?_;conv=>whnf
 refine zzt (c_is false r.den 0 h.2 (by decide) (by decide)) rfl ?_;by_cases hd : nat r.den=0
 ·rw [zz8 (show sg false (nat r.den)=0 by rw [hd]; rfl)];conv=>whnf
  refine zzt (c_Of 1 (by decide) (by decide)) rfl ?_;conv=>whnf
  refine zaa ?_;rw [Raw.den1,zxJ hd]; rfl
 ·rw [zz9 (show ¬sg false (nat r.den)=0 by simp [sg]; exact hd)];conv=>whnf
  refine zaa ?_;rw [Raw.den1,zxI hd]
theorem zsS {N : Int} {M : Nat} (hM : 0<M) : (mkRat N M).num=N.fdiv ((Nat.gcd N.natAbs M : Nat) : Int):=by
 rw [zAb,zxI (by omega),zBb M,zAO _ (by omega)]
theorem zsQ {N : Int} {M : Nat} (hM : 0<M) : ((mkRat N M).den : Int)=((M : Nat) : Int).fdiv ((Nat.gcd N.natAbs M : Nat) : Int):=by
 rw [zAd,zxI (by omega),zBb M,zAO _ (by omega)]; rfl
theorem zcZ (l : List UInt8) : (bytes (nat l)).length<=l.length:=zbd (zcT l)
theorem zmW (a : Bool) (l m : List UInt8) (hl : l.length<=1000000000) (hm : m.length<=1000000000) (h0 : 0<nat m) : Fn PP 128 [zfW a (bs l) false (bs m)] (qV (mkRat (sg a (nat l)) (nat m))):=by
 refine zzn zab mixed Tryz.func128 rfl rfl (zxW rfl) ?_;intro w;obtain ⟨N,hN⟩ : ∃ N,N=sg a (nat l):=⟨_,rfl⟩;have hNa : N.natAbs=nat l:=by rw [hN,zbb]
 conv=>whnf
 refine zzt (c_is a l 0 (by omega) (by decide) (by decide)) rfl ?_;rw [<-hN];by_cases hz : N=0
 ·rw [zz8 hz];conv=>whnf
  refine zaa ?_;rw [hz,Rat.zero_mkRat,qV,zd8]; rfl
 ·rw [zz9 hz];conv=>whnf
  refine zzt (zxg a false l m (by omega) (by omega)) rfl ?_;conv=>whnf
  obtain ⟨G,hG⟩ : ∃ G,G=Nat.gcd (nat l) (nat m):=⟨_,rfl⟩;rw [<-hG];have hGp : 0<G:=by rw [hG]; exact Nat.gcd_pos_of_pos_right _ h0
  have hGl : (bytes ((G : Int)).natAbs).length<=1000000000:=by
   rw [zAi];refine zxs (zbd (k:=m.length) ?_) hm;exact zAc (by rw [hG]; exact Nat.gcd_le_right _ h0) (zcT m)
  have hd1:=zwf a (decide ((G : Int)<0)) l (bytes ((G : Int)).natAbs) hl hGl;rw [zap,sg_z,zxI (by omega),<-hN] at hd1;refine zzt hd1 rfl ?_;conv=>whnf
  have hd2:=zwf false (decide ((G : Int)<0)) m (bytes ((G : Int)).natAbs) hm hGl;rw [zap,sg_z,zxI (by omega)] at hd2;refine zzt hd2 rfl ?_;conv=>whnf
  have hnum : (mkRat N (nat m)).num=N.fdiv (G : Int):=by rw [zsS h0,hNa,<-hG]
  have hden : ((mkRat N (nat m)).den : Int)=(sg false (nat m)).fdiv (G : Int):=by rw [zsQ h0,hNa,<-hG]; rfl
  rw [<-hden];have hdl : (bytes (((mkRat N (nat m)).den : Int)).natAbs).length<=1000000000:=by
   rw [zAi];refine zxs (zbd (k:=m.length) ?_) hm;rw [zAd,zxI (by omega)];exact zAc (zAe _ _) (zcT m)
  have hi:=c_is (decide (((mkRat N (nat m)).den : Int)<0)) (bytes (((mkRat N (nat m)).den : Int)).natAbs) 1 (by omega) (by decide) (by decide);rw [zap,sg_z] at hi;refine zzt hi rfl ?_;have hres : ∀ d : List UInt8,d=(if (mkRat N (nat m)).den=1 then [] else bytes (mkRat N (nat m)).den)->(Value.agg ⟨[.bool (decide (N.fdiv (G : Int)<0)),.string (bs (bytes (N.fdiv (G : Int)).natAbs)),.string (bs d)]⟩)=qV (mkRat N (nat m)):=by
   intro d hd;rw [hd];simp only [qV,rawV,Q,hnum];have : decide (N.fdiv (G : Int)<0)=decide (mkRat N (nat m)<0):=by
    rw [<-hnum]; simp only [zdb]
   rw [this]
  by_cases h1 : (mkRat N (nat m)).den=1
  ·rw [zz8 (show ((mkRat N (nat m)).den : Int)=1 by omega)];conv=>whnf
   refine zaa ?_;exact hres [] (by rw [zxJ h1])
  ·rw [zz9 (show ¬((mkRat N (nat m)).den : Int)=1 by omega)];conv=>whnf
   refine zaa ?_;exact hres _ (by rw [zxI h1,zAi])
abbrev zBk:=@Nat.gcd_dvd_right
abbrev zBj:=@Int.ofNat_dvd_left
theorem znE (l : List UInt8) (h1 : l.length<=7) : Fn PP 231 [.string (bs l)] (.int .i64 (nat l)):=by
 refine zzn zab mixed Tryz.func231 rfl rfl (zxW rfl) ?_;intro w;conv=>whnf
 refine zal (ι:=Nat) (fun i=>⟨[(0,.o (.v (.string (bs l)))),(3,.o (.v (.int .i64 (nat (l.take i))))),(6,.o (.v (.int .i64 l.length))),(7,.o (.v (.int .i64 i)))],[],[]⟩)
  (fun i=>i<=l.length) (fun i=>l.length-i) 0 (zyD _) (zzj ⟨rfl,rfl,rfl,rfl,trivial⟩ trivial (fun R hR=>hR)) ?_
 intro i hi;conv=>whnf
 refine zaj ?_ ?_
 ·intro h2;have hi2 : i<l.length:=by
   have : (i : Int)<(l.length : Int):=zA0 h2;omega
  conv=>whnf
  refine ⟨by decide,?_⟩;conv=>whnf
  refine ⟨⟨by omega,by show (i : Int)<(l.length : Int); omega⟩,?_⟩;conv=>whnf
  obtain ⟨x,hx⟩ : ∃ x,x=l[i]:=⟨_,rfl⟩;have hg : l.getD i 0=x:=by rw [hx,zzO,zyy hi2]; rfl
  have htk : l.take (i+1)=l.take i++[x]:=by rw [zBa hi2,hx]
  have hnat : nat (l.take (i+1))=x.toNat+256*nat (l.take i):=by rw [htk,zdM]
  have hnb : nat (l.take i)<256 ^ 6:=za7 (by rw [zyI]; omega);have hxb : x.toNat<256:=x.toBitVec.isLt;have hor : IntKind.i64.wrap (BitVec.toNat (w:=64) (BitVec.ofInt 64 (IntKind.i64.wrap ((nat (l.take i) : Int)*2 ^ min (8 : Int).toNat IntKind.i64.bits)) ||| BitVec.ofInt 64 (IntKind.i64.wrap (sb (bs l) (i : Int)))) : Int)=(nat (l.take (i+1)) : Int):=by
   have e1 : IntKind.i64.wrap ((nat (l.take i) : Int)*2 ^ min (8 : Int).toNat IntKind.i64.bits)=((nat (l.take i)*2 ^ 8 : Nat) : Int):=by
    rw [show min (8 : Int).toNat IntKind.i64.bits=8 from rfl,wrap_i64 (by omega) (by omega)]; omega
   have e2 : IntKind.i64.wrap (sb (bs l) (i : Int))=(x.toNat : Int):=by
    rw [zgP,zzS,hg,wrap_i64 (by omega) (by omega)]
   rw [e1,e2,zAB,zaU (by omega),zaU (by omega),zzG,<-zAC (show x.toNat<2 ^ 8 by omega),hnat];rw [wrap_i64 (by omega) (by omega)]; omega
  refine ⟨i+1,by omega,by omega,zzj ⟨rfl,?_,rfl,?_,trivial⟩ trivial (fun R hR=>hR)⟩
  ·show some (SV.o (.v (.int .i64 (IntKind.i64.wrap (BitVec.toNat (w:=64) (BitVec.ofInt 64 _ ||| BitVec.ofInt 64 _) : Int)))))=some (SV.o (.v (.int .i64 (nat (l.take (i+1)) : Int))));rw [hor]
  ·show some (SV.o (.v (.int _ (IntKind.i64.wrap ((i : Int)+1)))))=some (SV.o (.v (.int _ ((i+1 : Nat) : Int))));rw [wrap_i64 (by omega) (by omega)]; rfl
 ·intro h2;have hi2 : i=l.length:=by
   have : ¬(i : Int)<(l.length : Int):=zA1 h2;omega
  subst hi2;rw [zAq];conv=>whnf
  exact zaa rfl
def mach (r : Raw) : Value:=if r.num.length<=3/\r.den.length<=3 then .tuple #[.int .i64 r.n,.int .i64 (r.d : Int),.bool true] else .tuple #[.int .i64 0,.int .i64 0,.bool false]
theorem zdE (r : Raw) : Fn PP 188 [rawV r] (mach r):=by
 refine zzn zab mixed Tryz.func188 rfl rfl (zxW rfl) ?_;intro w;have fin : r.num.length<=3->r.den.length<=3->mach r=.tuple #[.int .i64 r.n,.int .i64 (r.d : Int),.bool true]:=fun h1 h2=>by rw [mach,zxJ ⟨h1,h2⟩]
 have hmax : (if (1 : Int)>((nat r.den : Nat) : Int) then (1 : Int) else ((nat r.den : Nat) : Int))=(r.d : Int):=by
  unfold Raw.d dnm;by_cases h : nat r.den=0
  ·rw [zxJ h,zxJ (by omega)]; rfl
  ·rw [zxI h,zxI (by omega)]
 conv=>whnf
 refine zaj ?_ ?_
 ·intro h;have h1 : ¬r.num.length<=3:=by
   have : ((r.num.length : Nat) : Int)>3:=zA0 h;omega
  conv=>whnf
  refine zar ?_;rw [mach,zxI (fun h=>h1 h.1)]
 ·intro h;have h1 : r.num.length<=3:=by
   have : ¬((r.num.length : Nat) : Int)>3:=zA1 h;omega
  conv=>whnf
  refine zaj ?_ ?_
  ·intro h;have h2 : ¬r.den.length<=3:=by
    have : ((r.den.length : Nat) : Int)>3:=zA0 h;omega
   conv=>whnf
   refine zar ?_;rw [mach,zxI (fun h=>h2 h.2)]
  ·intro h;have h2 : r.den.length<=3:=by
    have : ¬((r.den.length : Nat) : Int)>3:=zA1 h;omega
   have hnb : nat r.num<16777216:=za7 h1;rw [fin h1 h2];conv=>whnf
   refine zak.qk ?_;conv=>whnf
   refine zzu (znE r.num (by omega)) rfl ?_;conv=>whnf
   refine zzu (znE r.den (by omega)) rfl ?_;obtain ⟨neg,num,den⟩:=r
   cases neg with
   | false =>
    conv=>whnf
    refine zar ?_;show Value.tuple #[.int .i64 (nat num : Int),.int .i64 (if (1 : Int)>((nat den : Nat) : Int) then (1 : Int) else ((nat den : Nat) : Int)),.bool true]=_;rw [hmax]; rfl
   | true =>
    conv=>whnf
    refine zar ?_;show Value.tuple #[.int .i64 (IntKind.i64.wrap (0-(nat num : Int))),.int .i64 (if (1 : Int)>((nat den : Nat) : Int) then (1 : Int) else ((nat den : Nat) : Int)),.bool true]=_;simp only at hnb;rw [hmax,wrap_i64 (by omega) (by omega),Int.zero_sub]; rfl
theorem zeN {n : Nat} (h : 0<n) : bytes n=bytes (n/256)++[UInt8.ofNat (n%256)]:=by
 unfold bytes;rw [zdR (by decide) h]; simp
theorem zti (n : Nat) (hn : n<9223372036854775808) : Fn PP 200 [.int .i64 n] (.string (bs (bytes n))):=by
 refine zzn zab mixed Tryz.func200 rfl rfl (zxW rfl) ?_;intro w;conv=>whnf
 refine zal (ι:=Nat×Nat×List UInt8) (fun ⟨i,c,L⟩=>⟨[(0,.o (.v (.int .i64 c))),(3,.o (.p 3 0)),(4,.o (.v (.int .i64 i)))],[(3,.sym (rowV u8c (List.replicate i 0++L)) zih)],[]⟩)
  (fun ⟨i,c,L⟩=>i+L.length=8/\c<256 ^ i/\bytes n=bytes c++L) (fun ⟨i,c,L⟩=>c) (8,n,[]) ⟨rfl,by omega,by simp⟩ (zzj ⟨rfl,rfl,rfl,trivial⟩ ⟨⟨_,rfl,.sym _ rfl⟩,trivial⟩ (fun R hR=>hR)) ?_
 rintro ⟨i,c,L⟩ ⟨hL,hc,hb⟩;conv=>whnf
 refine zaj ?_ ?_
 ·intro h;have hc0 : 0<c:=by
   have : (c : Int)>0:=zA0 h;omega
  conv=>whnf
  have hi0 : 0<i:=by
   rcases zyf i with h2 | h2
   ·rw [h2] at hc; omega
   ·exact h2
  obtain ⟨j,rfl⟩ : ∃ j,i=j+1:=⟨i-1,by omega⟩;have hij : IntKind.i64.wrap (((j+1 : Nat) : Int)-1)=(j : Int):=by rw [wrap_i64 (by omega) (by omega)]; omega
  refine ⟨by rw [hij]; show 0<=(j : Int)/\(j : Int)<((8 : Nat) : Int); omega,?_⟩;conv=>whnf
  refine ⟨by rw [hij,zad zbK]; show 0+j*1+1<=_; simp,?_⟩;conv=>whnf
  refine ⟨by decide,?_⟩;conv=>whnf
  have hcn : c<=n\/n<c:=by omega
  have hcb : c<9223372036854775808:=by
   have h8 : (256 : Nat) ^ (j+1)<=256 ^ 8:=zAa (by decide) (by omega);have hcm : nat (bytes c)<=nat (bytes n):=by
    rw [hb,zgc];have : nat (bytes c)*1<=nat (bytes c)*256 ^ L.length:=zzH _ (zAv (by decide));omega
   rw [zap,zap] at hcm;omega
  refine ⟨(j,c/256,UInt8.ofNat (c%256)::L),⟨by simp; omega,?_,?_⟩,by show c/256<c; omega,zzj ⟨?_,rfl,?_,trivial⟩ ⟨⟨_,rfl,?_⟩,trivial⟩ (fun R hR=>hR)⟩
  ·show c/256<256 ^ j;rw [zzD] at hc; omega
  ·rw [hb,zeN hc0]; simp
  ·show some (SV.o (.v (.int .i64 (Int.fdiv (c : Int) (2 ^ min (8 : Int).toNat IntKind.i64.bits)))))=some (SV.o (.v (.int .i64 ((c/256 : Nat) : Int))));rw [show min (8 : Int).toNat IntKind.i64.bits=8 from rfl,zAO _ (by decide)]; rfl
  ·show some (SV.o (.v (.int .i64 (IntKind.i64.wrap (((j+1 : Nat) : Int)-1)))))=some (SV.o (.v (.int .i64 (j : Int))));rw [hij]
  ·show MEle (ME.sym (putN (0+(IntKind.i64.wrap (((j+1 : Nat) : Int)-1)).toNat*1) [Value.int .u8 (IntKind.u8.wrap (c : Int))] (rowV u8c (List.replicate (j+1) 0++L))) _) (ME.sym (rowV u8c (List.replicate j 0++(UInt8.ofNat (c%256)::L))) _);have hw : IntKind.u8.wrap (c : Int)=((UInt8.ofNat (c%256)).toNat : Int):=by
    rw [zAN];have : (UInt8.ofNat (c%256)).toNat=c%256:=by simp
    rw [this]; omega
   have hput:=zcc (f:=u8c) zbK (k:=j) (l:=List.replicate (j+1) 0++L) (UInt8.ofNat (c%256)) (by simp; omega);have hset : (List.replicate (j+1) 0++L).set j (UInt8.ofNat (c%256))=List.replicate j 0++(UInt8.ofNat (c%256)::L):=by
    rw [zAT,zyF,zAR _ _ (by simp)];simp
   rw [hset] at hput;rw [hij,hw,zzS,zyo,<-hput];exact .refl _
 ·intro h;have hc0 : c=0:=by
   have : ¬(c : Int)>0:=zA1 h;omega
  subst hc0;rw [zaS,zzJ] at hb;conv=>whnf
  refine ⟨by show 0<=(i : Int)/\(i : Int)<=((8 : Nat) : Int)/\((8 : Nat) : Int)<=((8 : Nat) : Int); omega,?_⟩;conv=>whnf
  have hdrop : ((rowV u8c (List.replicate i 0++L)).drop (bif Nat.beq 8 ((i : Int).toNat) then 0 else 0+(i : Int).toNat*1)).take (((8 : Nat) : Int).toNat-(i : Int).toNat)=bytV L:=by
   rw [zzS,zzS]
   cases hb8 : Nat.beq 8 i with
   | true =>
    have h8:=zxj hb8;have hL0 : L=[]:=zyO.1 (by omega);rw [hL0,<-h8]; rfl
   | false =>
    rw [cond_false,zyo,zdH zbK];have : (List.replicate i 0++L).drop i=L:=by
     have:=List.drop_left (l₁:=List.replicate i (0 : UInt8)) (l₂:=L);rwa [zA7] at this
    rw [this,zdZ,show 8-i=L.length by omega];have : (bytV L).length=L.length:=by simp [bytV]
    rw [<-this,zAq]
  refine ⟨L,by rw [zzS,zzS]; omega,hdrop,?_⟩;conv=>whnf
  refine zaa ?_;rw [hb]; rfl
theorem znO {n : Int} (h : n.natAbs<4611686018427387904) : (if IntKind.i64.wrap (0-n)>n then IntKind.i64.wrap (0-n) else n)=(n.natAbs : Int):=by
 rw [wrap_i64 (by omega) (by omega)];by_cases h : 0-n>n
 ·rw [zxJ h]; omega
 ·rw [zxI h]; omega
theorem zqA (n d : Int) (hn : n.natAbs<4611686018427387904) (hd0 : 0<d) (hd : d<4611686018427387904) : Fn PP 144 [.int .i64 n,.int .i64 d] (qV (mkRat n d.natAbs)):=by
 refine zzn zab mixed Tryz.func144 rfl rfl (zxW rfl) ?_;intro w;conv=>whnf
 refine zal (ι:=Int×Int) (fun ⟨a,b⟩=>⟨[(0,.o (.v (.int .i64 n))),(1,.o (.v (.int .i64 d))),(4,.o (.p 4 0)),(5,.o (.v (.int .i64 a))),(6,.o (.v (.int .i64 b)))],[(4,.box [.v (.bool false),.v (.string ⟨#[]⟩),.v (.string ⟨#[]⟩)] zat)],[]⟩)
  (fun ⟨a,b⟩=>Nat.gcd a.natAbs b.natAbs=Nat.gcd n.natAbs d.natAbs/\a.natAbs<4611686018427387904/\b.natAbs<4611686018427387904) (fun ⟨a,b⟩=>b.natAbs) (n,d) ⟨rfl,hn,by omega⟩ (zzj ⟨rfl,rfl,rfl,rfl,rfl,trivial⟩ ⟨mrf rfl,trivial⟩ (fun R hR=>hR)) ?_
 rintro ⟨a,b⟩ ⟨hg,ha,hb⟩;conv=>whnf
 refine zaj ?_ ?_
 ·intro h;have hb0 : b≠0:=by intro h0; rw [h0] at h; exact absurd h (by decide)
  conv=>whnf
  refine zak.qk ?_;conv=>whnf
  refine ⟨hb0,?_⟩;conv=>whnf
  have hm : (a.tmod b).natAbs=a.natAbs%b.natAbs:=Int.natAbs_tmod a b;have hlt : a.natAbs%b.natAbs<b.natAbs:=zyl _ (by omega);refine ⟨(b,a.tmod b),⟨by rw [hm,<-hg,zBb a.natAbs,zBc b.natAbs a.natAbs,zBb],hb,by omega⟩,by show (a.tmod b).natAbs<b.natAbs; omega,zzj ⟨rfl,rfl,rfl,rfl,?_,trivial⟩ ⟨mrf rfl,trivial⟩ (fun R hR=>hR)⟩;show some (SV.o (.v (.int .i64 (Int.tmod a b))))=some (SV.o (.v (.int .i64 (a.tmod b))));rfl
 ·intro h;have hb0 : b=0:=by
   by_cases h0 : b=0
   ·exact h0
   ·simp at h; exact absurd h h0
  subst hb0;rw [zBg,zBd] at hg;have hd1 : d.natAbs≠0:=by omega
  have hG : a.natAbs=Nat.gcd d.natAbs n.natAbs:=by rw [hg,zBb]
  have hGp : 0<a.natAbs:=by rw [hG]; exact Nat.gcd_pos_of_pos_left _ (by omega)
  have hwa:=znO ha;have hwn:=znO hn;conv=>whnf
  refine zaj ?_ ?_
  ·intro h0;have hn0 : n=0:=eq_of_beq h0;conv=>whnf
   refine zaa ?_;rw [hn0,Rat.zero_mkRat,qV,zd8]; rfl
  ·intro h0;have hn0 : n≠0:=ne_of_beq_false h0;conv=>whnf
   rw [hwa];refine ⟨by omega,?_⟩;conv=>whnf
   have hnum : (mkRat n d.natAbs).num.natAbs=n.natAbs/a.natAbs:=by
    rw [zAb,zxI hd1,hG,Int.natAbs_ediv_of_dvd (zBj.2 (zBk _ _)),zAi]
   have hden : (mkRat n d.natAbs).den=d.natAbs/a.natAbs:=by rw [zAd,zxI hd1,hG]
   have hneg : decide (n<0)=decide (mkRat n d.natAbs<0):=by
    have : (mkRat n d.natAbs).num<0↔n<0:=by
     rw [zAb,zxI hd1,<-hG];obtain ⟨c,hc⟩ : ((a.natAbs : Nat) : Int) ∣ n:=by rw [hG]; exact zBj.2 (zBk _ _)
     rw [hc,Int.mul_ediv_cancel_left _ (by omega)];constructor
     ·intro h; exact Int.mul_neg_of_pos_of_neg (by omega) h
     ·intro h;rcases Int.lt_or_le c 0 with h2 | h2
      ·exact h2
      ·have:=Int.mul_nonneg (show 0<=((a.natAbs : Nat) : Int) by omega) h2;omega
    exact decide_eq_decide.2 (this.symm.trans zdb)
   have hq1 : Int.tdiv (n.natAbs : Int) (a.natAbs : Int)=((n.natAbs/a.natAbs : Nat) : Int):=by rw [zAD (by omega)]; rfl
   have hq2 : Int.tdiv d (a.natAbs : Int)=((d.natAbs/a.natAbs : Nat) : Int):=by
    rw [zAD (by omega)]
    conv=>lhs; rw [show d=((d.natAbs : Nat) : Int) by omega]
    rfl
   have hle1 : n.natAbs/a.natAbs<=n.natAbs:=zAe _ _;have hle2 : d.natAbs/a.natAbs<=d.natAbs:=zAe _ _;have hv1 : IntKind.i64.wrap (Int.tdiv (if IntKind.i64.wrap (0-n)>n then IntKind.i64.wrap (0-n) else n) (a.natAbs : Int))=((n.natAbs/a.natAbs : Nat) : Int):=by
    rw [hwn,hq1,wrap_i64 (by omega) (by omega)]
   have hv2 : IntKind.i64.wrap (Int.tdiv d (a.natAbs : Int))=((d.natAbs/a.natAbs : Nat) : Int):=by
    rw [hq2,wrap_i64 (by omega) (by omega)]
   refine zzt (zti (n.natAbs/a.natAbs) (by omega)) (zyr (fun z=>[SV.o (.v (.int .i64 z))]) hv1) ?_;have hres : ∀ D : List UInt8,D=(if (mkRat n d.natAbs).den=1 then [] else bytes (mkRat n d.natAbs).den)->(Value.agg ⟨[.bool (decide (n<0)),.string (bs (bytes (n.natAbs/a.natAbs))),.string (bs D)]⟩)=qV (mkRat n d.natAbs):=by
    intro D hD;rw [hD];simp only [qV,rawV,Q,hnum,hneg]
   have hone : (mkRat n d.natAbs).den=1↔d=(a.natAbs : Int):=by
    rw [hden];obtain ⟨c,hc⟩ : a.natAbs ∣ d.natAbs:=by rw [hG]; exact Nat.gcd_dvd_left _ _
    rw [hc,Nat.mul_div_cancel_left _ hGp];constructor
    ·intro h; rw [h,zyR] at hc; omega
    ·intro h;have h3 : d.natAbs=a.natAbs:=by omega
     rw [h3] at hc;have : a.natAbs*1=a.natAbs*c:=by omega
     exact (Nat.eq_of_mul_eq_mul_left hGp this).symm
   conv=>whnf
   refine zaj ?_ ?_
   ·intro h3;have h4 : ¬(mkRat n d.natAbs).den=1:=by
     rw [hone]; intro h5; rw [<-h5] at h3; simp at h3
    conv=>whnf
    refine ⟨by omega,?_⟩;conv=>whnf
    refine zzt (zti (d.natAbs/a.natAbs) (by omega)) (zyr (fun z=>[SV.o (.v (.int .i64 z))]) hv2) ?_;conv=>whnf
    refine zaa ?_;exact hres _ (by rw [zxI h4,hden])
   ·intro h3;have h4 : (mkRat n d.natAbs).den=1:=by
     rw [hone];by_cases h5 : d=(a.natAbs : Int)
     ·exact h5
     ·simp [h5] at h3
    conv=>whnf
    refine zaa ?_;exact hres [] (by rw [zxJ h4])
end Go.Sx
end
section
namespace Go.Sx
def cmpQ (x y : Rat) : Int:=if x<y then -1 else if y<x then 1 else 0
structure V where
 x : Rat
 y : Rat
deriving DecidableEq
instance : Add V:=⟨fun a b=>⟨a.x+b.x,a.y+b.y⟩⟩
instance : Sub V:=⟨fun a b=>⟨a.x-b.x,a.y-b.y⟩⟩
def V.scale (a : V) (t : Rat) : V:=⟨a.x*t,a.y*t⟩
def V.cross (a b : V) : Rat:=a.x*b.y-a.y*b.x
def V.at (a b : V) (t : Rat) : V:=a+(b-a).scale t
def cmpV (a b : V) : Int:=if cmpQ a.x b.x≠0 then cmpQ a.x b.x else cmpQ a.y b.y
@[simp] theorem V.add_x (a b : V) : (a+b).x=a.x+b.x:=rfl
@[simp] theorem V.add_y (a b : V) : (a+b).y=a.y+b.y:=rfl
@[simp] theorem V.sub_x (a b : V) : (a-b).x=a.x-b.x:=rfl
@[simp] theorem V.sub_y (a b : V) : (a-b).y=a.y-b.y:=rfl
def zbW (a b p : V) : Bool:=decide (cmpQ ((b-a).cross (p-a)) 0=0)&&(decide (0<=cmpV a p*cmpV p b)&&(decide (cmpV a b≠0)||decide (cmpV a p=0)))
def zdK (t : Rat) : Bool:=decide (0<=cmpQ t 0)&&decide (cmpQ t 1<=0)
def ordV (a b : V) : V×V:=if cmpV a b>0 then (b,a) else (a,b)
def gtV (p q : V) : V:=if cmpV p q<0 then q else p
def ltV (p q : V) : V:=if cmpV p q<0 then p else q
def zbV (a b c d : V) : Option (V×V) :=
 if cmpQ ((b-a).cross (d-c)) 0≠0 then
  if !zdK ((c-a).cross (d-c)/(b-a).cross (d-c))||!zdK ((c-a).cross (b-a)/(b-a).cross (d-c)) then none
  else some (a.at b ((c-a).cross (d-c)/(b-a).cross (d-c)),a.at b ((c-a).cross (d-c)/(b-a).cross (d-c)))
 else if cmpQ ((b-a).cross (c-a)) 0≠0 then none
 else if cmpV (gtV (ordV a b).1 (ordV c d).1) (ltV (ordV a b).2 (ordV c d).2)>0 then none
 else some (gtV (ordV a b).1 (ordV c d).1,ltV (ordV a b).2 (ordV c d).2)
end Go.Sx
end
section
namespace Go.Sx
open Go Go.Proofs
abbrev zBm:=@Rat.mkRat_mul_mkRat
abbrev zBl:=@Rat.mkRat_add_mkRat
abbrev KK : Nat:=100000000
theorem zs5 {n : Int} {d : Nat} (hd : 0<d) : mkRat n d<0↔n<0:=by
 rw [<-zdb,zAb,zxI (by omega)];have hg : 0<d.gcd n.natAbs:=Nat.gcd_pos_of_pos_left _ hd;obtain ⟨c,hc⟩ : ((d.gcd n.natAbs : Nat) : Int) ∣ n:=zBj.2 (zBk _ _);generalize d.gcd n.natAbs=g at *;rw [hc,Int.mul_ediv_cancel_left _ (by omega)];constructor
 ·intro h; exact Int.mul_neg_of_pos_of_neg (by omega) h
 ·intro h;rcases Int.lt_or_le c 0 with h2 | h2
  ·exact h2
  ·have:=Int.mul_nonneg (show 0<=(g : Int) by omega) h2;omega
theorem zvm {a b : Int} {c d : Nat} (hc : 0<c) (hd : 0<d) : mkRat a c<mkRat b d↔a*d<b*c:=by
 have h1 : mkRat a c<mkRat b d↔mkRat a c-mkRat b d<0:=by
  rw [Rat.lt_iff_sub_pos,Rat.lt_iff_sub_pos (mkRat a c-mkRat b d)];have : 0-(mkRat a c-mkRat b d)=mkRat b d-mkRat a c:=by grind
  rw [this]
 rw [h1,zAj,Rat.neg_mkRat,zBl _ _ (by omega) (by omega),zs5 (zyN hc hd),Int.neg_mul];omega
theorem zf5 (r s : Raw) : cmpQ r.v s.v=cmpZ (r.n*s.d) (s.n*r.d):=by
 unfold cmpQ cmpZ Raw.v;simp only [zvm r.d_pos s.d_pos,zvm s.d_pos r.d_pos]
theorem zei (N M : Int) (hN : (bytes N.natAbs).length<=1000000000) (hM : (bytes M.natAbs).length<=1000000000) (h0 : 0<M) : Fn PP 128 [zfW (decide (N<0)) (bs (bytes N.natAbs)) (decide (M<0)) (bs (bytes M.natAbs))] (qV (mkRat N M.natAbs)):=by
 rw [zz9 (show ¬M<0 by omega)];have:=zmW (decide (N<0)) (bytes N.natAbs) (bytes M.natAbs) hN hM (by rw [zap]; omega);rw [zap,zap,sg_z] at this;exact this
theorem zvY (x y : Int) (hx : (bytes x.natAbs).length<=10000000000) (hy : (bytes y.natAbs).length<=10000000000) : Fn PP 186 [zV x,zV y] (zV (x+y)):=by
 have:=zts (decide (x<0)) (decide (y<0)) (bytes x.natAbs) (bytes y.natAbs) hx hy;rw [zap,zap,sg_z,sg_z] at this;exact this
theorem zoi (x y : Int) (hx : (bytes x.natAbs).length<=10000000000) (hy : (bytes y.natAbs).length<=10000000000) : Fn PP 125 [zV x,zV y] (.int .i64 (cmpZ x y)):=by
 have:=zfD (decide (x<0)) (decide (y<0)) (bytes x.natAbs) (bytes y.natAbs) hx hy;rw [zap,zap,sg_z,sg_z] at this;exact this
def zl (x : Int) : Nat:=(bytes x.natAbs).length
theorem ze2 {x : Int} {k : Nat} (h : x.natAbs<256 ^ k) : zl x<=k:=zbd h
theorem zcB {x y : Int} {k m : Nat} (hx : x.natAbs<256 ^ k) (hy : y.natAbs<256 ^ m) : (x*y).natAbs<256 ^ (k+m):=by
 rw [zAh]; exact zbZ hx hy
theorem zms {x y : Int} {k : Nat} (hx : x.natAbs<256 ^ k) (hy : y.natAbs<256 ^ k) : (x+y).natAbs<256 ^ (k+1):=by
 have:=Int.natAbs_add_le x y;rw [zzD]; omega
theorem Raw.dz {r : Raw} : sg false (nat r.den1)=(r.d : Int):=by rw [zBh]; rfl
section
variable {r s : Raw} (hr : r.sm KK) (hs : s.sm KK)
include hr
theorem zcD : r.n.natAbs<256 ^ KK:=by rw [Raw.n,zbb]; exact za7 hr.1
theorem zcU : ((r.d : Int)).natAbs<256 ^ KK:=by
 rw [zAi,<-zBh]; exact za7 (zBi (by decide) hr.2)
theorem zpm (hs : s.sm KK) : Fn PP 126 [intV r.neg (bs r.num),intV false (bs s.den1)] (zV (r.n*s.d)):=by
 have:=zri r.neg false r.num s.den1 (zxs hr.1 (by decide)) (zxs (zBi (by decide) hs.2) (by decide));rw [Raw.dz] at this; exact this
theorem zu6 (hs : s.sm KK) : Fn PP 126 [intV false (bs r.den1),intV false (bs s.den1)] (zV ((r.d : Int)*s.d)):=by
 have:=zri false false r.den1 s.den1 (zxs (zBi (by decide) hr.2) (by decide)) (zxs (zBi (by decide) hs.2) (by decide));rw [Raw.dz,Raw.dz] at this; exact this
theorem zw1 (hs : s.sm KK) : Fn PP 126 [intV r.neg (bs r.num),intV s.neg (bs s.num)] (zV (r.n*s.n)) :=
 zri r.neg s.neg r.num s.num (zxs hr.1 (by decide)) (zxs hs.1 (by decide))
theorem zwy (hs : s.sm KK) : Fn PP 126 [intV false (bs r.den1),intV s.neg (bs s.num)] (zV ((r.d : Int)*s.n)):=by
 have:=zri false s.neg r.den1 s.num (zxs (zBi (by decide) hr.2) (by decide)) (zxs hs.1 (by decide));rw [Raw.dz] at this; exact this
end
abbrev fnV (f : FuncId) : Value:=.func (.func f) #[] #[]
theorem dpos (r s : Raw) : 0<(r.d : Int)*(s.d : Int):=Int.mul_pos (by have:=r.d_pos; omega) (by have:=s.d_pos; omega)
theorem dnat (r s : Raw) : ((r.d : Int)*(s.d : Int)).natAbs=r.d*s.d:=by rw [zAh,zAi,zAi]
theorem zvA (r s : Raw) (hr : r.sm KK) (hs : s.sm KK) : Fn PP 185 [zfW r.neg (bs r.num) false (bs r.den1),zfW s.neg (bs s.num) false (bs s.den1)] (qV (r.v+s.v)):=by
 refine zzn zab mixed Tryz.func185 rfl rfl (zxW rfl) ?_;intro w;have b1:=zcB (zcD hr) (zcU hs);have b2:=zcB (zcD hs) (zcU hr);have b3:=zms b1 b2;have b4:=zcB (zcU hr) (zcU hs);conv=>whnf
 refine zak.qk ?_;conv=>whnf
 refine zzu (zpm hr hs) rfl ?_;conv=>whnf
 refine zzu (zpm hs hr) rfl ?_;conv=>whnf
 refine zzu (zvY (r.n*s.d) (s.n*r.d) (zxs (ze2 b1) (by decide)) (zxs (ze2 b2) (by decide))) rfl ?_;conv=>whnf
 refine zzu (zu6 hr hs) rfl ?_;conv=>whnf
 refine zzu (zei (r.n*s.d+s.n*r.d) ((r.d : Int)*s.d) (zxs (ze2 b3) (by decide)) (zxs (ze2 b4) (by decide)) (dpos r s)) rfl ?_;conv=>whnf
 refine zaa ?_;rw [dnat,Raw.v,Raw.v,zBl _ _ r.d_ne s.d_ne]
theorem zvV (r s : Raw) (hr : r.sm KK) (hs : s.sm KK) : Fn PP 145 [zfW r.neg (bs r.num) false (bs r.den1),zfW s.neg (bs s.num) false (bs s.den1)] (qV (r.v*s.v)):=by
 refine zzn zab mixed Tryz.func145 rfl rfl (zxW rfl) ?_;intro w;have b1:=zcB (zcD hr) (zcD hs);have b4:=zcB (zcU hr) (zcU hs);conv=>whnf
 refine zak.qk ?_;conv=>whnf
 refine zzu (zw1 hr hs) rfl ?_;conv=>whnf
 refine zzu (zu6 hr hs) rfl ?_;conv=>whnf
 refine zzu (zei (r.n*s.n) ((r.d : Int)*s.d) (zxs (ze2 b1) (by decide)) (zxs (ze2 b4) (by decide)) (dpos r s)) rfl ?_;conv=>whnf
 refine zaa ?_;rw [dnat,Raw.v,Raw.v,zBm]
theorem zoI (r s : Raw) (hr : r.sm KK) (hs : s.sm KK) : Fn PP 124 [zfW r.neg (bs r.num) false (bs r.den1),zfW s.neg (bs s.num) false (bs s.den1)] (.int .i64 (cmpQ r.v s.v)):=by
 refine zzn zab mixed Tryz.func124 rfl rfl (zxW rfl) ?_;intro w;have b1:=zcB (zcD hr) (zcU hs);have b2:=zcB (zcD hs) (zcU hr);conv=>whnf
 refine zak.qk ?_;conv=>whnf
 refine zzu (zpm hr hs) rfl ?_;conv=>whnf
 refine zzu (zpm hs hr) rfl ?_;conv=>whnf
 refine zzu (zoi (r.n*s.d) (s.n*r.d) (zxs (ze2 b1) (by decide)) (zxs (ze2 b2) (by decide))) rfl ?_;conv=>whnf
 refine zaa ?_;rw [zf5]
abbrev Raw.little (r : Raw) : Prop:=r.num.length<=3/\r.den.length<=3
theorem Raw.little_n {r : Raw} (h : r.little) : r.n.natAbs<16777216:=by rw [Raw.n,zbb]; exact za7 h.1
abbrev zBn:=@Raw.little_n
theorem Raw.little_d {r : Raw} (h : r.little) : r.d<16777216:=Raw.d_bound (by decide) h.2
abbrev zBo:=@Raw.little_d
theorem zdf {a b : Int} (ha : a.natAbs<16777216) (hb : b.natAbs<16777216) : (a*b).natAbs<281474976710656:=by
 rw [zAh]; exact Nat.mul_lt_mul'' ha hb
theorem zm4 {a b c d : Int} (h : a=c) (k : b=d) : [SV.o (.v (.int .i64 a)),SV.o (.v (.int .i64 b))]=vsv [.int .i64 c,.int .i64 d]:=by rw [h,k]; rfl
theorem zvX (r s : Raw) (hr : r.little) (hs : s.little) : Fn PP 184 [.int .i64 r.n,.int .i64 r.d,.int .i64 s.n,.int .i64 s.d] (qV (r.v+s.v)):=by
 refine zzn zab mixed Tryz.func184 rfl rfl (zxW rfl) ?_;intro w;have b1:=zdf (zBn hr) (show ((s.d : Nat) : Int).natAbs<16777216 by rw [zAi]; exact zBo hs);have b2:=zdf (zBn hs) (show ((r.d : Nat) : Int).natAbs<16777216 by rw [zAi]; exact zBo hr);have b3:=zdf (show ((r.d : Nat) : Int).natAbs<16777216 by rw [zAi]; exact zBo hr) (show ((s.d : Nat) : Int).natAbs<16777216 by rw [zAi]; exact zBo hs);have hp:=dpos r s;have h1 : IntKind.i64.wrap (IntKind.i64.wrap (r.n*(s.d : Int))+IntKind.i64.wrap (s.n*(r.d : Int)))=r.n*s.d+s.n*r.d:=by
  rw [wrap_i64 (n:=r.n*(s.d : Int)) (by omega) (by omega),wrap_i64 (n:=s.n*(r.d : Int)) (by omega) (by omega),wrap_i64 (by omega) (by omega)]
 have h2 : IntKind.i64.wrap ((r.d : Int)*(s.d : Int))=(r.d : Int)*s.d:=wrap_i64 (by omega) (by omega);conv=>whnf
 refine zzt (zqA (r.n*s.d+s.n*r.d) ((r.d : Int)*s.d) (by omega) hp (by omega)) (zm4 h1 h2) ?_;conv=>whnf
 refine zaa ?_;rw [dnat,Raw.v,Raw.v,zBl _ _ r.d_ne s.d_ne]
theorem zwo (r s : Raw) (hr : r.little) (hs : s.little) : Fn PP 143 [.int .i64 r.n,.int .i64 r.d,.int .i64 s.n,.int .i64 s.d] (qV (r.v*s.v)):=by
 refine zzn zab mixed Tryz.func143 rfl rfl (zxW rfl) ?_;intro w;have b1:=zdf (zBn hr) (zBn hs);have b3:=zdf (show ((r.d : Nat) : Int).natAbs<16777216 by rw [zAi]; exact zBo hr) (show ((s.d : Nat) : Int).natAbs<16777216 by rw [zAi]; exact zBo hs);have hp:=dpos r s;have h1 : IntKind.i64.wrap (r.n*s.n)=r.n*s.n:=wrap_i64 (by omega) (by omega);have h2 : IntKind.i64.wrap ((r.d : Int)*(s.d : Int))=(r.d : Int)*s.d:=wrap_i64 (by omega) (by omega);conv=>whnf
 refine zzt (zqA (r.n*s.n) ((r.d : Int)*s.d) (by omega) hp (by omega)) (zm4 h1 h2) ?_;conv=>whnf
 refine zaa ?_;rw [dnat,Raw.v,Raw.v,zBm]
theorem zoJ (r s : Raw) (hr : r.little) (hs : s.little) : Fn PP 123 [.int .i64 r.n,.int .i64 r.d,.int .i64 s.n,.int .i64 s.d] (.int .i64 (cmpQ r.v s.v)):=by
 refine zzn zab mixed Tryz.func123 rfl rfl (zxW rfl) ?_;intro w;have b1:=zdf (zBn hr) (show ((s.d : Nat) : Int).natAbs<16777216 by rw [zAi]; exact zBo hs);have b2:=zdf (zBn hs) (show ((r.d : Nat) : Int).natAbs<16777216 by rw [zAi]; exact zBo hr);have h1 : IntKind.i64.wrap (r.n*(s.d : Int))=r.n*s.d:=wrap_i64 (by omega) (by omega);have h2 : IntKind.i64.wrap (s.n*(r.d : Int))=s.n*r.d:=wrap_i64 (by omega) (by omega);rw [zf5];conv=>whnf
 refine zaj ?_ ?_
 ·intro h;have h3 : IntKind.i64.wrap (r.n*(s.d : Int))<IntKind.i64.wrap (s.n*(r.d : Int)):=zA0 h;rw [h1,h2] at h3;conv=>whnf
  refine zaa ?_;rw [zge h3]
 ·intro h;have h3 : ¬IntKind.i64.wrap (r.n*(s.d : Int))<IntKind.i64.wrap (s.n*(r.d : Int)):=zA1 h;rw [h1,h2] at h3;conv=>whnf
  refine zaj ?_ ?_
  ·intro h;have h4 : IntKind.i64.wrap (r.n*(s.d : Int))>IntKind.i64.wrap (s.n*(r.d : Int)):=zA0 h;rw [h1,h2] at h4;conv=>whnf
   refine zaa ?_;rw [zgk h4]
  ·intro h;have h4 : ¬IntKind.i64.wrap (r.n*(s.d : Int))>IntKind.i64.wrap (s.n*(r.d : Int)):=zA1 h;rw [h1,h2] at h4;conv=>whnf
   refine zaa ?_;rw [cmpZ,zxI h3,zxI h4]
theorem zqz (r s : Raw) (f g : FuncId) (t : Raw) (hr : r.sm KK) (hs : s.sm KK) (hf : r.little->s.little->Fn PP f [.int .i64 r.n,.int .i64 r.d,.int .i64 s.n,.int .i64 s.d] (rawV t))
  (hg : Fn PP g [zfW r.neg (bs r.num) false (bs r.den1),zfW s.neg (bs s.num) false (bs s.den1)] (rawV t)) : Fn PP 142 [rawV r,rawV s,fnV f,fnV g] (rawV t):=by
 refine zzn zab mixed Tryz.func142 rfl rfl (zxW rfl) ?_;intro w;have big : r.sm 10000000000:=⟨zxs hr.1 (by decide),zxs hr.2 (by decide)⟩;have big' : s.sm 10000000000:=⟨zxs hs.1 (by decide),zxs hs.2 (by decide)⟩;conv=>whnf
 refine zzt (zdE r) rfl ?_;by_cases h1 : r.little
 ·rw [mach,zxJ h1];conv=>whnf
  refine zzt (zdE s) rfl ?_;by_cases h2 : s.little
  ·rw [mach,zxJ h2];conv=>whnf
   refine zzt (hf h1 h2) rfl ?_;conv=>whnf
   exact zaa rfl
  ·rw [mach,zxI h2];conv=>whnf
   refine zak.qk ?_;conv=>whnf
   refine zzu (c_of r big) rfl ?_;conv=>whnf
   refine zzu (c_of s big') rfl ?_;conv=>whnf
   refine zzu hg rfl ?_;conv=>whnf
   exact zaa rfl
 ·rw [mach,zxI h1];conv=>whnf
  refine zzt (zdE s) rfl ?_;by_cases h2 : s.little
  ·rw [mach,zxJ h2];conv=>whnf
   refine zak.qk ?_;conv=>whnf
   refine zzu (c_of r big) rfl ?_;conv=>whnf
   refine zzu (c_of s big') rfl ?_;conv=>whnf
   refine zzu hg rfl ?_;conv=>whnf
   exact zaa rfl
  ·rw [mach,zxI h2];conv=>whnf
   refine zak.qk ?_;conv=>whnf
   refine zzu (c_of r big) rfl ?_;conv=>whnf
   refine zzu (c_of s big') rfl ?_;conv=>whnf
   refine zzu hg rfl ?_;conv=>whnf
   exact zaa rfl
theorem zus (r s : Raw) (f g : FuncId) (t : Int) (hr : r.sm KK) (hs : s.sm KK) (hf : r.little->s.little->Fn PP f [.int .i64 r.n,.int .i64 r.d,.int .i64 s.n,.int .i64 s.d] (.int .i64 t))
  (hg : Fn PP g [zfW r.neg (bs r.num) false (bs r.den1),zfW s.neg (bs s.num) false (bs s.den1)] (.int .i64 t)) : Fn PP 122 [rawV r,rawV s,fnV f,fnV g] (.int .i64 t):=by
 refine zzn zab mixed Tryz.func122 rfl rfl (zxW rfl) ?_;intro w;have big : r.sm 10000000000:=⟨zxs hr.1 (by decide),zxs hr.2 (by decide)⟩;have big' : s.sm 10000000000:=⟨zxs hs.1 (by decide),zxs hs.2 (by decide)⟩;conv=>whnf
 refine zzt (zdE r) rfl ?_;by_cases h1 : r.little
 ·rw [mach,zxJ h1];conv=>whnf
  refine zzt (zdE s) rfl ?_;by_cases h2 : s.little
  ·rw [mach,zxJ h2];conv=>whnf
   refine zzt (hf h1 h2) rfl ?_;conv=>whnf
   exact zaa rfl
  ·rw [mach,zxI h2];conv=>whnf
   refine zak.qk ?_;conv=>whnf
   refine zzu (c_of r big) rfl ?_;conv=>whnf
   refine zzu (c_of s big') rfl ?_;conv=>whnf
   refine zzu hg rfl ?_;conv=>whnf
   exact zaa rfl
 ·rw [mach,zxI h1];conv=>whnf
  refine zzt (zdE s) rfl ?_;by_cases h2 : s.little
  ·rw [mach,zxJ h2];conv=>whnf
   refine zak.qk ?_;conv=>whnf
   refine zzu (c_of r big) rfl ?_;conv=>whnf
   refine zzu (c_of s big') rfl ?_;conv=>whnf
   refine zzu hg rfl ?_;conv=>whnf
   exact zaa rfl
  ·rw [mach,zxI h2];conv=>whnf
   refine zak.qk ?_;conv=>whnf
   refine zzu (c_of r big) rfl ?_;conv=>whnf
   refine zzu (c_of s big') rfl ?_;conv=>whnf
   refine zzu hg rfl ?_;conv=>whnf
   exact zaa rfl
theorem zkl (r s : Raw) (hr : r.sm KK) (hs : s.sm KK) : Fn PP 119 [rawV r,rawV s] (qV (r.v+s.v)):=by
 refine zzn zab mixed Tryz.func119 rfl rfl (zxW rfl) ?_;intro w;conv=>whnf
 refine zzt (zqz r s 184 185 (Q (r.v+s.v)) hr hs (zvX r s) (zvA r s hr hs)) rfl ?_;conv=>whnf
 exact zaa rfl
theorem ziQ (r s : Raw) (hr : r.sm KK) (hs : s.sm KK) : Fn PP 79 [rawV r,rawV s] (qV (r.v*s.v)):=by
 refine zzn zab mixed Tryz.func79 rfl rfl (zxW rfl) ?_;intro w;conv=>whnf
 refine zzt (zqz r s 143 145 (Q (r.v*s.v)) hr hs (zwo r s) (zvV r s hr hs)) rfl ?_;conv=>whnf
 exact zaa rfl
theorem zbp (r s : Raw) (hr : r.sm KK) (hs : s.sm KK) : Fn PP 63 [rawV r,rawV s] (.int .i64 (cmpQ r.v s.v)):=by
 refine zzn zab mixed Tryz.func63 rfl rfl (zxW rfl) ?_;intro w;conv=>whnf
 refine zzt (zus r s 123 124 (cmpQ r.v s.v) hr hs (zoJ r s) (zoI r s hr hs)) rfl ?_;conv=>whnf
 exact zaa rfl
abbrev zBq:=@Rat.divInt_ofNat
def Raw.opp (r : Raw) : Raw:=⟨!r.neg,r.num,r.den⟩
theorem Raw.opp_v (r : Raw) : r.opp.v=-r.v:=by
 have h1 : r.opp.n=-r.n:=zpf r.neg (nat r.num);have h2 : r.opp.d=r.d:=rfl;rw [Raw.v,Raw.v,Rat.neg_mkRat,h1,h2]
theorem Raw.opp_sm {r : Raw} {k : Nat} (h : r.sm k) : r.opp.sm k:=h
abbrev zBp:=@Raw.opp_sm
theorem Raw.big {r : Raw} (hr : r.sm KK) : r.sm 10000000000:=⟨zxs hr.1 (by decide),zxs hr.2 (by decide)⟩
theorem zvu (r : Raw) (hr : r.sm KK) : Fn PP 128 [zfW r.neg (bs r.num) false (bs r.den1)] (qV r.v):=by
 have:=zmW r.neg r.num r.den1 (zxs hr.1 (by decide)) (zxs (zBi (by decide) hr.2) (by decide)) (by rw [zBh]; exact r.d_pos);rw [zBh] at this;exact this
theorem zv0 (r : Raw) (hr : r.sm KK) : Fn PP 68 [rawV r] (qV (-r.v)):=by
 refine zzn zab mixed Tryz.func68 rfl rfl (zxW rfl) ?_;intro w;conv=>whnf
 refine zzt (c_of r.opp (Raw.big (zBp hr))) rfl ?_;conv=>whnf
 refine zzt (zvu r.opp (zBp hr)) rfl ?_;conv=>whnf
 refine zaa ?_;rw [Raw.opp_v]
theorem zec (r s : Raw) (hr : r.sm KK) (hs : s.sm KK) : Fn PP 66 [rawV r,rawV s] (qV (r.v-s.v)):=by
 refine zzn zab mixed Tryz.func66 rfl rfl (zxW rfl) ?_;intro w;conv=>whnf
 refine zzt (zkl r s.opp hr (zBp hs)) rfl ?_;conv=>whnf
 refine zaa ?_;rw [Raw.opp_v,zAj]
theorem zpz (r : Raw) : cmpQ r.v 0=cmpZ r.n 0:=by
 have h:=zf5 r ⟨false,[],[]⟩;rw [Raw.zero_v] at h;rw [h];have e1 : ((⟨false,[],[]⟩ : Raw).d : Int)=1:=rfl;have e2 : (⟨false,[],[]⟩ : Raw).n=0:=rfl;rw [e1,e2,Int.mul_one,Int.zero_mul]
theorem zes (r : Raw) (hr : r.sm KK) : Fn PP 69 [rawV r] (.int .i64 (cmpQ r.v 0)):=by
 refine zzn zab mixed Tryz.func69 rfl rfl (zxW rfl) ?_;intro w;conv=>whnf
 refine zzt (c_of r (Raw.big hr)) rfl ?_;conv=>whnf
 refine zzt (zfD r.neg false r.num [] (zxs hr.1 (by decide)) (by decide)) rfl ?_;conv=>whnf
 refine zaa ?_;rw [zpz]; rfl
theorem zs9 (n : Int) : mkRat n 1=(n : Rat):=Rat.mkRat_self (n : Rat)
theorem zqP (n : Int) (h1 : -9223372036854775808<=n) (h2 : n<=9223372036854775807) : Fn PP 64 [.int .i64 n] (qV (n : Rat)):=by
 refine zzn zab mixed Tryz.func64 rfl rfl (zxW rfl) ?_;intro w;conv=>whnf
 refine zzt (c_Of n h1 h2) rfl ?_;conv=>whnf
 refine zzt (c_Of 1 (by decide) (by decide)) rfl ?_;conv=>whnf
 refine zzt (zei n 1 (zxs (zbd (k:=8) (by omega)) (by decide)) (zxs (zbd (k:=1) (by decide)) (by decide)) (by decide)) rfl ?_;conv=>whnf
 refine zaa ?_;rw [show ((1 : Int)).natAbs=1 from rfl,zs9]
theorem zsU (x : Int) (hx : (bytes x.natAbs).length<=10000000000) : Fn PP 197 [zV x] (zV (-x)):=by
 have:=zwS (decide (x<0)) (bytes x.natAbs) hx;rw [zap,sg_z] at this;exact this
def newV (x y : Int) : Value:=if y=0 then .tuple #[qV 0,.int .i64 10] else .tuple #[qV (Rat.divInt x y),.int .i64 0]
theorem q0 : qV 0=.agg ⟨[.bool false,.string ⟨#[]⟩,.string ⟨#[]⟩]⟩:=by rw [qV,zd8]; rfl
theorem zvq (x y : Int) (hx : (bytes x.natAbs).length<=1000000000) (hy : (bytes y.natAbs).length<=1000000000) : Fn PP 134 [zV x,zV y] (newV x y):=by
 refine zzn zab mixed Tryz.func134 rfl rfl (zxW rfl) ?_;intro w;have hc:=zfD (decide (y<0)) false (bytes y.natAbs) [] (by omega) (by decide);rw [zap,sg_z] at hc;conv=>whnf
 refine zzt hc rfl ?_;have e0 : sg false (nat [])=0:=rfl;rw [e0];rcases Int.lt_trichotomy y 0 with h | h | h
 ·rw [zge h];conv=>whnf
  refine zy4 [(4,2,[2,3])] (by kernel_rfl) ?_;conv=>whnf
  refine zzu (zsU x (by omega)) rfl ?_;conv=>whnf
  refine zzu (zsU y (by omega)) rfl ?_;conv=>whnf
  refine zzt (zei (-x) (-y) (by rw [zAf]; exact hx) (by rw [zAf]; exact hy) (by omega)) rfl ?_;conv=>whnf
  refine zau ?_;rw [newV,zxI (by omega)];have : Rat.divInt x y=mkRat (-x) (-y).natAbs:=by
   rw [<-Rat.neg_divInt_neg,<-zBq]; congr 1; omega
  rw [this]
 ·subst h;conv=>whnf
  refine zau ?_;rw [newV,zxJ rfl,q0]
 ·rw [zgk h];conv=>whnf
  refine zzt (zei x y hx hy h) rfl ?_;conv=>whnf
  refine zau ?_;rw [newV,zxI (by omega)];have : Rat.divInt x y=mkRat x y.natAbs:=by
   rw [<-zBq]; congr 1; omega
  rw [this]
def quoV (x y : Rat) : Value:=if y=0 then .tuple #[qV 0,.int .i64 10] else .tuple #[qV (x/y),.int .i64 0]
theorem zi9 (s : Raw) : s.v=0↔s.n=0:=Rat.mkRat_eq_zero s.d_ne
theorem ztm (r s : Raw) : Rat.divInt (r.n*s.d) ((r.d : Int)*s.n)=r.v/s.v:=by
 rw [Rat.div_def,Raw.v,Raw.v,<-zBq,<-zBq,Rat.inv_divInt,Rat.divInt_mul_divInt]
theorem zkW (r s : Raw) (hr : r.sm KK) (hs : s.sm KK) : Fn PP 67 [rawV r,rawV s] (quoV r.v s.v):=by
 refine zzn zab mixed Tryz.func67 rfl rfl (zxW rfl) ?_;intro w;have b1:=zcB (zcD hr) (zcU hs);have b2:=zcB (zcU hr) (zcD hs);conv=>whnf
 refine zy4 [(6,6,[2,3])] (by kernel_rfl) ?_;conv=>whnf
 refine zzu (c_of r (Raw.big hr)) rfl ?_;conv=>whnf
 refine zzu (c_of s (Raw.big hs)) rfl ?_;conv=>whnf
 refine zak.qk ?_;conv=>whnf
 refine zzu (zpm hr hs) rfl ?_;conv=>whnf
 refine zzu (zwy hr hs) rfl ?_;conv=>whnf
 refine zzu (zvq (r.n*s.d) ((r.d : Int)*s.n) (zxs (ze2 b1) (by decide)) (zxs (ze2 b2) (by decide))) rfl ?_;have hz : ((r.d : Int)*s.n=0)↔s.v=0:=by
  rw [zi9,Int.mul_eq_zero];have:=r.d_pos;constructor
  ·rintro (h | h)
   ·omega
   ·exact h
  ·exact .inr
 by_cases h : s.v=0
 ·rw [newV,zxJ (hz.2 h)];conv=>whnf
  refine zau ?_;rw [quoV,zxJ h]
 ·rw [newV,zxI (fun h2=>h (hz.1 h2)),ztm];conv=>whnf
  refine zau ?_;rw [quoV,zxI h]
theorem eqR (r s : Raw) : (r.neg==s.neg&&((bs r.num).toList==(bs s.num).toList&&((bs r.den).toList==(bs s.den).toList&&true)))=decide (r=s):=by
 rw [zyV];simp only [zxV,zyY,zxY,zbs];constructor
 ·rintro ⟨h1,h2,h3,_⟩
  cases r; cases s; simp_all
 ·rintro rfl; exact ⟨rfl,rfl,rfl,trivial⟩
def zd2 (r : Raw) : Value:=.int .i64 (if r.ok then 0 else 1)
theorem zrH (r : Raw) (hr : r.sm KK) : Fn PP 85 [rawV r] (zd2 r):=by
 refine zzn zab mixed Tryz.func85 rfl rfl (zxW rfl) ?_;intro w;conv=>whnf
 refine zak.qk ?_;conv=>whnf
 refine zzu (c_of r (Raw.big hr)) rfl ?_;conv=>whnf
 refine zzu (zvu r hr) rfl ?_;conv=>whnf
 refine zaj ?_ ?_
 ·intro h;have h1 : ¬r.ok:=by
   intro h2;have h3 : (!(r.neg==(Q r.v).neg&&((bs r.num).toList==(bs (Q r.v).num).toList&&((bs r.den).toList==(bs (Q r.v).den).toList&&true))))=true:=h;rw [eqR,zz8 (show r=Q r.v from h2)] at h3; cases h3
  conv=>whnf
  refine zaa ?_;rw [zd2,zxI h1]
 ·intro h;have h1 : r.ok:=by
   have h3 : (!(r.neg==(Q r.v).neg&&((bs r.num).toList==(bs (Q r.v).num).toList&&((bs r.den).toList==(bs (Q r.v).den).toList&&true))))=false:=h;rw [eqR] at h3;have : decide (r=Q r.v)=true:=by cases hd : decide (r=Q r.v) with | true=>rfl | false=>rw [hd] at h3; cases h3
   exact zA0 this
  conv=>whnf
  refine zaa ?_;rw [zd2,zxJ h1]
structure Pt where
 x : Raw
 y : Raw
deriving DecidableEq
def Pt.v (p : Pt) : V:=⟨p.x.v,p.y.v⟩
def Pt.sm (k : Nat) (p : Pt) : Prop:=p.x.sm k/\p.y.sm k
def PQ (a : V) : Pt:=⟨Q a.x,Q a.y⟩
@[simp] theorem PQ_v (a : V) : (PQ a).v=a:=by simp [Pt.v,PQ]
abbrev pV (p : Pt) : Value:=.agg ⟨[.bool p.x.neg,.string (bs p.x.num),.string (bs p.x.den),.bool p.y.neg,.string (bs p.y.num),.string (bs p.y.den)]⟩
def SzV (k : Nat) (a : V) : Prop:=Sz k a.x/\Sz k a.y
theorem Raw.sm.le {r : Raw} {k m : Nat} (h : r.sm k) (hm : k<=m) : r.sm m:=⟨zxs h.1 hm,zxs h.2 hm⟩
theorem Pt.sm.le {p : Pt} {k m : Nat} (h : p.sm k) (hm : k<=m) : p.sm m:=⟨h.1.le hm,h.2.le hm⟩
theorem Pt.sm.sz {p : Pt} {k : Nat} (hk : 0<k) (h : p.sm k) : SzV k p.v:=⟨Raw.sz hk h.1.1 h.1.2,Raw.sz hk h.2.1 h.2.2⟩
theorem SzV.q {k : Nat} {a : V} (h : SzV k a) : (PQ a).sm k:=⟨h.1.q,h.2.q⟩
theorem SzV.le {k m : Nat} {a : V} (h : SzV k a) (hm : k<=m) : SzV m a:=⟨h.1.le hm,h.2.le hm⟩
theorem SzV.add {k m : Nat} {a b : V} (h : SzV k a) (h' : SzV m b) : SzV (k+m+1) (a+b):=⟨h.1.add h'.1,h.2.add h'.2⟩
theorem SzV.sub {k m : Nat} {a b : V} (h : SzV k a) (h' : SzV m b) : SzV (k+m+1) (a-b):=⟨h.1.sub h'.1,h.2.sub h'.2⟩
theorem SzV.scale {k m : Nat} {a : V} {t : Rat} (h : SzV k a) (h' : Sz m t) : SzV (k+m) (a.scale t):=⟨h.1.mul h',h.2.mul h'⟩
theorem SzV.cross {k m : Nat} {a b : V} (h : SzV k a) (h' : SzV m b) : Sz ((k+m)+(k+m)+1) (a.cross b):=(h.1.mul h'.2).sub (h.2.mul h'.1)
theorem SzV.at {k m n : Nat} {a b : V} {t : Rat} (h : SzV k a) (h' : SzV m b) (ht : Sz n t) : SzV (k+((m+k+1)+n)+1) (a.at b t):=h.add ((h'.sub h).scale ht)
abbrev KV : Nat:=1000000
theorem zns (p q : Pt) (f : FuncId) (a b : Raw) (h1 : Fn PP f [rawV p.x,rawV q.x] (rawV a)) (h2 : Fn PP f [rawV p.y,rawV q.y] (rawV b)) : Fn PP 198 [pV p,pV q,fnV f] (pV ⟨a,b⟩):=by
 refine zzn zab mixed Tryz.func198 rfl rfl (zxW rfl) ?_;intro w;conv=>whnf
 refine zak.qk ?_;conv=>whnf
 refine zzu h1 rfl ?_;conv=>whnf
 refine zzu h2 rfl ?_;conv=>whnf
 exact zaa rfl
theorem ztg (p q : Pt) (hp : p.sm KK) (hq : q.sm KK) : Fn PP 135 [pV p,pV q] (pV (PQ (p.v+q.v))):=by
 refine zzn zab mixed Tryz.func135 rfl rfl (zxW rfl) ?_;intro w;conv=>whnf
 refine zzt (zns p q 119 (Q (p.x.v+q.x.v)) (Q (p.y.v+q.y.v)) (zkl _ _ hp.1 hq.1) (zkl _ _ hp.2 hq.2)) rfl ?_;conv=>whnf
 exact zaa rfl
theorem zlr (p q : Pt) (hp : p.sm KK) (hq : q.sm KK) : Fn PP 137 [pV p,pV q] (pV (PQ (p.v-q.v))):=by
 refine zzn zab mixed Tryz.func137 rfl rfl (zxW rfl) ?_;intro w;conv=>whnf
 refine zzt (zns p q 66 (Q (p.x.v-q.x.v)) (Q (p.y.v-q.y.v)) (zec _ _ hp.1 hq.1) (zec _ _ hp.2 hq.2)) rfl ?_;conv=>whnf
 exact zaa rfl
theorem zr0 (p : Pt) (t : Raw) (hp : p.sm KK) (ht : t.sm KK) : Fn PP 136 [pV p,rawV t] (pV (PQ (p.v.scale t.v))):=by
 refine zzn zab mixed Tryz.func136 rfl rfl (zxW rfl) ?_;intro w;conv=>whnf
 refine zzt (zns p ⟨t,t⟩ 79 (Q (p.x.v*t.v)) (Q (p.y.v*t.v)) (ziQ _ _ hp.1 ht) (ziQ _ _ hp.2 ht)) rfl ?_;conv=>whnf
 exact zaa rfl
theorem zfM (p q : Pt) (hp : p.sm (10*KV)) (hq : q.sm (10*KV)) : Fn PP 199 [pV p,pV q] (qV (p.v.cross q.v)):=by
 have zp:=hp.sz (by decide);have zq:=hq.sz (by decide);refine zzn zab mixed Tryz.func199 rfl rfl (zxW rfl) ?_;intro w;conv=>whnf
 refine zzt (zns p ⟨q.y,q.x⟩ 79 (Q (p.x.v*q.y.v)) (Q (p.y.v*q.x.v)) (ziQ _ _ (hp.1.le (by decide)) (hq.2.le (by decide))) (ziQ _ _ (hp.2.le (by decide)) (hq.1.le (by decide)))) rfl ?_;conv=>whnf
 refine zzt (zec (Q (p.x.v*q.y.v)) (Q (p.y.v*q.x.v)) ((zp.1.mul zq.2).q.le (by decide)) ((zp.2.mul zq.1).q.le (by decide))) rfl ?_;conv=>whnf
 refine zaa ?_;rw [Q_v,Q_v]; rfl
theorem zc4 (p q : Pt) (hp : p.sm KK) (hq : q.sm KK) : Fn PP 121 [pV p,pV q] (.int .i64 (cmpV p.v q.v)):=by
 refine zzn zab mixed Tryz.func121 rfl rfl (zxW rfl) ?_;intro w;conv=>whnf
 refine zzt (zbp p.x q.x hp.1 hq.1) rfl ?_;conv=>whnf
 refine zaj ?_ ?_
 ·intro h;have h1 : cmpQ p.x.v q.x.v≠0:=by intro h2; rw [h2] at h; exact absurd h (by decide)
  conv=>whnf
  refine zaa ?_;rw [cmpV,zxJ (show cmpQ p.v.x q.v.x≠0 from h1)]; rfl
 ·intro h;have h1 : cmpQ p.x.v q.x.v=0:=by simpa using h
  conv=>whnf
  refine zzt (zbp p.y q.y hp.2 hq.2) rfl ?_;conv=>whnf
  refine zaa ?_;rw [cmpV,zxI (show ¬cmpQ p.v.x q.v.x≠0 from fun h=>h h1)]; rfl
theorem ztZ (p q : Pt) (t : Raw) (hp : p.sm (10*KV)) (hq : q.sm (10*KV)) (ht : t.sm (30*KV)) : Fn PP 70 [pV p,pV q,rawV t] (pV (PQ (p.v.at q.v t.v))):=by
 have zp:=hp.sz (by decide);have zq:=hq.sz (by decide);have zt:=Raw.sz (r:=t) (k:=30*KV) (by decide) ht.1 ht.2;refine zzn zab mixed Tryz.func70 rfl rfl (zxW rfl) ?_;intro w;conv=>whnf
 refine zak.qk ?_;conv=>whnf
 refine zzu (zlr q p (hq.le (by decide)) (hp.le (by decide))) rfl ?_;conv=>whnf
 refine zzu (zr0 (PQ (q.v-p.v)) t ((zq.sub zp).q.le (by decide)) (ht.le (by decide))) rfl ?_;rw [PQ_v];conv=>whnf
 refine zzu (ztg p (PQ ((q.v-p.v).scale t.v)) (hp.le (by decide)) (((zq.sub zp).scale zt).q.le (by decide))) rfl ?_;rw [PQ_v];conv=>whnf
 exact zaa rfl
theorem zxc (x y : Int) (h1 : -9223372036854775808<=x) (h2 : x<=9223372036854775807) (h3 : -9223372036854775808<=y) (h4 : y<=9223372036854775807) : Fn PP 37 [.int .i64 x,.int .i64 y] (pV (PQ ⟨x,y⟩)):=by
 refine zzn zab mixed Tryz.func37 rfl rfl (zxW rfl) ?_;intro w;conv=>whnf
 refine zzt (zqP x h1 h2) rfl ?_;conv=>whnf
 refine zzt (zqP y h3 h4) rfl ?_;conv=>whnf
 exact zaa rfl
theorem zsb (a b c : Pt) (ha : a.sm (4*KV)) (hb : b.sm (4*KV)) (hc : c.sm (4*KV)) : Fn PP 138 [pV a,pV b,pV c] (.int .i64 (cmpQ ((b.v-a.v).cross (c.v-a.v)) 0)):=by
 have za:=ha.sz (by decide);have zb:=hb.sz (by decide);have zc:=hc.sz (by decide);refine zzn zab mixed Tryz.func138 rfl rfl (zxW rfl) ?_;intro w;conv=>whnf
 refine zak.qk ?_;conv=>whnf
 refine zzu (zlr b a (hb.le (by decide)) (ha.le (by decide))) rfl ?_;conv=>whnf
 refine zzu (zlr c a (hc.le (by decide)) (ha.le (by decide))) rfl ?_;conv=>whnf
 refine zzu (zfM (PQ (b.v-a.v)) (PQ (c.v-a.v)) ((zb.sub za).q.le (by decide)) ((zc.sub za).q.le (by decide))) rfl ?_;rw [PQ_v,PQ_v];conv=>whnf
 refine zzu (zes (Q ((b.v-a.v).cross (c.v-a.v))) (((zb.sub za).cross (zc.sub za)).q.le (by decide))) rfl ?_;rw [Q_v];conv=>whnf
 exact zaa rfl
abbrev zBr:=@Int.eq_ofNat_of_zero_le
theorem zeR {l : List UInt8} : ((bs l).toList==ByteArray.toList ⟨#[]⟩)=decide (l=[]):=by
 rw [zbs,show ByteArray.toList ⟨#[]⟩=[] from zbs []]
 cases l <;> simp
theorem zfp (l : List UInt8) : Fn PP 240 [.string (bs l)] (.string (bs (zcf l))):=by
 refine zzn zab mixed Tryz.func240 rfl rfl (zxW rfl) ?_;intro w;conv=>whnf
 refine zal (ι:=List UInt8) (fun k=>⟨[(0,.o (.v (.string (bs k))))],[],[]⟩) (fun k=>zcf k=zcf l) (fun k=>k.length) l rfl (zzj ⟨rfl,trivial⟩ trivial (by simp)) ?_;intro k hk;conv=>whnf
 refine zaj ?_ ?_
 ·intro h;rcases k with _ | ⟨x,r⟩
  ·exact absurd (zA0 h) (by decide)
  conv=>whnf
  refine ⟨by simp [zdw],?_⟩;conv=>whnf
  refine zaj ?_ ?_
  ·intro h2;conv=>whnf
   refine ⟨by simp [zdw]; omega,?_⟩;conv=>whnf
   refine ⟨r,?_,by simp,?_⟩
   ·rw [<-hk,zcf,zxJ];have h3 : x.toNat=0:=by simpa [zgP] using h2
    exact zzN.1 h3
   ·refine zzj ⟨?_,trivial⟩ trivial (by simp);show some _=some _;simp [SV.ren,AV.ren,zgn,zdw]
  ·intro h2;conv=>whnf
   refine zaa ?_;show Value.string (bs (x::r))=_;rw [<-hk,zcf,zxI];intro h3;subst h3;simp [zgP] at h2
 ·intro h;conv=>whnf
  refine zaa ?_;have : k=[]:=by
   have h2 : ¬((k.length : Nat) : Int)>0:=zA1 h;exact zyO.1 (by omega)
  subst this;show Value.string (bs [])=_;rw [<-hk]; rfl
theorem zmY {b : Bool} {m : Nat} (h : 0<m) : decide (sg b m<0)=b:=by
 unfold sg; cases b <;> simp <;> omega
theorem zkJ {x : UInt8} {r : List UInt8} (h : x≠0) : 0<nat (x::r):=by
 rw [zcs];have h1 : 0<x.toNat:=by
  rcases zyf x.toNat with h2 | h2
  ·exact absurd (zzN.1 h2) h
  ·exact h2
 have:=zyN h1 (zAv (n:=r.length) (show 0<256 by decide));omega
theorem zbR (b : Bool) (l : List UInt8) : Fn PP 208 [intV b (bs l)] (zV (sg b (nat l))):=by
 refine zzn zab mixed Tryz.func208 rfl rfl (zxW rfl) ?_;intro w;have hz : zV (sg b (nat l))=intV (decide (sg b (nat l)<0)) (bs (bytes (nat l))):=by rw [zV,zbb]
 have slow : zcf l=bytes (nat l):=zcP l;conv=>whnf
 refine zaj ?_ ?_
 ·intro h;rcases l with _ | ⟨x,r⟩
  ·exact absurd (zA0 h) (by decide)
  conv=>whnf
  refine ⟨by simp [zdw],?_⟩;conv=>whnf
  refine zaj ?_ ?_
  ·intro h2;have hx : x≠0:=by
    intro h3;subst h3;simp [zgP] at h2
   conv=>whnf
   refine zaa ?_;rw [hz,zmY (zkJ hx),zkI (by simpa using hx)]
  ·intro h2;conv=>whnf
   refine zzt (zfp (x::r)) rfl ?_;rw [slow]
   cases b with
   | false =>
    conv=>whnf
    refine zaa ?_;rw [hz,show decide (sg false (nat (x::r))<0)=false from zz9 (by unfold sg; simp)]
   | true =>
    conv=>whnf
    refine zaa ?_;rw [hz];show intV (!((bs (bytes (nat (x::r)))).toList==ByteArray.toList ⟨#[]⟩)) _=_;rw [zeR];rcases zyf (nat (x::r)) with h0 | h0
    ·rw [h0,zaS]; rfl
    ·rw [zmY h0,zz9 (fun h=>by have:=zde.1 h; omega)]; rfl
 ·intro h;have hl : l=[]:=by
   have h2 : ¬((l.length : Nat) : Int)>0:=zA1 h;exact zyO.1 (by omega)
  conv=>whnf
  refine zzt (zfp l) rfl ?_;rw [slow]
  cases b with
  | false =>
   conv=>whnf
   refine zaa ?_;rw [hz,show decide (sg false (nat l)<0)=false from zz9 (by unfold sg; simp)]
  | true =>
   conv=>whnf
   refine zaa ?_;rw [hz];show intV (!((bs (bytes (nat l))).toList==ByteArray.toList ⟨#[]⟩)) _=_;rw [zeR];rcases zyf (nat l) with h0 | h0
   ·rw [h0,zaS]; rfl
   ·rw [zmY h0,zz9 (fun h=>by have:=zde.1 h; omega)]; rfl
theorem zgm (l : List UInt8) (h1 : l.length<=7) : Fn PP 242 [.string (bs l)] (.int .i64 (nat l)):=by
 refine zzn zab mixed Tryz.func242 rfl rfl (zxW rfl) ?_;intro w;conv=>whnf
 refine zal (ι:=Nat) (fun i=>⟨[(0,.o (.v (.string (bs l)))),(3,.o (.v (.int .i64 (nat (l.take i))))),(4,.o (.v (.int .i64 i)))],[],[]⟩)
  (fun i=>i<=l.length) (fun i=>l.length-i) 0 (zyD _) (zzj ⟨rfl,rfl,rfl,trivial⟩ trivial (fun R hR=>hR)) ?_
 intro i hi;conv=>whnf
 refine zaj ?_ ?_
 ·intro h2;have hi2 : i<l.length:=by
   have : (i : Int)<(l.length : Int):=zA0 h2;omega
  conv=>whnf
  refine ⟨by decide,?_⟩;conv=>whnf
  refine ⟨⟨by omega,by show (i : Int)<(l.length : Int); omega⟩,?_⟩;conv=>whnf
  obtain ⟨x,hx⟩ : ∃ x,x=l[i]:=⟨_,rfl⟩;have hg : l.getD i 0=x:=by rw [hx,zzO,zyy hi2]; rfl
  have htk : l.take (i+1)=l.take i++[x]:=by rw [zBa hi2,hx]
  have hnat : nat (l.take (i+1))=x.toNat+256*nat (l.take i):=by rw [htk,zdM]
  have hnb : nat (l.take i)<256 ^ 6:=za7 (by rw [zyI]; omega);have hxb : x.toNat<256:=x.toBitVec.isLt;have hor : IntKind.i64.wrap (BitVec.toNat (w:=64) (BitVec.ofInt 64 (IntKind.i64.wrap ((nat (l.take i) : Int)*2 ^ min (8 : Int).toNat IntKind.i64.bits)) ||| BitVec.ofInt 64 (IntKind.i64.wrap (sb (bs l) (i : Int)))) : Int)=(nat (l.take (i+1)) : Int):=by
   have e1 : IntKind.i64.wrap ((nat (l.take i) : Int)*2 ^ min (8 : Int).toNat IntKind.i64.bits)=((nat (l.take i)*2 ^ 8 : Nat) : Int):=by
    rw [show min (8 : Int).toNat IntKind.i64.bits=8 from rfl,wrap_i64 (by omega) (by omega)]; omega
   have e2 : IntKind.i64.wrap (sb (bs l) (i : Int))=(x.toNat : Int):=by
    rw [zgP,zzS,hg,wrap_i64 (by omega) (by omega)]
   rw [e1,e2,zAB,zaU (by omega),zaU (by omega),zzG,<-zAC (show x.toNat<2 ^ 8 by omega),hnat];rw [wrap_i64 (by omega) (by omega)]; omega
  refine ⟨i+1,by omega,by omega,zzj ⟨rfl,?_,?_,trivial⟩ trivial (fun R hR=>hR)⟩
  ·show some (SV.o (.v (.int .i64 (IntKind.i64.wrap (BitVec.toNat (w:=64) (BitVec.ofInt 64 _ ||| BitVec.ofInt 64 _) : Int)))))=some (SV.o (.v (.int .i64 (nat (l.take (i+1)) : Int))));rw [hor]
  ·show some (SV.o (.v (.int _ (IntKind.i64.wrap ((i : Int)+1)))))=some (SV.o (.v (.int _ ((i+1 : Nat) : Int))));rw [wrap_i64 (by omega) (by omega)]; rfl
 ·intro h2;have hi2 : i=l.length:=by
   have : ¬(i : Int)<(l.length : Int):=zA1 h2;omega
  subst hi2;rw [zAq];conv=>whnf
  exact zaa rfl
theorem zq6 {n : Nat} (h : n<9223372036854775808) : IntKind.i64.wrap (0-(n : Int))=-(n : Int):=by rw [wrap_i64 (by omega) (by omega)]; omega
theorem nat7 {l : List UInt8} (h : l.length<=7) : nat l<72057594037927936:=by
 have:=za7 h;simpa using this
theorem ztK (b : Bool) (l : List UInt8) (h1 : l.length<=7) : Fn PP 209 [intV b (bs l)] (.int .i64 (sg b (nat l))):=by
 refine zzn zab mixed Tryz.func209 rfl rfl (zxW rfl) ?_;intro w;have hn:=nat7 h1
 cases b with
 | true =>
  conv=>whnf
  refine zzt (zgm l h1) rfl ?_;conv=>whnf
  refine zaa ?_;rw [zq6 (by omega)]; rfl
 | false =>
  conv=>whnf
  refine zzt (zgm l h1) rfl ?_;conv=>whnf
  exact zaa rfl
theorem zsf {n : Nat} (h0 : 0<n) (h : n<256) : bytes n=[UInt8.ofNat n]:=by
 rw [zeN h0,show n/256=0 by omega,zaS,zye h]; rfl
theorem zwe (n : Nat) (hn : n<9223372036854775808) : Fn PP 239 [.int .i64 n] (.string (bs (bytes n))):=by
 refine zzn zab mixed Tryz.func239 rfl rfl (zxW rfl) ?_;intro w;conv=>whnf
 refine zaj ?_ ?_
 ·intro h;have hn2 : n<256:=by
   have : (n : Int)<256:=zA0 h;omega
  conv=>whnf
  refine zaj ?_ ?_
  ·intro h0;have hn0 : n=0:=by
    have : (n : Int)=0:=eq_of_beq h0;omega
   subst hn0;conv=>whnf
   refine zaa ?_;rw [zaS]; rfl
  ·intro h0;have hn0 : 0<n:=by
    have : ¬(n : Int)=0:=ne_of_beq_false h0;omega
   conv=>whnf
   have hw : IntKind.u8.wrap (n : Int)=((UInt8.ofNat n).toNat : Int):=by
    rw [zAN];have : (UInt8.ofNat n).toNat=n:=by simp; omega
    rw [this]; omega
   refine ⟨[UInt8.ofNat n],rfl,?_,?_⟩
   ·show [Value.int .u8 (IntKind.u8.wrap (n : Int))]=_;rw [hw]; rfl
   conv=>whnf
   refine zaa ?_;rw [zsf hn0 hn2]; rfl
 intro hbig;conv=>whnf
 refine zal (ι:=Nat×Nat×List UInt8) (fun ⟨i,c,L⟩=>⟨[(0,.o (.v (.int .i64 c))),(3,.o (.p 3 0)),(4,.o (.v (.int .i64 i)))],[(3,.sym (rowV u8c (List.replicate i 0++L)) zih)],[]⟩)
  (fun ⟨i,c,L⟩=>i+L.length=8/\c<256 ^ i/\bytes n=bytes c++L) (fun ⟨i,c,L⟩=>c) (8,n,[]) ⟨rfl,by omega,by simp⟩ (zzj ⟨rfl,rfl,rfl,trivial⟩ ⟨⟨_,rfl,.sym _ rfl⟩,trivial⟩ (fun R hR=>hR)) ?_
 rintro ⟨i,c,L⟩ ⟨hL,hc,hb⟩;conv=>whnf
 refine zaj ?_ ?_
 ·intro h;have hc0 : 0<c:=by
   have : (c : Int)>0:=zA0 h;omega
  conv=>whnf
  have hi0 : 0<i:=by
   rcases zyf i with h2 | h2
   ·rw [h2] at hc; omega
   ·exact h2
  obtain ⟨j,rfl⟩ : ∃ j,i=j+1:=⟨i-1,by omega⟩;have hij : IntKind.i64.wrap (((j+1 : Nat) : Int)-1)=(j : Int):=by rw [wrap_i64 (by omega) (by omega)]; omega
  refine ⟨by rw [hij]; show 0<=(j : Int)/\(j : Int)<((8 : Nat) : Int); omega,?_⟩;conv=>whnf
  refine ⟨by rw [hij,zad zbK]; show 0+j*1+1<=_; simp,?_⟩;conv=>whnf
  refine ⟨by decide,?_⟩;conv=>whnf
  have hcn : c<=n\/n<c:=by omega
  have hcb : c<9223372036854775808:=by
   have h8 : (256 : Nat) ^ (j+1)<=256 ^ 8:=zAa (by decide) (by omega);have hcm : nat (bytes c)<=nat (bytes n):=by
    rw [hb,zgc];have : nat (bytes c)*1<=nat (bytes c)*256 ^ L.length:=zzH _ (zAv (by decide));omega
   rw [zap,zap] at hcm;omega
  refine ⟨(j,c/256,UInt8.ofNat (c%256)::L),⟨by simp; omega,?_,?_⟩,by show c/256<c; omega,zzj ⟨?_,rfl,?_,trivial⟩ ⟨⟨_,rfl,?_⟩,trivial⟩ (fun R hR=>hR)⟩
  ·show c/256<256 ^ j;rw [zzD] at hc; omega
  ·rw [hb,zeN hc0]; simp
  ·show some (SV.o (.v (.int .i64 (Int.fdiv (c : Int) (2 ^ min (8 : Int).toNat IntKind.i64.bits)))))=some (SV.o (.v (.int .i64 ((c/256 : Nat) : Int))));rw [show min (8 : Int).toNat IntKind.i64.bits=8 from rfl,zAO _ (by decide)]; rfl
  ·show some (SV.o (.v (.int .i64 (IntKind.i64.wrap (((j+1 : Nat) : Int)-1)))))=some (SV.o (.v (.int .i64 (j : Int))));rw [hij]
  ·show MEle (ME.sym (putN (0+(IntKind.i64.wrap (((j+1 : Nat) : Int)-1)).toNat*1) [Value.int .u8 (IntKind.u8.wrap (c : Int))] (rowV u8c (List.replicate (j+1) 0++L))) _) (ME.sym (rowV u8c (List.replicate j 0++(UInt8.ofNat (c%256)::L))) _);have hw : IntKind.u8.wrap (c : Int)=((UInt8.ofNat (c%256)).toNat : Int):=by
    rw [zAN];have : (UInt8.ofNat (c%256)).toNat=c%256:=by simp
    rw [this]; omega
   have hput:=zcc (f:=u8c) zbK (k:=j) (l:=List.replicate (j+1) 0++L) (UInt8.ofNat (c%256)) (by simp; omega);have hset : (List.replicate (j+1) 0++L).set j (UInt8.ofNat (c%256))=List.replicate j 0++(UInt8.ofNat (c%256)::L):=by
    rw [zAT,zyF,zAR _ _ (by simp)];simp
   rw [hset] at hput;rw [hij,hw,zzS,zyo,<-hput];exact .refl _
 ·intro h;have hc0 : c=0:=by
   have : ¬(c : Int)>0:=zA1 h;omega
  subst hc0;rw [zaS,zzJ] at hb;conv=>whnf
  refine ⟨by show 0<=(i : Int)/\(i : Int)<=((8 : Nat) : Int)/\((8 : Nat) : Int)<=((8 : Nat) : Int); omega,?_⟩;conv=>whnf
  have hdrop : ((rowV u8c (List.replicate i 0++L)).drop (bif Nat.beq 8 ((i : Int).toNat) then 0 else 0+(i : Int).toNat*1)).take (((8 : Nat) : Int).toNat-(i : Int).toNat)=bytV L:=by
   rw [zzS,zzS]
   cases hb8 : Nat.beq 8 i with
   | true =>
    have h8:=zxj hb8;have hL0 : L=[]:=zyO.1 (by omega);rw [hL0,<-h8]; rfl
   | false =>
    rw [cond_false,zyo,zdH zbK];have : (List.replicate i 0++L).drop i=L:=by
     have:=List.drop_left (l₁:=List.replicate i (0 : UInt8)) (l₂:=L);rwa [zA7] at this
    rw [this,zdZ,show 8-i=L.length by omega];have : (bytV L).length=L.length:=by simp [bytV]
    rw [<-this,zAq]
  refine ⟨L,by rw [zzS,zzS]; omega,hdrop,?_⟩;conv=>whnf
  refine zaa ?_;rw [hb]; rfl
theorem r_Of (n : Int) (h1 : -9223372036854775808<=n) (h2 : n<=9223372036854775807) : Fn PP 202 [.int .i64 n] (zV n):=by
 refine zzn zab mixed Tryz.func202 rfl rfl (zxW rfl) ?_;intro w;conv=>whnf
 refine zaj ?_ ?_
 ·intro h;have h0 : 0<=n:=zA0 h;obtain ⟨m,rfl⟩:=zBr h0;conv=>whnf
  refine zzt (zwe m (by omega)) rfl ?_;conv=>whnf
  refine zaa ?_;rw [zV,zz9 (by omega),zAi]
 ·intro h;have h0 : ¬0<=n:=zA1 h;conv=>whnf
  refine zaj ?_ ?_
  ·intro he;have he2 : n=IntKind.i64.wrap (0-n):=eq_of_beq he;have hm : n=-9223372036854775808:=by
    by_cases hm : n=-9223372036854775808
    ·exact hm
    ·rw [wrap_i64 (by omega) (by omega)] at he2; omega
   subst hm;conv=>whnf
   refine zaa ?_;show intV true ⟨#[128,0,0,0,0,0,0,0]⟩=zV (-9223372036854775808);rw [zV,zz8 (by decide)];have : bytes (-9223372036854775808 : Int).natAbs=[128,0,0,0,0,0,0,0]:=by decide +kernel
   rw [this]; rfl
  ·intro he;have hm : ¬n=-9223372036854775808:=fun hm=>by
    subst hm;exact absurd he (by decide)
   obtain ⟨m,rfl⟩ : ∃ m : Nat,n=-(m : Int):=⟨n.natAbs,by omega⟩;conv=>whnf
   have hw : IntKind.i64.wrap (0 - -(m : Int))=(m : Int):=by rw [wrap_i64 (by omega) (by omega)]; omega
   refine zzt (zwe m (by omega)) (by show [SV.o (.v (.int .i64 (IntKind.i64.wrap (0 - -(m : Int)))))]=_; rw [hw]; rfl) ?_;conv=>whnf
   refine zaa ?_;rw [zV,zz8 (by omega),zAf,zAi]
theorem ziN (x y : Rat) : cmpQ x y=-1\/cmpQ x y=0\/cmpQ x y=1:=by
 unfold cmpQ; split
 ·exact .inl rfl
 ·split
  ·exact .inr (.inr rfl)
  ·exact .inr (.inl rfl)
theorem zgb (x y : V) : cmpV x y=-1\/cmpV x y=0\/cmpV x y=1:=by
 unfold cmpV; split
 ·exact ziN _ _
 ·exact ziN _ _
theorem zm6 (a b c d : V) : IntKind.i64.wrap (cmpV a b*cmpV c d)=cmpV a b*cmpV c d:=by
 rcases zgb a b with h | h | h <;> rcases zgb c d with h2 | h2 | h2 <;> rw [h,h2] <;> rfl
theorem zpO (a b p : Pt) (ha : a.sm (4*KV)) (hb : b.sm (4*KV)) (hp : p.sm (4*KV)) : Fn PP 71 [pV a,pV b,pV p] (.bool (zbW a.v b.v p.v)):=by
 refine zzn zab mixed Tryz.func71 rfl rfl (zxW rfl) ?_;intro w;have kc : ∀ (p q : Pt),p.sm (4*KV)->q.sm (4*KV)->Fn PP 121 [pV p,pV q] (.int .i64 (cmpV p.v q.v)):=fun p q h1 h2=>zc4 p q (h1.le (by decide)) (h2.le (by decide))
 conv=>whnf
 refine zzt (zsb a b p ha hb hp) rfl ?_;conv=>whnf
 refine zaj ?_ ?_
 ·intro h;have h1 : cmpQ ((b.v-a.v).cross (p.v-a.v)) 0≠0:=by simpa using h
  conv=>whnf
  refine zaa ?_;rw [zbW,zz9 h1]; rfl
 ·intro h;have h1 : cmpQ ((b.v-a.v).cross (p.v-a.v)) 0=0:=by simpa using h
  conv=>whnf
  refine zak.qk ?_;conv=>whnf
  refine zzu (kc a p ha hp) rfl ?_;conv=>whnf
  refine zzu (kc p b hp hb) rfl ?_;conv=>whnf
  refine zaj ?_ ?_
  ·intro h2;have h3 : 0<=cmpV a.v p.v*cmpV p.v b.v:=by
    have : IntKind.i64.wrap (cmpV a.v p.v*cmpV p.v b.v)>=0:=zA0 h2;rwa [zm6] at this
   conv=>whnf
   refine zzu (kc a b ha hb) rfl ?_;conv=>whnf
   refine zaj ?_ ?_
   ·intro h4;have h5 : cmpV a.v b.v≠0:=by simpa using h4
    conv=>whnf
    refine zaa ?_;rw [zbW,zz8 h1,zz8 h3,zz8 h5]; rfl
   ·intro h4;have h5 : cmpV a.v b.v=0:=by simpa using h4
    conv=>whnf
    refine zzu (kc a p ha hp) rfl ?_;conv=>whnf
    refine zaa ?_;rw [zbW,zz8 h1,zz8 h3,zz9 (fun h=>h h5)];have : (cmpV a.v p.v==0)=decide (cmpV a.v p.v=0):=by
     by_cases h6 : cmpV a.v p.v=0
     ·rw [zz8 h6,h6]; rfl
     ·rw [zz9 h6]; simpa using h6
    rw [this]; rfl
  ·intro h2;have h3 : ¬0<=cmpV a.v p.v*cmpV p.v b.v:=by
    have : ¬IntKind.i64.wrap (cmpV a.v p.v*cmpV p.v b.v)>=0:=zA1 h2;rwa [zm6] at this
   conv=>whnf
   refine zaa ?_;rw [zbW,zz8 h1,zz9 h3]; rfl
structure Sg where
 A : Pt
 B : Pt
deriving DecidableEq
def Sg.sm (k : Nat) (s : Sg) : Prop:=s.A.sm k/\s.B.sm k
theorem Sg.sm.le {s : Sg} {k m : Nat} (h : s.sm k) (hm : k<=m) : s.sm m:=⟨h.1.le hm,h.2.le hm⟩
abbrev sV (s : Sg) : Value:=.agg ⟨[.bool s.A.x.neg,.string (bs s.A.x.num),.string (bs s.A.x.den),.bool s.A.y.neg,.string (bs s.A.y.num),.string (bs s.A.y.den),.bool s.B.x.neg,.string (bs s.B.x.num),.string (bs s.B.x.den),.bool s.B.y.neg,.string (bs s.B.y.num),.string (bs s.B.y.den)]⟩
abbrev KS : Nat:=10000
def zb3 (s : Sg) : Prop:=cmpV s.A.v s.B.v=0
instance (s : Sg) : Decidable (zb3 s):=inferInstanceAs (Decidable (_=_))
def zcE (s : Sg) : Int:=if zb3 s then 12 else 0
theorem zhd (s : Sg) (hs : s.sm KS) : Fn PP 62 [sV s] (.int .i64 (zcE s)):=by
 refine zzn zab mixed Tryz.func62 rfl rfl (zxW rfl) ?_;intro w;conv=>whnf
 refine zzt (zc4 s.A s.B (hs.1.le (by decide)) (hs.2.le (by decide))) rfl ?_;conv=>whnf
 refine zaj ?_ ?_
 ·intro h
  have h1 : zb3 s:=by have : cmpV s.A.v s.B.v=0:=by simpa using h
                      exact this
  conv=>whnf
  refine zaa ?_;rw [zcE,zxJ h1]
 ·intro h
  have h1 : ¬zb3 s:=by have : ¬cmpV s.A.v s.B.v=0:=by simpa using h
                       exact this
  conv=>whnf
  refine zaa ?_;rw [zcE,zxI h1]
def V0 : V:=⟨0,0⟩
theorem V.add_zero (a : V) : a+V0=a:=by
 cases a; simp only [V0,HAdd.hAdd,Add.add]; congr 1 <;> exact Rat.add_zero _
def P0 : Pt:=⟨⟨false,[],[]⟩,⟨false,[],[]⟩⟩
theorem P0_v : P0.v=V0:=by simp only [Pt.v,P0,V0,Raw.zero_v]
theorem zu8 (k : Nat) : P0.sm k:=⟨⟨zyD _,zyD _⟩,⟨zyD _,zyD _⟩⟩
theorem zgD (p : Pt) (hp : p.sm KK) : Fn PP 156 [pV p] (pV (PQ p.v)):=by
 refine zzn zab mixed Tryz.func156 rfl rfl (zxW rfl) ?_;intro w;conv=>whnf
 refine zzt (ztg p P0 hp (zu8 _)) rfl ?_;conv=>whnf
 refine zaa ?_;rw [P0_v,V.add_zero]
theorem zfg (s : Sg) (hs : s.sm KK) : Fn PP 211 [sV s] (pV (PQ (s.B.v-s.A.v))):=by
 refine zzn zab mixed Tryz.func211 rfl rfl (zxW rfl) ?_;intro w;conv=>whnf
 refine zzt (zlr s.B s.A hs.2 hs.1) rfl ?_;conv=>whnf
 exact zaa rfl
theorem c_On (s : Sg) (p : Pt) (hs : s.sm KV) (hp : p.sm KV) : Fn PP 19 [sV s,pV p] (.bool (zbW s.A.v s.B.v p.v)):=by
 refine zzn zab mixed Tryz.func19 rfl rfl (zxW rfl) ?_;intro w;conv=>whnf
 refine zzt (zpO s.A s.B p (hs.1.le (by decide)) (hs.2.le (by decide)) (hp.le (by decide))) rfl ?_;conv=>whnf
 exact zaa rfl
theorem zvb : ((1 : Int) : Rat)=1:=rfl
theorem zxh : (Q 1).sm KK:=(show Sz 1 (1 : Rat) from ⟨by decide,by decide⟩).q.le (by decide)
theorem ztp (s t : Sg) (hs : s.sm KS) (ht : t.sm KS) : Fn PP 157 [sV s,sV t] (.bool (decide (zb3 s)||decide (zb3 t))):=by
 refine zzn zab mixed Tryz.func157 rfl rfl (zxW rfl) ?_;intro w;conv=>whnf
 refine zzt (zhd s hs) rfl ?_;by_cases h1 : zb3 s
 ·rw [zcE,zxJ h1];conv=>whnf
  refine zaa ?_;rw [zz8 h1]; rfl
 ·rw [zcE,zxI h1];conv=>whnf
  refine zzt (zhd t ht) rfl ?_;by_cases h2 : zb3 t
  ·rw [zcE,zxJ h2];conv=>whnf
   refine zaa ?_;rw [zz8 h2,Bool.or_true]; rfl
  ·rw [zcE,zxI h2];conv=>whnf
   refine zaa ?_;rw [zz9 h2,zz9 h1]; rfl
theorem zqM (t : Raw) (ht : t.sm KK) : Fn PP 212 [rawV t] (.bool (zdK t.v)):=by
 refine zzn zab mixed Tryz.func212 rfl rfl (zxW rfl) ?_;intro w;conv=>whnf
 refine zak.qk ?_;conv=>whnf
 refine zzu (zes t ht) rfl ?_;conv=>whnf
 refine zaj ?_ ?_
 ·intro h;have h1 : 0<=cmpQ t.v 0:=zA0 h;conv=>whnf
  refine zzu (zqP 1 (by decide) (by decide)) rfl ?_;rw [zvb];conv=>whnf
  refine zzu (zbp t (Q 1) ht zxh) rfl ?_;rw [Q_v];conv=>whnf
  refine zaa ?_;rw [zdK,zz8 h1]; rfl
 ·intro h;have h1 : ¬0<=cmpQ t.v 0:=zA1 h;conv=>whnf
  refine zaa ?_;rw [zdK,zz9 h1]; rfl
theorem zlI (s : Sg) (hs : s.sm KV) : Fn PP 86 [sV s] (sV ⟨PQ (ordV s.A.v s.B.v).1,PQ (ordV s.A.v s.B.v).2⟩):=by
 have za:=hs.1.sz (by decide);have zb:=hs.2.sz (by decide);refine zzn zab mixed Tryz.func86 rfl rfl (zxW rfl) ?_;intro w;conv=>whnf
 refine zak.qk ?_;conv=>whnf
 refine zzu (zgD s.A (hs.1.le (by decide))) rfl ?_;conv=>whnf
 refine zzu (zgD s.B (hs.2.le (by decide))) rfl ?_;conv=>whnf
 refine zzt (zc4 (PQ s.A.v) (PQ s.B.v) (za.q.le (by decide)) (zb.q.le (by decide))) rfl ?_;rw [PQ_v,PQ_v];conv=>whnf
 refine zaj ?_ ?_
 ·intro h;have h1 : cmpV s.A.v s.B.v>0:=zA0 h;conv=>whnf
  refine zaa ?_;rw [ordV,zxJ h1]
 ·intro h;have h1 : ¬cmpV s.A.v s.B.v>0:=zA1 h;conv=>whnf
  refine zaa ?_;rw [ordV,zxI h1]
def gtP (p q : Pt) : Pt:=if cmpV p.v q.v<0 then q else p
def ltP (p q : Pt) : Pt:=if cmpV p.v q.v<0 then p else q
theorem zoZ (p q : Pt) (hp : p.sm KK) (hq : q.sm KK) : Fn PP 213 [pV p,pV q] (pV (gtP p q)):=by
 refine zzn zab mixed Tryz.func213 rfl rfl (zxW rfl) ?_;intro w;conv=>whnf
 refine zzt (zc4 p q hp hq) rfl ?_;conv=>whnf
 refine zaj ?_ ?_
 ·intro h;have h1 : cmpV p.v q.v<0:=zA0 h;conv=>whnf
  refine zaa ?_;rw [gtP,zxJ h1]
 ·intro h;have h1 : ¬cmpV p.v q.v<0:=zA1 h;conv=>whnf
  refine zaa ?_;rw [gtP,zxI h1]
theorem zr6 (p q : Pt) (hp : p.sm KK) (hq : q.sm KK) : Fn PP 214 [pV p,pV q] (pV (ltP p q)):=by
 refine zzn zab mixed Tryz.func214 rfl rfl (zxW rfl) ?_;intro w;conv=>whnf
 refine zzt (zc4 p q hp hq) rfl ?_;conv=>whnf
 refine zaj ?_ ?_
 ·intro h;have h1 : cmpV p.v q.v<0:=zA0 h;conv=>whnf
  refine zaa ?_;rw [ltP,zxJ h1]
 ·intro h;have h1 : ¬cmpV p.v q.v<0:=zA1 h;conv=>whnf
  refine zaa ?_;rw [ltP,zxI h1]
theorem zve (p q : V) : gtP (PQ p) (PQ q)=PQ (gtV p q):=by unfold gtP gtV; rw [PQ_v,PQ_v]; split <;> rfl
theorem zvL (p q : V) : ltP (PQ p) (PQ q)=PQ (ltV p q):=by unfold ltP ltV; rw [PQ_v,PQ_v]; split <;> rfl
def S0 : Sg:=⟨P0,P0⟩
def mtS (o : Option (V×V)) : Sg:=match o with
 | some (a,b)=>⟨PQ a,PQ b⟩
 | none=>S0
theorem zgG {k : Nat} {a b : V} (ha : SzV k a) (hb : SzV k b) : SzV k (ordV a b).1/\SzV k (ordV a b).2:=by
 unfold ordV; split
 ·exact ⟨hb,ha⟩
 ·exact ⟨ha,hb⟩
theorem ztE {k : Nat} {a b : V} (ha : SzV k a) (hb : SzV k b) : SzV k (gtV a b):=by
 unfold gtV; split
 ·exact hb
 ·exact ha
theorem zup {k : Nat} {a b : V} (ha : SzV k a) (hb : SzV k b) : SzV k (ltV a b):=by
 unfold ltV; split
 ·exact ha
 ·exact hb
theorem zvG (s t : Sg) (hs : s.sm KS) (ht : t.sm KS) : Fn PP 158 [sV s,sV t] (.tuple #[sV (mtS (zbV s.A.v s.B.v t.A.v t.B.v)),.bool (zbV s.A.v s.B.v t.A.v t.B.v).isSome]):=by
 have za:=hs.1.sz (by decide);have zb:=hs.2.sz (by decide);have zc:=ht.1.sz (by decide);have zd:=ht.2.sz (by decide);have zu:=zb.sub za;have zv:=zd.sub zc;have zw:=zc.sub za;have zx:=(zu.cross zv);refine zzn zab mixed Tryz.func158 rfl rfl (zxW rfl) ?_;intro w;conv=>whnf
 refine zak.qk ?_;conv=>whnf
 refine zzu (zfg s (hs.le (by decide))) rfl ?_;conv=>whnf
 refine zzu (zfg t (ht.le (by decide))) rfl ?_;conv=>whnf
 refine zzu (zlr t.A s.A (ht.1.le (by decide)) (hs.1.le (by decide))) rfl ?_;conv=>whnf
 refine zzt (zfM (PQ (s.B.v-s.A.v)) (PQ (t.B.v-t.A.v)) (zu.q.le (by decide)) (zv.q.le (by decide))) rfl ?_;rw [PQ_v,PQ_v];conv=>whnf
 refine zzt (zes (Q ((s.B.v-s.A.v).cross (t.B.v-t.A.v))) (zx.q.le (by decide))) rfl ?_;rw [Q_v];conv=>whnf
 refine zaj ?_ ?_
 ·intro h;have h1 : cmpQ ((s.B.v-s.A.v).cross (t.B.v-t.A.v)) 0≠0:=by simpa using h
  have h2 : (s.B.v-s.A.v).cross (t.B.v-t.A.v)≠0:=by
   intro h3; rw [h3] at h1; exact h1 (by rw [cmpQ,zxI Rat.lt_irrefl,zxI Rat.lt_irrefl])
  have zt1:=(zw.cross zv).div zx;have zt2:=(zw.cross zu).div zx;conv=>whnf
  refine zy4 [(9,10,[7])] (by kernel_rfl) ?_;conv=>whnf
  refine zzu (zfM (PQ (t.A.v-s.A.v)) (PQ (t.B.v-t.A.v)) (zw.q.le (by decide)) (zv.q.le (by decide))) rfl ?_;rw [PQ_v,PQ_v];conv=>whnf
  refine zzu (zkW (Q ((t.A.v-s.A.v).cross (t.B.v-t.A.v))) (Q ((s.B.v-s.A.v).cross (t.B.v-t.A.v))) ((zw.cross zv).q.le (by decide)) (zx.q.le (by decide))) rfl ?_;rw [Q_v,Q_v,quoV,zxI h2];conv=>whnf
  refine zy4 [(9,12,[7])] (by kernel_rfl) ?_;conv=>whnf
  refine zzu (zfM (PQ (t.A.v-s.A.v)) (PQ (s.B.v-s.A.v)) (zw.q.le (by decide)) (zu.q.le (by decide))) rfl ?_;rw [PQ_v,PQ_v];conv=>whnf
  refine zzu (zkW (Q ((t.A.v-s.A.v).cross (s.B.v-s.A.v))) (Q ((s.B.v-s.A.v).cross (t.B.v-t.A.v))) ((zw.cross zu).q.le (by decide)) (zx.q.le (by decide))) rfl ?_;rw [Q_v,Q_v,quoV,zxI h2];conv=>whnf
  refine zzt (zqM (Q ((t.A.v-s.A.v).cross (t.B.v-t.A.v)/(s.B.v-s.A.v).cross (t.B.v-t.A.v))) (zt1.q.le (by decide))) rfl ?_;rw [Q_v];have hnone : (!zdK ((t.A.v-s.A.v).cross (t.B.v-t.A.v)/(s.B.v-s.A.v).cross (t.B.v-t.A.v))||!zdK ((t.A.v-s.A.v).cross (s.B.v-s.A.v)/(s.B.v-s.A.v).cross (t.B.v-t.A.v)))=true->zbV s.A.v s.B.v t.A.v t.B.v=none:=fun h=>by rw [zbV,zxJ h1,zxJ h]
  cases hu1 : zdK ((t.A.v-s.A.v).cross (t.B.v-t.A.v)/(s.B.v-s.A.v).cross (t.B.v-t.A.v)) with
  | false =>
   conv=>whnf
   refine zau ?_;rw [hnone (by rw [hu1]; rfl)]; rfl
  | true =>
   conv=>whnf
   refine zzt (zqM (Q ((t.A.v-s.A.v).cross (s.B.v-s.A.v)/(s.B.v-s.A.v).cross (t.B.v-t.A.v))) (zt2.q.le (by decide))) rfl ?_;rw [Q_v]
   cases hu2 : zdK ((t.A.v-s.A.v).cross (s.B.v-s.A.v)/(s.B.v-s.A.v).cross (t.B.v-t.A.v)) with
   | false =>
    conv=>whnf
    refine zau ?_;rw [hnone (by rw [hu1,hu2]; rfl)]; rfl
   | true =>
    conv=>whnf
    refine zzt (ztZ s.A s.B (Q ((t.A.v-s.A.v).cross (t.B.v-t.A.v)/(s.B.v-s.A.v).cross (t.B.v-t.A.v))) (hs.1.le (by decide)) (hs.2.le (by decide)) (zt1.q.le (by decide))) rfl ?_;rw [Q_v];conv=>whnf
    refine zau ?_;rw [zbV,zxJ h1,zxI (by rw [hu1,hu2]; decide)]; rfl
 ·intro h;have h1 : ¬cmpQ ((s.B.v-s.A.v).cross (t.B.v-t.A.v)) 0≠0:=by simpa using h
  conv=>whnf
  refine zzt (zfM (PQ (s.B.v-s.A.v)) (PQ (t.A.v-s.A.v)) (zu.q.le (by decide)) (zw.q.le (by decide))) rfl ?_;rw [PQ_v,PQ_v];conv=>whnf
  refine zzt (zes (Q ((s.B.v-s.A.v).cross (t.A.v-s.A.v))) ((zu.cross zw).q.le (by decide))) rfl ?_;rw [Q_v];conv=>whnf
  refine zaj ?_ ?_
  ·intro h;have h2 : cmpQ ((s.B.v-s.A.v).cross (t.A.v-s.A.v)) 0≠0:=by simpa using h
   conv=>whnf
   refine zau ?_;rw [zbV,zxI h1,zxJ h2]; rfl
  ·intro h;have h2 : ¬cmpQ ((s.B.v-s.A.v).cross (t.A.v-s.A.v)) 0≠0:=by simpa using h
   have zo:=zgG za zb;have zp:=zgG zc zd;conv=>whnf
   refine zak.qk ?_;conv=>whnf
   refine zzu (zlI s (hs.le (by decide))) rfl ?_;conv=>whnf
   refine zzu (zlI t (ht.le (by decide))) rfl ?_;conv=>whnf
   refine zak.qk ?_;conv=>whnf
   refine zzu (zoZ (PQ (ordV s.A.v s.B.v).1) (PQ (ordV t.A.v t.B.v).1) (zo.1.q.le (by decide)) (zp.1.q.le (by decide))) rfl ?_;rw [zve];conv=>whnf
   refine zzu (zr6 (PQ (ordV s.A.v s.B.v).2) (PQ (ordV t.A.v t.B.v).2) (zo.2.q.le (by decide)) (zp.2.q.le (by decide))) rfl ?_;rw [zvL];conv=>whnf
   refine zzt (zc4 (PQ (gtV (ordV s.A.v s.B.v).1 (ordV t.A.v t.B.v).1)) (PQ (ltV (ordV s.A.v s.B.v).2 (ordV t.A.v t.B.v).2)) ((ztE zo.1 zp.1).q.le (by decide)) ((zup zo.2 zp.2).q.le (by decide))) rfl ?_;rw [PQ_v,PQ_v];conv=>whnf
   refine zaj ?_ ?_
   ·intro h;have h3 : cmpV (gtV (ordV s.A.v s.B.v).1 (ordV t.A.v t.B.v).1) (ltV (ordV s.A.v s.B.v).2 (ordV t.A.v t.B.v).2)>0:=zA0 h;conv=>whnf
    refine zau ?_;rw [zbV,zxI h1,zxI h2,zxJ h3]; rfl
   ·intro h;have h3 : ¬cmpV (gtV (ordV s.A.v s.B.v).1 (ordV t.A.v t.B.v).1) (ltV (ordV s.A.v s.B.v).2 (ordV t.A.v t.B.v).2)>0:=zA1 h;conv=>whnf
    refine zau ?_;rw [zbV,zxI h1,zxI h2,zxI h3]; rfl
def zji (s t : Sg) : Value:=if zb3 s\/zb3 t then .tuple #[sV S0,.bool false,.int .i64 12] else .tuple #[sV (mtS (zbV s.A.v s.B.v t.A.v t.B.v)),.bool (zbV s.A.v s.B.v t.A.v t.B.v).isSome,.int .i64 0]
theorem zvo (s t : Sg) (hs : s.sm KS) (ht : t.sm KS) : Fn PP 87 [sV s,sV t] (zji s t):=by
 refine zzn zab mixed Tryz.func87 rfl rfl (zxW rfl) ?_;intro w;conv=>whnf
 refine zzt (ztp s t hs ht) rfl ?_;by_cases h : zb3 s\/zb3 t
 ·rw [show (decide (zb3 s)||decide (zb3 t))=true by simpa using h,zji,zxJ h];conv=>whnf
  exact zar rfl
 ·rw [show (decide (zb3 s)||decide (zb3 t))=false by simpa using h,zji,zxI h];conv=>whnf
  refine zzt (zvG s t hs ht) rfl ?_;conv=>whnf
  exact zar rfl
def ratC (r : Raw) : List Value:=[.bool r.neg,.string (bs r.num),.string (bs r.den)]
theorem zbm (r : Raw) : (ratC r).length=3:=rfl
def Pt.ok (p : Pt) : Prop:=p.x.ok/\p.y.ok
instance (p : Pt) : Decidable p.ok:=inferInstanceAs (Decidable (_/\_))
theorem Pt.ok_eq {p : Pt} (h : p.ok) : p=PQ p.v:=by
 obtain ⟨h1,h2⟩:=h
 cases p
 simp only [PQ,Pt.v,Raw.ok] at *;rw [<-h1,<-h2]
abbrev zBs:=@Pt.ok_eq
theorem zow (a : V) : (PQ a).ok:=⟨Q_ok _,Q_ok _⟩
theorem zg6 (p : Pt) (hp : p.sm KK) : Fn PP 39 [pV p] (.int .i64 (if p.ok then 0 else 1)):=by
 refine zzn zab mixed Tryz.func39 rfl rfl (zxW rfl) ?_;intro w;conv=>whnf
 refine zal (ι:=Nat) (fun i=>⟨[(9,.o (.s 9 0 2 2)),(10,.o (.v (.int .i64 2))),(11,.o (.v (.int .i64 i)))],[(9,.sym (rowV ratC [p.x,p.y]) zat)],[]⟩)
  (fun i=>i<=2/\∀ j,j<i->∀ r,[p.x,p.y][j]?=some r->r.ok) (fun i=>2-i) 0 ⟨zyD _,fun j hj=>by omega⟩
  (zzj ⟨rfl,rfl,rfl,trivial⟩ ⟨⟨_,rfl,.sym _ rfl⟩,trivial⟩ (fun R hR=>hR)) ?_
 rintro i ⟨hi,hok⟩;conv=>whnf
 refine zaj ?_ ?_
 ·intro h;have hi2 : i<2:=by
   have : (i : Int)<(2 : Int):=zA0 h;omega
  conv=>whnf
  refine ⟨by show 0<=(i : Int)/\(i : Int)<((2 : Nat) : Int); omega,?_⟩;conv=>whnf
  refine zzT ratC zbm (k:=i) (by show 0+(i : Int).toNat*3=i*3; rw [zzS]; omega) (by simp; omega) (by decide) (fun h=>by cases h) ?_;intro r hr;have hrs : r.sm KK:=by
   rcases zy1.1 (zyq hr) with rfl | h
   ·exact hp.1
   ·rw [zyZ.1 h]; exact hp.2
  conv=>whnf
  refine zzt (zrH r hrs) rfl ?_;by_cases hro : r.ok
  ·rw [zd2,zxJ hro];conv=>whnf
   refine ⟨i+1,⟨by omega,fun j hj r' hr'=>?_⟩,by omega,zzj ⟨rfl,rfl,?_,trivial⟩ ⟨mrf rfl,trivial⟩ (fun R hR=>hR)⟩
   ·by_cases hji : j=i
    ·rw [hji,hr] at hr'; cases hr'; exact hro
    ·exact hok j (by omega) r' hr'
   ·show some (SV.o (.v (.int .i64 (IntKind.i64.wrap ((i : Int)+1)))))=some (SV.o (.v (.int .i64 ((i+1 : Nat) : Int))));rw [wrap_i64 (by omega) (by omega)]; rfl
  ·rw [zd2,zxI hro];conv=>whnf
   refine zaa ?_;have : ¬p.ok:=by
    rintro ⟨h1,h2⟩;rcases zy1.1 (zyq hr) with rfl | h
    ·exact hro h1
    ·rw [zyZ.1 h] at hro; exact hro h2
   rw [zxI this]
 ·intro h;have hi2 : i=2:=by
   have : ¬(i : Int)<(2 : Int):=zA1 h;omega
  subst hi2;have : p.ok:=⟨hok 0 (by decide) _ rfl,hok 1 (by decide) _ rfl⟩;rw [zxJ this];conv=>whnf
  exact zaa rfl
def ptC (p : Pt) : List Value:=[.bool p.x.neg,.string (bs p.x.num),.string (bs p.x.den),.bool p.y.neg,.string (bs p.y.num),.string (bs p.y.den)]
theorem zo3 (p : Pt) : (ptC p).length=6:=rfl
theorem zk5 {g : FuncId} {c : List Value} {k : Nat} {st : SS} (h : boxV st k=some c) : zuc g [c] [.o (.clo g [CP.l k])] st:=by
 refine ⟨[k],rfl,rfl,fun i k' c' h1 h2=>?_⟩
 match i with
 | 0=>cases h1; cases h2; exact h
 | i+1=>cases h1
theorem zmm {N k v j : Nat} (h : k<N) : (bif Nat.beq (N+j) k then v else N+j)=N+j:=by
 have : Nat.beq (N+j) k=false:=by
  cases hb : Nat.beq (N+j) k with
  | false=>rfl
  | true=>have:=zxj hb; omega
 rw [this]; rfl
def sgC (e : Pt×Pt) : List Value:=ptC e.1++ptC e.2
theorem zdu (e : Pt×Pt) : (sgC e).length=12:=rfl
abbrev ratM (r : Raw) : ME:=.box [.v (.bool r.neg),.v (.string (bs r.num)),.v (.string (bs r.den))] zat
theorem zbT {a : Addr} {xs : List Value} {w : World} (h : SlF (some a) xs w) (hx : xs≠[]) : ∃ b o,a=⟨b,o,none⟩:=by
 rcases h with h | ⟨b,o,hA,_⟩
 ·exact absurd h hx
 ·exact ⟨b,o,zz1 hA⟩
theorem zfz {i n : Nat} (h : i<n) (hn : n<=1000000000) : IntKind.i64.wrap ((i : Int)+1)=((i+1 : Nat) : Int):=by rw [wrap_i64 (by omega) (by omega)]; rfl
theorem zaq {i n : Nat} (h : i<n) (hn : n<=1000000000) : some (SV.o (.v (.int .i64 (IntKind.i64.wrap ((i : Int)+1)))))=some (SV.o (.v (.int .i64 ((i+1 : Nat) : Int)))):=by rw [zfz h hn]
theorem zbB {α : Type} {l : List α} {j : Nat} {x y : α} (h : l[((j : Nat) : Int).toNat]?=some x) (hy : l[j]?=some y) : x=y:=by rw [zzS,hy] at h; exact (zz1 h).symm
theorem zqc {α : Type} {l : List α} {i : Nat} {x : α} (h : l[i]?=some x) : l.drop i=x::l.drop (i+1):=by
 obtain ⟨h1,h2⟩:=zyz.1 h;rw [<-h2]; exact zzd h1
theorem zaD {α : Type} {l : List α} {i : Nat} {x : α} (h : l[i]?=some x) : l.take (i+1)=l.take i++[x]:=by rw [zAr,h]; rfl
end Go.Sx
end
