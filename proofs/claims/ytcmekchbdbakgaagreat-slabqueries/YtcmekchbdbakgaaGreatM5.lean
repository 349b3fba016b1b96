/- A part of the proof of a law. No conditions. -/
import Derived.Test.YtcmekchbdbakgaaGreatM4
import Derived.Test.YtcmekchbdbakgaaGreatM3
import Derived.KernelRfl
set_option linter.unusedVariables false
set_option linter.unusedSimpArgs false
set_option maxRecDepth 10000
set_option maxHeartbeats 8000000
section
namespace Go.Sx
open Go Go.Proofs
abbrev zBu:=@Nat.zero_mul
abbrev zBt:=@Nat.lt_trichotomy
theorem zf2 : ∀ (a b : List UInt8),a.length=b.length->Op.bytesLess a b=decide (nat a<nat b)
 | [],[],_=>rfl
 | x::a,[],h=>by cases h
 | [],y::b,h=>by cases h
 | x::a,y::b,h=>by
  have hl : a.length=b.length:=by simpa using h
  have ih:=zf2 a b hl;have ha:=zcT a;have hb:=zcT b;rw [Op.bytesLess,ih,zcs,zcs,<-hl];rw [<-hl] at hb;rw [zyV];simp only [zxF,zxV,zxY,zyY,UInt8.lt_iff_toNat_lt];generalize 256 ^ a.length=B at *;constructor
  ·rintro (h1 | ⟨rfl,h1⟩)
   ·have : (x.toNat+1)*B<=y.toNat*B:=zyL _ h1;rw [zzP] at this; omega
   ·omega
  ·intro h1;rcases zBt x.toNat y.toNat with h2 | h2 | h2
   ·exact .inl h2
   ·right; exact ⟨zzN.1 h2,by rw [h2] at h1; omega⟩
   ·exfalso;have : (y.toNat+1)*B<=x.toNat*B:=zyL _ h2;rw [zzP] at this; omega
theorem zdd {m n : Nat} (h : (bytes m).length<(bytes n).length) : m<n:=by
 have h1:=zcT (bytes m);rw [zap] at h1;have h2 : ¬n<256 ^ (bytes m).length:=fun h2=>by have:=zbd h2; omega
 omega
theorem zcR (m n : Nat) : Fn PP 226 [.string (bs (bytes m)),.string (bs (bytes n))] (.int .i64 (cmpN m n)):=by
 refine zzn zab mixed Tryz.func226 rfl rfl (zxW rfl) ?_;intro w;conv=>whnf
 refine zaj ?_ ?_
 ·intro h;have hne : (bytes m).length≠(bytes n).length:=by
   intro he;have h2 : (((bytes m).length : Int) != ((bytes n).length : Int))=true:=h;rw [he] at h2;simp at h2
  conv=>whnf
  refine zaj ?_ ?_
  ·intro h2;have h3 : (bytes m).length<(bytes n).length:=by
    have : ((bytes m).length : Int)<((bytes n).length : Int):=zA0 h2;omega
   conv=>whnf
   refine zaa ?_;rw [cmpN,zxJ (zdd h3)]
  ·intro h2;have h3 : (bytes n).length<(bytes m).length:=by
    have : ¬((bytes m).length : Int)<((bytes n).length : Int):=zA1 h2;omega
   have h4:=zdd h3;conv=>whnf
   refine zaa ?_;rw [cmpN,zxI (by omega),zxJ h4]
 ·intro h;have he : (bytes m).length=(bytes n).length:=by
   have h2 : (((bytes m).length : Int) != ((bytes n).length : Int))=false:=h;simp at h2; omega
  conv=>whnf
  have hb1:=zf2 (bytes m) (bytes n) he;rw [zap,zap] at hb1;rcases zBt m n with h1 | h1 | h1
  ·refine zag (by rw [zbs,zbs,hb1]; exact zz8 h1) ?_;conv=>whnf
   refine zaa ?_;rw [cmpN,zxJ h1]
  ·refine zac (by rw [zbs,zbs,hb1]; exact zz9 (by omega)) ?_;conv=>whnf
   refine zac (by rw [zbs,zbs,hb1,h1]; simp) ?_;conv=>whnf
   refine zaa ?_;rw [cmpN,zxI (by omega),zxI (by omega)]
  ·refine zac (by rw [zbs,zbs,hb1]; exact zz9 (by omega)) ?_;conv=>whnf
   refine zag (by
    rw [zbs,zbs,hb1,zz9 (show ¬m<n by omega)];have : bytes m≠bytes n:=fun h=>by have:=zki h; omega
    simp [this]) ?_
   conv=>whnf
   refine zaa ?_;rw [cmpN,zxI (by omega),zxJ h1]
def dgt (l : List UInt8) (j : Nat) : Nat:=if j<l.length then (l.getD (l.length-1-j) 0).toNat else 0
def low (l : List UInt8) (j : Nat) : Nat:=nat (l.drop (l.length-j))
theorem zhk (l : List UInt8) : low l 0=0:=by unfold low; rw [zza,zAE]; rfl
theorem zjz {l : List UInt8} {j : Nat} (h : l.length<=j) : low l j=nat l:=by unfold low; rw [show l.length-j=0 by omega,zAJ]
theorem zcL (l : List UInt8) (j : Nat) : low l (j+1)=dgt l j*256 ^ j+low l j:=by
 unfold low dgt;by_cases h : j<l.length
 ·rw [zxJ h];have e : l.length-(j+1)=l.length-1-j:=by omega
  have hlt : l.length-1-j<l.length:=by omega
  rw [e,zzd hlt,zcs,show l.length-1-j+1=l.length-j by omega];have : (l.drop (l.length-j)).length=j:=by rw [zzw]; omega
  rw [this,zzO,zyy hlt]; rfl
 ·rw [zxI h,show l.length-(j+1)=l.length-j by omega]; omega
theorem ziK (l : List UInt8) (j : Nat) : dgt l j<256:=by
 unfold dgt; split
 ·exact (l.getD (l.length-1-j) 0).toBitVec.isLt
 ·decide
theorem zoL {k : Nat} {L : List UInt8} (x : UInt8) : (List.replicate (k+1) 0++L).set k x=List.replicate k 0++(x::L):=by
 rw [zAT,zyF,zAR _ _ (by simp)];simp
theorem zs3 (l : List UInt8) {j : Nat} (h : j<l.length) {z : Int} (hz : z=(l.length : Int)-((j+1 : Nat) : Int)) : sb (bs l) z=(dgt l j : Int):=by
 rw [zgP,hz];unfold dgt;rw [zxJ h,show ((l.length : Int)-((j+1 : Nat) : Int)).toNat=l.length-1-j by omega]
theorem zbO {x : Nat} (hx : x<256) (L : List UInt8) : nat (UInt8.ofNat x::L)=x*256 ^ L.length+nat L:=by
 rw [zcs,zAL,zye hx]
theorem zvE (a b : Nat) : (if (b : Int)>(a : Int) then (b : Int) else (a : Int))=((max a b : Nat) : Int):=by
 by_cases h : (b : Int)>(a : Int)
 ·rw [zxJ h]; omega
 ·rw [zxI h]; omega
theorem zfm (n : Nat) : repl n [Value.int .u8 0]=rowV u8c (List.replicate n 0):=by rw [zb4]; rfl
theorem zr8 {P c da db nL A B : Nat} (h : nL+c*P=A+B) : (c+da+db)%256*P+nL+(c+da+db)/256*(P*256)=(da*P+A)+(db*P+B):=by
 have h1 : (c+da+db)*P=(c+da+db)%256*P+(c+da+db)/256*(P*256):=by
  have:=zzy (c+da+db) 256;rw [zzG P 256,<-zzF,<-zzP,zzG _ 256,this]
 rw [zzP,zzP] at h1;omega
theorem zny {x : Nat} : IntKind.u8.wrap (x : Int)=((UInt8.ofNat (x%256)).toNat : Int):=by
 rw [zAN,zAL]; omega
theorem zcS {N k : Nat} {L : List UInt8} {x : Nat} {z : Int} {v : Value} (hk : N=k+1) (hz : z=(k : Int)) (hv : v=.int .u8 (x : Int)) :
  putN (z.toNat*1) [Value.int .u8 (IntKind.u8.wrap (x : Int))] (rowV u8c (List.replicate N 0++L))=rowV u8c (List.replicate k 0++(UInt8.ofNat (x%256)::L)):=by
 have hput:=zcc (f:=u8c) zbK (k:=k) (l:=List.replicate (k+1) 0++L) (UInt8.ofNat (x%256)) (by simp; omega);rw [zoL] at hput;rw [hz,hk,zzS,<-hput,zny]; rfl
theorem zoY (x : Nat) : Int.fdiv (x : Int) (2 ^ min (8 : Int).toNat IntKind.i64.bits)=((x/256 : Nat) : Int):=by
 rw [show min (8 : Int).toNat IntKind.i64.bits=8 from rfl,zAO _ (by decide)]; rfl
theorem zj0 (a b : List UInt8) (ha : a.length<=500000000) (hb : b.length<=500000000) : Fn PP 237 [.string (bs a),.string (bs b)] (.string (bs (bytes (nat a+nat b)))):=by
 refine zzn zab mixed Tryz.func237 rfl rfl (zxW rfl) ?_;intro w;obtain ⟨m,hm⟩ : ∃ m,m=max a.length b.length:=⟨_,rfl⟩;have hmx : (if ((b.length : Nat) : Int)>((a.length : Nat) : Int) then ((b.length : Nat) : Int) else ((a.length : Nat) : Int))=(m : Int):=by rw [hm]; exact zvE _ _
 obtain ⟨N,hN⟩ : ∃ N,N=m+1:=⟨_,rfl⟩;have hw1 : IntKind.i64.wrap ((if ((b.length : Nat) : Int)>((a.length : Nat) : Int) then ((b.length : Nat) : Int) else ((a.length : Nat) : Int))+1)=(N : Int):=by rw [hmx,wrap_i64 (by omega) (by omega)]; omega
 conv=>whnf
 refine ⟨?_,?_⟩
 ·show 0<=IntKind.i64.wrap ((if ((b.length : Nat) : Int)>((a.length : Nat) : Int) then ((b.length : Nat) : Int) else ((a.length : Nat) : Int))+1)/\IntKind.i64.wrap ((if ((b.length : Nat) : Int)>((a.length : Nat) : Int) then ((b.length : Nat) : Int) else ((a.length : Nat) : Int))+1)<=IntKind.i64.wrap ((if ((b.length : Nat) : Int)>((a.length : Nat) : Int) then ((b.length : Nat) : Int) else ((a.length : Nat) : Int))+1)/\((1 : Nat) : Int)*IntKind.i64.wrap ((if ((b.length : Nat) : Int)>((a.length : Nat) : Int) then ((b.length : Nat) : Int) else ((a.length : Nat) : Int))+1)<=281474976710656/\IntKind.i64.wrap ((if ((b.length : Nat) : Int)>((a.length : Nat) : Int) then ((b.length : Nat) : Int) else ((a.length : Nat) : Int))+1)<=9223372036854775807
  rw [hw1]; omega
 conv=>whnf
 refine zal (ι:=Nat×Nat×List UInt8) (fun ⟨j,c,L⟩=>⟨[(0,.o (.v (.string (bs a)))),(1,.o (.v (.string (bs b)))),(5,.o (.v (.int .i64 N))),(6,.o (.w 16)),(7,.o (.v (.int .i64 c))),(8,.o (.v (.int .i64 (j+1 : Nat))))],[(16,.own zaO 1 N (rowV u8c (List.replicate (N-j) 0++L)))],[]⟩)
  (fun ⟨j,c,L⟩=>j<=N/\L.length=j/\c<=1/\nat L+c*256 ^ j=low a j+low b j) (fun ⟨j,c,L⟩=>N-j) (0,0,[]) ⟨zyD _,rfl,by decide,by rw [zhk,zhk]; rfl⟩ (zzj ⟨rfl,rfl,?_,rfl,rfl,rfl,trivial⟩ ⟨⟨_,rfl,?_⟩,trivial⟩ (fun R hR=>hR)) ?_
 ·show some (SV.o (.v (.int .i64 (IntKind.i64.wrap ((if ((b.length : Nat) : Int)>((a.length : Nat) : Int) then ((b.length : Nat) : Int) else ((a.length : Nat) : Int))+1)))))=_;rw [hw1]; rfl
 ·show MEle (ME.own zaO 1 (IntKind.i64.wrap ((if ((b.length : Nat) : Int)>((a.length : Nat) : Int) then ((b.length : Nat) : Int) else ((a.length : Nat) : Int))+1)).toNat (repl (IntKind.i64.wrap ((if ((b.length : Nat) : Int)>((a.length : Nat) : Int) then ((b.length : Nat) : Int) else ((a.length : Nat) : Int))+1)).toNat [Value.int .u8 0])) (ME.own zaO 1 N (rowV u8c (List.replicate (N-0) 0++[])));rw [hw1,zzS,zfm,zyP]; exact .refl _
 rintro ⟨j,c,L⟩ ⟨hj,hL,hc,hinv⟩;conv=>whnf
 refine zaj ?_ ?_
 ·intro h;have hj2 : j<N:=by
   have : ((j+1 : Nat) : Int)<=(N : Int):=zA0 h;omega
  obtain ⟨k,hk⟩ : ∃ k,N-j=k+1:=⟨N-j-1,by omega⟩;have hwk : IntKind.i64.wrap ((N : Int)-((j+1 : Nat) : Int))=(k : Int):=by rw [wrap_i64 (by omega) (by omega)]; omega
  have hwa : ∀ x : List UInt8,x.length<=500000000->IntKind.i64.wrap ((x.length : Int)-((j+1 : Nat) : Int))=(x.length : Int)-((j+1 : Nat) : Int):=fun x hx=>wrap_i64 (by omega) (by omega)
  have hda:=ziK a j;have hdb:=ziK b j;have hcv : ∀ x : List UInt8,x.length<=500000000->j<x.length->IntKind.i64.wrap (sb (bs x) (IntKind.i64.wrap ((x.length : Int)-((j+1 : Nat) : Int))))=(dgt x j : Int):=fun x hx hlt=>by
   rw [hwa x hx,zs3 x hlt rfl];have:=ziK x j;exact wrap_i64 (by omega) (by omega)
  have hidx : ∀ x : List UInt8,x.length<=500000000->j<x.length->0<=IntKind.i64.wrap ((x.length : Int)-((j+1 : Nat) : Int))/\IntKind.i64.wrap ((x.length : Int)-((j+1 : Nat) : Int))<(((bs x).size : Nat) : Int):=fun x hx hlt=>by
   rw [hwa x hx]; show _/\_<((x.length : Nat) : Int); omega
  have d0 : ∀ x : List UInt8,¬j<x.length->dgt x j=0:=fun x hx=>by unfold dgt; rw [zxI hx]
  have hstep:=zr8 (da:=dgt a j) (db:=dgt b j) hinv;rw [<-zcL,<-zcL] at hstep;conv=>whnf
  refine zaj ?_ ?_
  ·intro h1;have la : j<a.length:=by
    have : ((j+1 : Nat) : Int)<=((a.length : Nat) : Int):=zA0 h1;omega
   conv=>whnf
   refine ⟨hidx a ha la,?_⟩;conv=>whnf
   refine zaj ?_ ?_
   ·intro h2;have lb : j<b.length:=by
     have : ((j+1 : Nat) : Int)<=((b.length : Nat) : Int):=zA0 h2;omega
    conv=>whnf
    refine ⟨hidx b hb lb,?_⟩;have hE : IntKind.i64.wrap (IntKind.i64.wrap ((c : Int)+IntKind.i64.wrap (sb (bs a) (IntKind.i64.wrap ((a.length : Int)-((j+1 : Nat) : Int)))))+IntKind.i64.wrap (sb (bs b) (IntKind.i64.wrap ((b.length : Int)-((j+1 : Nat) : Int)))))=((c+dgt a j+dgt b j : Nat) : Int):=by
     rw [hcv a ha la,hcv b hb lb,wrap_i64 (n:=(c : Int)+_) (by omega) (by omega),wrap_i64 (by omega) (by omega)]; omega
    conv=>whnf
    refine ⟨by rw [hwk]; show 0<=(k : Int)/\(k : Int)<(N : Int); omega,?_⟩;conv=>whnf
    refine ⟨⟨by rw [hwk,zad zbK]; show (k : Int).toNat*1+1<=_; simp; omega,by decide⟩,?_⟩;conv=>whnf
    refine ⟨by decide,?_⟩;conv=>whnf
    refine ⟨(j+1,(c+dgt a j+dgt b j)/256,UInt8.ofNat ((c+dgt a j+dgt b j)%256)::L),⟨by omega,by simp [hL],by omega,?_⟩,by show N-(j+1)<N-j; omega,zzj ⟨rfl,rfl,rfl,rfl,?_,zaq (i:=j+1) (n:=N+1) (by omega) (by omega),trivial⟩ ⟨⟨_,rfl,?_⟩,trivial⟩ (fun R hR=>hR)⟩
    ·rw [zbO (zyl _ (by decide)),hL,zzD]; exact hstep
    ·show some (SV.o (.v (.int .i64 (Int.fdiv (IntKind.i64.wrap (IntKind.i64.wrap ((c : Int)+IntKind.i64.wrap (sb (bs a) (IntKind.i64.wrap ((a.length : Int)-((j+1 : Nat) : Int)))))+IntKind.i64.wrap (sb (bs b) (IntKind.i64.wrap ((b.length : Int)-((j+1 : Nat) : Int)))))) (2 ^ min (8 : Int).toNat IntKind.i64.bits)))))=_;rw [hE,zoY]; rfl
    ·show MEle (ME.own zaO 1 N (putN ((IntKind.i64.wrap ((N : Int)-((j+1 : Nat) : Int))).toNat*1) [Value.int .u8 (IntKind.u8.wrap (IntKind.i64.wrap (IntKind.i64.wrap ((c : Int)+IntKind.i64.wrap (sb (bs a) (IntKind.i64.wrap ((a.length : Int)-((j+1 : Nat) : Int)))))+IntKind.i64.wrap (sb (bs b) (IntKind.i64.wrap ((b.length : Int)-((j+1 : Nat) : Int)))))))] (rowV u8c (List.replicate (N-j) 0++L)))) (ME.own zaO 1 N (rowV u8c (List.replicate (N-(j+1)) 0++(UInt8.ofNat ((c+dgt a j+dgt b j)%256)::L))));rw [hE,zcS hk hwk rfl,show N-(j+1)=k by omega]; exact .refl _
   ·intro h2;have lb : ¬j<b.length:=by
     have : ¬((j+1 : Nat) : Int)<=((b.length : Nat) : Int):=zA1 h2;omega
    have z:=d0 b lb;have hE : IntKind.i64.wrap ((c : Int)+IntKind.i64.wrap (sb (bs a) (IntKind.i64.wrap ((a.length : Int)-((j+1 : Nat) : Int)))))=((c+dgt a j+dgt b j : Nat) : Int):=by
     rw [hcv a ha la,wrap_i64 (by omega) (by omega)]; omega
    conv=>whnf
    refine ⟨by rw [hwk]; show 0<=(k : Int)/\(k : Int)<(N : Int); omega,?_⟩;conv=>whnf
    refine ⟨⟨by rw [hwk,zad zbK]; show (k : Int).toNat*1+1<=_; simp; omega,by decide⟩,?_⟩;conv=>whnf
    refine ⟨by decide,?_⟩;conv=>whnf
    refine ⟨(j+1,(c+dgt a j+dgt b j)/256,UInt8.ofNat ((c+dgt a j+dgt b j)%256)::L),⟨by omega,by simp [hL],by omega,?_⟩,by show N-(j+1)<N-j; omega,zzj ⟨rfl,rfl,rfl,rfl,?_,zaq (i:=j+1) (n:=N+1) (by omega) (by omega),trivial⟩ ⟨⟨_,rfl,?_⟩,trivial⟩ (fun R hR=>hR)⟩
    ·rw [zbO (zyl _ (by decide)),hL,zzD]; exact hstep
    ·show some (SV.o (.v (.int .i64 (Int.fdiv (IntKind.i64.wrap ((c : Int)+IntKind.i64.wrap (sb (bs a) (IntKind.i64.wrap ((a.length : Int)-((j+1 : Nat) : Int)))))) (2 ^ min (8 : Int).toNat IntKind.i64.bits)))))=_;rw [hE,zoY]; rfl
    ·show MEle (ME.own zaO 1 N (putN ((IntKind.i64.wrap ((N : Int)-((j+1 : Nat) : Int))).toNat*1) [Value.int .u8 (IntKind.u8.wrap (IntKind.i64.wrap ((c : Int)+IntKind.i64.wrap (sb (bs a) (IntKind.i64.wrap ((a.length : Int)-((j+1 : Nat) : Int)))))))] (rowV u8c (List.replicate (N-j) 0++L)))) (ME.own zaO 1 N (rowV u8c (List.replicate (N-(j+1)) 0++(UInt8.ofNat ((c+dgt a j+dgt b j)%256)::L))));rw [hE,zcS hk hwk rfl,show N-(j+1)=k by omega]; exact .refl _
  ·intro h1;have la : ¬j<a.length:=by
    have : ¬((j+1 : Nat) : Int)<=((a.length : Nat) : Int):=zA1 h1;omega
   have z:=d0 a la;conv=>whnf
   refine zaj ?_ ?_
   ·intro h2;have lb : j<b.length:=by
     have : ((j+1 : Nat) : Int)<=((b.length : Nat) : Int):=zA0 h2;omega
    conv=>whnf
    refine ⟨hidx b hb lb,?_⟩;have hE : IntKind.i64.wrap ((c : Int)+IntKind.i64.wrap (sb (bs b) (IntKind.i64.wrap ((b.length : Int)-((j+1 : Nat) : Int)))))=((c+dgt a j+dgt b j : Nat) : Int):=by
     rw [hcv b hb lb,wrap_i64 (by omega) (by omega)]; omega
    conv=>whnf
    refine ⟨by rw [hwk]; show 0<=(k : Int)/\(k : Int)<(N : Int); omega,?_⟩;conv=>whnf
    refine ⟨⟨by rw [hwk,zad zbK]; show (k : Int).toNat*1+1<=_; simp; omega,by decide⟩,?_⟩;conv=>whnf
    refine ⟨by decide,?_⟩;conv=>whnf
    refine ⟨(j+1,(c+dgt a j+dgt b j)/256,UInt8.ofNat ((c+dgt a j+dgt b j)%256)::L),⟨by omega,by simp [hL],by omega,?_⟩,by show N-(j+1)<N-j; omega,zzj ⟨rfl,rfl,rfl,rfl,?_,zaq (i:=j+1) (n:=N+1) (by omega) (by omega),trivial⟩ ⟨⟨_,rfl,?_⟩,trivial⟩ (fun R hR=>hR)⟩
    ·rw [zbO (zyl _ (by decide)),hL,zzD]; exact hstep
    ·show some (SV.o (.v (.int .i64 (Int.fdiv (IntKind.i64.wrap ((c : Int)+IntKind.i64.wrap (sb (bs b) (IntKind.i64.wrap ((b.length : Int)-((j+1 : Nat) : Int)))))) (2 ^ min (8 : Int).toNat IntKind.i64.bits)))))=_;rw [hE,zoY]; rfl
    ·show MEle (ME.own zaO 1 N (putN ((IntKind.i64.wrap ((N : Int)-((j+1 : Nat) : Int))).toNat*1) [Value.int .u8 (IntKind.u8.wrap (IntKind.i64.wrap ((c : Int)+IntKind.i64.wrap (sb (bs b) (IntKind.i64.wrap ((b.length : Int)-((j+1 : Nat) : Int)))))))] (rowV u8c (List.replicate (N-j) 0++L)))) (ME.own zaO 1 N (rowV u8c (List.replicate (N-(j+1)) 0++(UInt8.ofNat ((c+dgt a j+dgt b j)%256)::L))));rw [hE,zcS hk hwk rfl,show N-(j+1)=k by omega]; exact .refl _
   ·intro h2;have lb : ¬j<b.length:=by
     have : ¬((j+1 : Nat) : Int)<=((b.length : Nat) : Int):=zA1 h2;omega
    have z2:=d0 b lb;have hE : (c : Int)=((c+dgt a j+dgt b j : Nat) : Int):=by
     omega
    conv=>whnf
    refine ⟨by rw [hwk]; show 0<=(k : Int)/\(k : Int)<(N : Int); omega,?_⟩;conv=>whnf
    refine ⟨⟨by rw [hwk,zad zbK]; show (k : Int).toNat*1+1<=_; simp; omega,by decide⟩,?_⟩;conv=>whnf
    refine ⟨by decide,?_⟩;conv=>whnf
    refine ⟨(j+1,(c+dgt a j+dgt b j)/256,UInt8.ofNat ((c+dgt a j+dgt b j)%256)::L),⟨by omega,by simp [hL],by omega,?_⟩,by show N-(j+1)<N-j; omega,zzj ⟨rfl,rfl,rfl,rfl,?_,zaq (i:=j+1) (n:=N+1) (by omega) (by omega),trivial⟩ ⟨⟨_,rfl,?_⟩,trivial⟩ (fun R hR=>hR)⟩
    ·rw [zbO (zyl _ (by decide)),hL,zzD]; exact hstep
    ·show some (SV.o (.v (.int .i64 (Int.fdiv ((c : Int)) (2 ^ min (8 : Int).toNat IntKind.i64.bits)))))=_;rw [hE,zoY]; rfl
    ·show MEle (ME.own zaO 1 N (putN ((IntKind.i64.wrap ((N : Int)-((j+1 : Nat) : Int))).toNat*1) [Value.int .u8 (IntKind.u8.wrap ((c : Int)))] (rowV u8c (List.replicate (N-j) 0++L)))) (ME.own zaO 1 N (rowV u8c (List.replicate (N-(j+1)) 0++(UInt8.ofNat ((c+dgt a j+dgt b j)%256)::L))));rw [hE,zcS hk hwk rfl,show N-(j+1)=k by omega]; exact .refl _
 ·intro h;have hj2 : j=N:=by
   have : ¬((j+1 : Nat) : Int)<=(N : Int):=zA1 h;omega
  subst hj2;rw [zjz (by omega),zjz (by omega)] at hinv;have hc0 : c=0:=by
   have h1:=za7 (l:=a) (k:=j-1) (by omega);have h2:=za7 (l:=b) (k:=j-1) (by omega);rcases zyf c with h3 | h3
   ·exact h3
   ·exfalso;have h4 : 256 ^ j=256 ^ (j-1)*256:=by rw [<-zzD,show (j-1).succ=j by omega]
    have : 1*256 ^ j<=c*256 ^ j:=zyL _ h3;omega
  rw [hc0,zBu,zxL] at hinv;conv=>whnf
  refine ⟨L,hL,by show (rowV u8c (List.replicate (j-j) 0++L)).take j=bytV L; rw [zAI,zAW,zzJ,zdZ]; exact zyJ (by simp [bytV,hL]),?_⟩;conv=>whnf
  refine zzt (zfp L) rfl ?_;rw [zcP,hinv];conv=>whnf
  exact zaa rfl
theorem zgZ {P d da db bw bw' nL A B : Nat} (h : nL+B=A+bw*P) (hd : d+db+bw=da+256*bw') : d*P+nL+(db*P+B)=(da*P+A)+bw'*(P*256):=by
 have h1 : (d+db+bw)*P=(da+256*bw')*P:=by rw [hd]
 rw [zzP,zzP,zzP,zzG 256 bw',zzF,zzG 256 P] at h1;omega
theorem zf7 (a b : List UInt8) (ha : a.length<=500000000) (hb : b.length<=a.length) (hle : nat b<=nat a) : Fn PP 238 [.string (bs a),.string (bs b)] (.string (bs (bytes (nat a-nat b)))):=by
 refine zzn zab mixed Tryz.func238 rfl rfl (zxW rfl) ?_;intro w;obtain ⟨N,hN⟩ : ∃ N,N=a.length:=⟨_,rfl⟩;conv=>whnf
 refine ⟨by show 0<=((a.length : Nat) : Int)/\((a.length : Nat) : Int)<=((a.length : Nat) : Int)/\((1 : Nat) : Int)*((a.length : Nat) : Int)<=281474976710656/\((a.length : Nat) : Int)<=9223372036854775807; omega,?_⟩;conv=>whnf
 refine zal (ι:=Nat×Nat×List UInt8) (fun ⟨j,c,L⟩=>⟨[(0,.o (.v (.string (bs a)))),(1,.o (.v (.string (bs b)))),(5,.o (.w 11)),(6,.o (.v (.int .i64 c))),(7,.o (.v (.int .i64 (j+1 : Nat))))],[(11,.own zaO 1 N (rowV u8c (List.replicate (N-j) 0++L)))],[]⟩)
  (fun ⟨j,c,L⟩=>j<=N/\L.length=j/\c<=1/\nat L+low b j=low a j+c*256 ^ j) (fun ⟨j,c,L⟩=>N-j) (0,0,[]) ⟨zyD _,rfl,by decide,by rw [zhk,zhk]; rfl⟩ (zzj ⟨rfl,rfl,rfl,rfl,rfl,trivial⟩ ⟨⟨_,rfl,?_⟩,trivial⟩ (fun R hR=>hR)) ?_
 ·show MEle (ME.own zaO 1 ((a.length : Nat) : Int).toNat (repl ((a.length : Nat) : Int).toNat [Value.int .u8 0])) (ME.own zaO 1 N (rowV u8c (List.replicate (N-0) 0++[])));rw [<-hN,zzS,zfm,zyP]; exact .refl _
 rintro ⟨j,c,L⟩ ⟨hj,hL,hc,hinv⟩;conv=>whnf
 refine zaj ?_ ?_
 ·intro h;have hj2 : j<N:=by
   have : ((j+1 : Nat) : Int)<=((a.length : Nat) : Int):=zA0 h;omega
  obtain ⟨k,hk⟩ : ∃ k,N-j=k+1:=⟨N-j-1,by omega⟩;have hwk : IntKind.i64.wrap ((a.length : Int)-((j+1 : Nat) : Int))=(k : Int):=by rw [wrap_i64 (by omega) (by omega)]; omega
  have hwk2 : IntKind.i64.wrap ((((bs a).size : Nat) : Int)-((j+1 : Nat) : Int))=(k : Int):=hwk;have hwa : ∀ x : List UInt8,x.length<=500000000->IntKind.i64.wrap ((x.length : Int)-((j+1 : Nat) : Int))=(x.length : Int)-((j+1 : Nat) : Int):=fun x hx=>wrap_i64 (by omega) (by omega)
  have hda:=ziK a j;have hdb:=ziK b j;have hcv : ∀ x : List UInt8,x.length<=500000000->j<x.length->IntKind.i64.wrap (sb (bs x) (IntKind.i64.wrap ((x.length : Int)-((j+1 : Nat) : Int))))=(dgt x j : Int):=fun x hx hlt=>by
   rw [hwa x hx,zs3 x hlt rfl];have:=ziK x j;exact wrap_i64 (by omega) (by omega)
  have hidx : ∀ x : List UInt8,x.length<=500000000->j<x.length->0<=IntKind.i64.wrap ((x.length : Int)-((j+1 : Nat) : Int))/\IntKind.i64.wrap ((x.length : Int)-((j+1 : Nat) : Int))<(((bs x).size : Nat) : Int):=fun x hx hlt=>by
   rw [hwa x hx]; show _/\_<((x.length : Nat) : Int); omega
  have d0 : ¬j<b.length->dgt b j=0:=fun hx=>by unfold dgt; rw [zxI hx]
  have la : j<a.length:=by omega
  conv=>whnf
  refine ⟨hidx a ha la,?_⟩;conv=>whnf
  refine zaj ?_ ?_
  ·intro h2;have lb : j<b.length:=by
    have : ((j+1 : Nat) : Int)<=((b.length : Nat) : Int):=zA0 h2;omega
   conv=>whnf
   refine ⟨hidx b (by omega) lb,?_⟩;have hE : IntKind.i64.wrap (IntKind.i64.wrap (IntKind.i64.wrap (sb (bs a) (IntKind.i64.wrap ((a.length : Int)-((j+1 : Nat) : Int))))-(c : Int))-IntKind.i64.wrap (sb (bs b) (IntKind.i64.wrap ((b.length : Int)-((j+1 : Nat) : Int)))))=(dgt a j : Int)-(c : Int)-(dgt b j : Int):=by
    rw [hcv a ha la,hcv b (by omega) lb,wrap_i64 (n:=(dgt a j : Int)-(c : Int)) (by omega) (by omega),wrap_i64 (by omega) (by omega)]
   conv=>whnf
   refine zaj ?_ ?_
   ·intro h3;have h4 : IntKind.i64.wrap (IntKind.i64.wrap (IntKind.i64.wrap (sb (bs a) (IntKind.i64.wrap ((a.length : Int)-((j+1 : Nat) : Int))))-(c : Int))-IntKind.i64.wrap (sb (bs b) (IntKind.i64.wrap ((b.length : Int)-((j+1 : Nat) : Int)))))<0:=zA0 h3;rw [hE] at h4;obtain ⟨d,hd⟩ : ∃ d : Nat,(d : Int)=(dgt a j : Int)-(c : Int)-(dgt b j : Int)+256:=⟨((dgt a j : Int)-(c : Int)-(dgt b j : Int)+256).toNat,by omega⟩;have hD : IntKind.i64.wrap (IntKind.i64.wrap (IntKind.i64.wrap (IntKind.i64.wrap (sb (bs a) (IntKind.i64.wrap ((a.length : Int)-((j+1 : Nat) : Int))))-(c : Int))-IntKind.i64.wrap (sb (bs b) (IntKind.i64.wrap ((b.length : Int)-((j+1 : Nat) : Int)))))+256)=(d : Int):=by
     rw [hE,wrap_i64 (by omega) (by omega)]; omega
    conv=>whnf
    refine ⟨by rw [hwk2]; show 0<=(k : Int)/\(k : Int)<(N : Int); omega,?_⟩;conv=>whnf
    refine ⟨⟨by rw [hwk2,zad zbK]; show (k : Int).toNat*1+1<=_; simp; omega,by decide⟩,?_⟩;conv=>whnf
    refine ⟨(j+1,1,UInt8.ofNat (d%256)::L),⟨by omega,by simp [hL],by decide,?_⟩,by show N-(j+1)<N-j; omega,zzj ⟨rfl,rfl,rfl,rfl,zaq (i:=j+1) (n:=N+1) (by omega) (by omega),trivial⟩ ⟨⟨_,rfl,?_⟩,trivial⟩ (fun R hR=>hR)⟩
    ·rw [zye (by omega),zbO (by omega),hL,zzD,zcL,zcL];exact zgZ hinv (by omega)
    ·show MEle (ME.own zaO 1 N (putN ((IntKind.i64.wrap ((a.length : Int)-((j+1 : Nat) : Int))).toNat*1) [Value.int .u8 (IntKind.u8.wrap (IntKind.i64.wrap (IntKind.i64.wrap (IntKind.i64.wrap (IntKind.i64.wrap (sb (bs a) (IntKind.i64.wrap ((a.length : Int)-((j+1 : Nat) : Int))))-(c : Int))-IntKind.i64.wrap (sb (bs b) (IntKind.i64.wrap ((b.length : Int)-((j+1 : Nat) : Int)))))+256)))] (rowV u8c (List.replicate (N-j) 0++L)))) (ME.own zaO 1 N (rowV u8c (List.replicate (N-(j+1)) 0++(UInt8.ofNat (d%256)::L))));rw [hD,zcS hk hwk rfl,show N-(j+1)=k by omega]; exact .refl _
   ·intro h3;have h4 : ¬IntKind.i64.wrap (IntKind.i64.wrap (IntKind.i64.wrap (sb (bs a) (IntKind.i64.wrap ((a.length : Int)-((j+1 : Nat) : Int))))-(c : Int))-IntKind.i64.wrap (sb (bs b) (IntKind.i64.wrap ((b.length : Int)-((j+1 : Nat) : Int)))))<0:=zA1 h3;rw [hE] at h4;obtain ⟨d,hd⟩ : ∃ d : Nat,(d : Int)=(dgt a j : Int)-(c : Int)-(dgt b j : Int):=⟨((dgt a j : Int)-(c : Int)-(dgt b j : Int)).toNat,by omega⟩;have hD : IntKind.i64.wrap (IntKind.i64.wrap (IntKind.i64.wrap (sb (bs a) (IntKind.i64.wrap ((a.length : Int)-((j+1 : Nat) : Int))))-(c : Int))-IntKind.i64.wrap (sb (bs b) (IntKind.i64.wrap ((b.length : Int)-((j+1 : Nat) : Int)))))=(d : Int):=by
     rw [hE,hd]
    conv=>whnf
    refine ⟨by rw [hwk2]; show 0<=(k : Int)/\(k : Int)<(N : Int); omega,?_⟩;conv=>whnf
    refine ⟨⟨by rw [hwk2,zad zbK]; show (k : Int).toNat*1+1<=_; simp; omega,by decide⟩,?_⟩;conv=>whnf
    refine ⟨(j+1,0,UInt8.ofNat (d%256)::L),⟨by omega,by simp [hL],by decide,?_⟩,by show N-(j+1)<N-j; omega,zzj ⟨rfl,rfl,rfl,rfl,zaq (i:=j+1) (n:=N+1) (by omega) (by omega),trivial⟩ ⟨⟨_,rfl,?_⟩,trivial⟩ (fun R hR=>hR)⟩
    ·rw [zye (by omega),zbO (by omega),hL,zzD,zcL,zcL];exact zgZ hinv (by omega)
    ·show MEle (ME.own zaO 1 N (putN ((IntKind.i64.wrap ((a.length : Int)-((j+1 : Nat) : Int))).toNat*1) [Value.int .u8 (IntKind.u8.wrap (IntKind.i64.wrap (IntKind.i64.wrap (IntKind.i64.wrap (sb (bs a) (IntKind.i64.wrap ((a.length : Int)-((j+1 : Nat) : Int))))-(c : Int))-IntKind.i64.wrap (sb (bs b) (IntKind.i64.wrap ((b.length : Int)-((j+1 : Nat) : Int)))))))] (rowV u8c (List.replicate (N-j) 0++L)))) (ME.own zaO 1 N (rowV u8c (List.replicate (N-(j+1)) 0++(UInt8.ofNat (d%256)::L))));rw [hD,zcS hk hwk rfl,show N-(j+1)=k by omega]; exact .refl _
  ·intro h2;have lb : ¬j<b.length:=by
    have : ¬((j+1 : Nat) : Int)<=((b.length : Nat) : Int):=zA1 h2;omega
   have z:=d0 lb;have hE : IntKind.i64.wrap (IntKind.i64.wrap (sb (bs a) (IntKind.i64.wrap ((a.length : Int)-((j+1 : Nat) : Int))))-(c : Int))=(dgt a j : Int)-(c : Int)-(dgt b j : Int):=by
    rw [hcv a ha la,wrap_i64 (by omega) (by omega)]; omega
   conv=>whnf
   refine zaj ?_ ?_
   ·intro h3;have h4 : IntKind.i64.wrap (IntKind.i64.wrap (sb (bs a) (IntKind.i64.wrap ((a.length : Int)-((j+1 : Nat) : Int))))-(c : Int))<0:=zA0 h3;rw [hE] at h4;obtain ⟨d,hd⟩ : ∃ d : Nat,(d : Int)=(dgt a j : Int)-(c : Int)-(dgt b j : Int)+256:=⟨((dgt a j : Int)-(c : Int)-(dgt b j : Int)+256).toNat,by omega⟩;have hD : IntKind.i64.wrap (IntKind.i64.wrap (IntKind.i64.wrap (sb (bs a) (IntKind.i64.wrap ((a.length : Int)-((j+1 : Nat) : Int))))-(c : Int))+256)=(d : Int):=by
     rw [hE,wrap_i64 (by omega) (by omega)]; omega
    conv=>whnf
    refine ⟨by rw [hwk2]; show 0<=(k : Int)/\(k : Int)<(N : Int); omega,?_⟩;conv=>whnf
    refine ⟨⟨by rw [hwk2,zad zbK]; show (k : Int).toNat*1+1<=_; simp; omega,by decide⟩,?_⟩;conv=>whnf
    refine ⟨(j+1,1,UInt8.ofNat (d%256)::L),⟨by omega,by simp [hL],by decide,?_⟩,by show N-(j+1)<N-j; omega,zzj ⟨rfl,rfl,rfl,rfl,zaq (i:=j+1) (n:=N+1) (by omega) (by omega),trivial⟩ ⟨⟨_,rfl,?_⟩,trivial⟩ (fun R hR=>hR)⟩
    ·rw [zye (by omega),zbO (by omega),hL,zzD,zcL,zcL];exact zgZ hinv (by omega)
    ·show MEle (ME.own zaO 1 N (putN ((IntKind.i64.wrap ((a.length : Int)-((j+1 : Nat) : Int))).toNat*1) [Value.int .u8 (IntKind.u8.wrap (IntKind.i64.wrap (IntKind.i64.wrap (IntKind.i64.wrap (sb (bs a) (IntKind.i64.wrap ((a.length : Int)-((j+1 : Nat) : Int))))-(c : Int))+256)))] (rowV u8c (List.replicate (N-j) 0++L)))) (ME.own zaO 1 N (rowV u8c (List.replicate (N-(j+1)) 0++(UInt8.ofNat (d%256)::L))));rw [hD,zcS hk hwk rfl,show N-(j+1)=k by omega]; exact .refl _
   ·intro h3;have h4 : ¬IntKind.i64.wrap (IntKind.i64.wrap (sb (bs a) (IntKind.i64.wrap ((a.length : Int)-((j+1 : Nat) : Int))))-(c : Int))<0:=zA1 h3;rw [hE] at h4;obtain ⟨d,hd⟩ : ∃ d : Nat,(d : Int)=(dgt a j : Int)-(c : Int)-(dgt b j : Int):=⟨((dgt a j : Int)-(c : Int)-(dgt b j : Int)).toNat,by omega⟩;have hD : IntKind.i64.wrap (IntKind.i64.wrap (sb (bs a) (IntKind.i64.wrap ((a.length : Int)-((j+1 : Nat) : Int))))-(c : Int))=(d : Int):=by
     rw [hE,hd]
    conv=>whnf
    refine ⟨by rw [hwk2]; show 0<=(k : Int)/\(k : Int)<(N : Int); omega,?_⟩;conv=>whnf
    refine ⟨⟨by rw [hwk2,zad zbK]; show (k : Int).toNat*1+1<=_; simp; omega,by decide⟩,?_⟩;conv=>whnf
    refine ⟨(j+1,0,UInt8.ofNat (d%256)::L),⟨by omega,by simp [hL],by decide,?_⟩,by show N-(j+1)<N-j; omega,zzj ⟨rfl,rfl,rfl,rfl,zaq (i:=j+1) (n:=N+1) (by omega) (by omega),trivial⟩ ⟨⟨_,rfl,?_⟩,trivial⟩ (fun R hR=>hR)⟩
    ·rw [zye (by omega),zbO (by omega),hL,zzD,zcL,zcL];exact zgZ hinv (by omega)
    ·show MEle (ME.own zaO 1 N (putN ((IntKind.i64.wrap ((a.length : Int)-((j+1 : Nat) : Int))).toNat*1) [Value.int .u8 (IntKind.u8.wrap (IntKind.i64.wrap (IntKind.i64.wrap (sb (bs a) (IntKind.i64.wrap ((a.length : Int)-((j+1 : Nat) : Int))))-(c : Int))))] (rowV u8c (List.replicate (N-j) 0++L)))) (ME.own zaO 1 N (rowV u8c (List.replicate (N-(j+1)) 0++(UInt8.ofNat (d%256)::L))));rw [hD,zcS hk hwk rfl,show N-(j+1)=k by omega]; exact .refl _
 ·intro h;have hj2 : j=N:=by
   have : ¬((j+1 : Nat) : Int)<=((a.length : Nat) : Int):=zA1 h;omega
  subst hj2;rw [zjz (show b.length<=j by omega),zjz (show a.length<=j by omega)] at hinv;have hc0 : c=0:=by
   have h1:=za7 (l:=L) (k:=j) (by omega);rcases zyf c with h3 | h3
   ·exact h3
   ·exfalso;have : 1*256 ^ j<=c*256 ^ j:=zyL _ h3;omega
  rw [hc0,zBu,zxL] at hinv;have hnl : nat L=nat a-nat b:=by omega
  conv=>whnf
  refine ⟨L,hL,by show (rowV u8c (List.replicate (j-j) 0++L)).take j=bytV L; rw [zAI,zAW,zzJ,zdZ]; exact zyJ (by simp [bytV,hL]),?_⟩;conv=>whnf
  refine zzt (zfp L) rfl ?_;rw [zcP,hnl];conv=>whnf
  exact zaa rfl
abbrev zBv:=@List.set_cons_zero
def n64c (x : Nat) : List Value:=[.int .i64 (x : Int)]
theorem zdU (x : Nat) : (n64c x).length=1:=rfl
def nvB : List Nat->Nat
 | []=>0
 | x::l=>x*256 ^ l.length+nvB l
theorem zp0 (k : Nat) (l : List Nat) : nvB (List.replicate k 0++l)=nvB l:=by
 induction k with
 | zero=>rfl
 | succ k ih=>rw [zzI,zyw,nvB,ih]; omega
theorem zqV {l : List Nat} {q : Nat} (h : q<l.length) : nvB (l.drop q)=l.getD q 0*256 ^ (l.length-q-1)+nvB (l.drop (q+1)):=by
 rw [zzd h,nvB,zzw,zzO,zyy h,show l.length-(q+1)=l.length-q-1 by omega]; rfl
theorem znp {l : List UInt8} {q : Nat} (h : q<l.length) : nat (l.drop q)=(l.getD q 0).toNat*256 ^ (l.length-q-1)+nat (l.drop (q+1)):=by
 rw [zzd h,zcs,zzw,zzO,zyy h,show l.length-(q+1)=l.length-q-1 by omega]; rfl
theorem zlx : ∀ {l : List Nat},(∀ x∈l,x<256)->nat (l.map UInt8.ofNat)=nvB l
 | [],_=>rfl
 | x::l,h=>by
  rw [zxT,zbO (h x (zxA ..)),nvB,zyA,zlx (fun y hy=>h y (zxB _ hy))]
theorem zu9 {e : Nat} (h : e<9223372036854775808) : IntKind.i64.wrap (BitVec.toNat (w:=64) (BitVec.ofInt 64 (e : Int) &&& BitVec.ofInt 64 255) : Int)=((e%256 : Nat) : Int):=by
 rw [BitVec.toNat_and,zaU (by omega),show (BitVec.ofInt 64 255).toNat=2 ^ 8-1 from rfl,Nat.and_two_pow_sub_one_eq_mod,wrap_i64 (by omega) (by omega)]
theorem zrZ {e c m ab nU nM nb P R S : Nat} (hP : P=R*S) (he : e=c+m+ab) (h : nU+c*P=nM+nb*R) {a b : Nat} (hab : ab=a*b) {nb' : Nat} (hn : nb=a*nb') :
  e%256*P+nU+e/256*(P*256)=(m*P+nM)+(a*(b*S+nb'))*R:=by
 have h1 : e*P=e%256*P+e/256*(P*256):=by
  have:=zzy e 256;rw [zzG P 256,<-zzF,<-zzP,zzG _ 256,this]
 have h2 : (a*(b*S+nb'))*R=ab*P+nb*R:=by
  rw [hab,hn,hP,zzE,zzP,zzG R S,<-zzF a b S,zzF (a*b) S R]
 have h3 : e*P=c*P+m*P+ab*P:=by rw [he,zzP,zzP]
 omega
theorem zvH {k : Nat} {M : List Nat} (x y : Nat) : (List.replicate (k+1) 0++M).set k x=List.replicate k 0++(x::M):=by
 rw [zAT,zyF,zAR _ _ (by simp)];simp
theorem zv4 {k q : Nat} {M U : List Nat} (h : q<M.length) (x : Nat) : (List.replicate k 0++(M.take (q+1)++U)).set (k+q) x=List.replicate k 0++(M.take q++(x::U)):=by
 rw [zAR _ _ (by simp),zA7,zA5,List.set_append_left _ _ (by rw [zyI]; omega)]
 congr 1
 rw [zAr,zyy h,Option.toList_some,zAR _ _ (by rw [zyI]; omega),zyF]
 congr 1
 rw [zyI,zAs (by omega),zAI]; rfl
theorem zv9 {k q : Nat} {M U : List Nat} (h : q<M.length) : (List.replicate k 0++(M.take (q+1)++U))[k+q]?=some (M.getD q 0):=by
 rw [zyg (by simp),zA7,zA5,zyd (by rw [zyI]; omega),zx7,zxJ (by omega),zyy h,zzO,zyy h]; rfl
theorem ztk (l : List UInt8) (k : Nat) : sb (bs l) (k : Int)=((l.getD k 0).toNat : Int):=by rw [zgP,zzS]
theorem zrN (n : Nat) : repl n [Value.int .i64 0]=rowV n64c (List.replicate n 0):=by rw [zb4]; rfl
theorem zoR {a b : Nat} (ha : a<256) (hb : b<256) : a*b<=65025:=by
 have:=zAS (show a<=255 by omega) (show b<=255 by omega); omega
theorem zrG (a b : List UInt8) (ha : a.length<=500000000) (hb : b.length<=400000000) : Fn PP 210 [.string (bs a),.string (bs b)] (.string (bs (bytes (nat a*nat b)))):=by
 refine zzn zab mixed Tryz.func210 rfl rfl (zxW rfl) ?_;intro w;obtain ⟨n,hn⟩ : ∃ n,n=a.length+b.length:=⟨_,rfl⟩;have hw0 : IntKind.i64.wrap (((bs a).size : Int)+((bs b).size : Int))=(n : Int):=by
   show IntKind.i64.wrap ((a.length : Int)+(b.length : Int))=_;rw [wrap_i64 (by omega) (by omega)]; omega
 conv=>whnf
 refine ⟨by rw [hw0]; show 0<=(n : Int)/\(n : Int)<=(n : Int)/\((8 : Nat) : Int)*(n : Int)<=281474976710656/\(n : Int)<=9223372036854775807; omega,?_⟩;conv=>whnf
 refine zal (ι:=Nat×List Nat×Int) (fun ⟨p,M,z⟩=>⟨[(0,.o (.v (.string (bs a)))),(1,.o (.v (.string (bs b)))),(5,.o (.w 16)),(6,.o (.v (.int .i64 z)))],[(16,.own zbw 1 n (rowV n64c (List.replicate p 0++M)))],[]⟩)
   (fun ⟨p,M,z⟩=>z=(p : Int)-1/\p<=a.length/\M.length=n-p/\(∀ x∈M,x<256)/\nvB M=nat (a.drop p)*nat b) (fun ⟨p,M,z⟩=>p) (a.length,List.replicate b.length 0,(a.length : Int)-1) ⟨rfl,zxr _,by rw [zA7]; omega,fun x hx=>by rw [List.eq_of_mem_replicate hx]; decide,by
     rw [zAE,zdS,zBu];have:=zp0 b.length [];rw [zyP] at this; exact this⟩ (zzj ⟨rfl,rfl,rfl,?_,trivial⟩ ⟨⟨_,rfl,?_⟩,trivial⟩ (fun R hR=>hR)) ?_
 · show some (SV.o (.v (.int .i64 (IntKind.i64.wrap ((a.length : Int)-1)))))=some (SV.o (.v (.int .i64 ((a.length : Int)-1))));rw [wrap_i64 (by omega) (by omega)]
 · show MEle (ME.own zbw 1 (IntKind.i64.wrap (((bs a).size : Int)+((bs b).size : Int))).toNat (repl (IntKind.i64.wrap (((bs a).size : Int)+((bs b).size : Int))).toNat [Value.int .i64 0])) (ME.own zbw 1 n (rowV n64c (List.replicate a.length 0++List.replicate b.length 0)));rw [hw0,zzS,zrN,List.replicate_append_replicate,<-hn]; exact .refl _
 rintro ⟨p1,M,z⟩ ⟨hz,hp,hM,hMb,hv⟩;conv=>whnf
 refine zaj ?_ ?_
 · intro h;obtain ⟨p,rfl⟩ : ∃ p,p1=p+1:=⟨p1-1,by
     have : z>=0:=zA0 h;omega⟩
   obtain rfl : z=(p : Int):=by omega
   have hap : (a.getD p 0).toNat<256:=(a.getD p 0).toBitVec.isLt;obtain ⟨x,hx⟩ : ∃ x,x=(a.getD p 0).toNat:=⟨_,rfl⟩;rw [<-hx] at hap;conv=>whnf
   refine zal (ι:=Nat×List Nat×Nat×Int) (fun ⟨q,U,c,z⟩=>⟨[(0,.o (.v (.string (bs a)))),(1,.o (.v (.string (bs b)))),(5,.o (.w 16)),(6,.o (.v (.int .i64 (p : Int)))),(7,.o (.v (.int .i64 c))),(8,.o (.v (.int .i64 z)))],[(16,.own zbw 1 n (rowV n64c (List.replicate (p+1) 0++(M.take q++U))))],[]⟩)
     (fun ⟨q,U,c,z⟩=>z=(q : Int)-1/\q<=b.length/\U.length=M.length-q/\(∀ x∈U,x<256)/\c<256/\nvB U+c*256 ^ (M.length-q)=nvB (M.drop q)+x*nat (b.drop q)*256 ^ (a.length-p-1)) (fun ⟨q,U,c,z⟩=>q) (b.length,M.drop b.length,0,(b.length : Int)-1) ⟨rfl,zxr _,by rw [zzw],fun x hx=>hMb x (zxQ hx),by decide,by
       rw [zAE,zdS,zzM,zBu,zBu]⟩ (zzj ⟨rfl,rfl,rfl,rfl,rfl,?_,trivial⟩ ⟨⟨_,rfl,?_⟩,trivial⟩ (fun R hR=>hR)) ?_
   · show some (SV.o (.v (.int .i64 (IntKind.i64.wrap ((b.length : Int)-1)))))=some (SV.o (.v (.int .i64 ((b.length : Int)-1))));rw [wrap_i64 (by omega) (by omega)]
   · show MEle (ME.own zbw 1 n (rowV n64c (List.replicate (p+1) 0++M))) (ME.own zbw 1 n (rowV n64c (List.replicate (p+1) 0++(M.take b.length++M.drop b.length))));rw [zz0]; exact .refl _
   rintro ⟨q1,U,c,z⟩ ⟨hz,hq,hU,hUb,hc,hinv⟩;conv=>whnf
   refine zaj ?_ ?_
   · intro h;obtain ⟨q,rfl⟩ : ∃ q,q1=q+1:=⟨q1-1,by
       have : z>=0:=zA0 h;omega⟩
     obtain rfl : z=(q : Int):=by omega
     have hbq : (b.getD q 0).toNat<256:=(b.getD q 0).toBitVec.isLt;obtain ⟨y,hy⟩ : ∃ y,y=(b.getD q 0).toNat:=⟨_,rfl⟩;rw [<-hy] at hbq;have hqM : q<M.length:=by omega
     have hpq : IntKind.i64.wrap (IntKind.i64.wrap ((p : Int)+(q : Int))+1)=((p+1+q : Nat) : Int):=by
       rw [wrap_i64 (n:=(p : Int)+(q : Int)) (by omega) (by omega),wrap_i64 (by omega) (by omega)]; omega
     have hlen : (List.replicate (p+1) 0++(M.take (q+1)++U)).length=n:=by
       simp only [zz2,zA7,zyI]; omega
     conv=>whnf
     refine zak.qk ?_;conv=>whnf
     refine ⟨by rw [hpq]; show 0<=((p+1+q : Nat) : Int)/\((p+1+q : Nat) : Int)<(n : Int); omega,?_⟩;conv=>whnf
     refine zzT n64c zdU (k:=p+1+q) (by show (IntKind.i64.wrap (IntKind.i64.wrap ((p : Int)+(q : Int))+1)).toNat*1=_; rw [hpq,zzS]) (by omega) (by decide) (fun _=>rfl) ?_;intro m hm;rw [zv9 hqM] at hm;have hmb : m<256:=by
       rw [<-zz1 hm,zzO,zyy hqM];exact hMb _ (zAp hqM)
     conv=>whnf
     refine ⟨by show 0<=(p : Int)/\(p : Int)<((a.length : Nat) : Int); omega,?_⟩;conv=>whnf
     refine ⟨by show 0<=(q : Int)/\(q : Int)<((b.length : Nat) : Int); omega,?_⟩;have hxy:=zoR hap hbq;obtain ⟨e,he⟩ : ∃ e,e=c+m+x*y:=⟨_,rfl⟩;have hE : IntKind.i64.wrap ((c : Int)+IntKind.i64.wrap ((m : Int)+IntKind.i64.wrap (IntKind.i64.wrap (sb (bs a) (p : Int))*IntKind.i64.wrap (sb (bs b) (q : Int)))))=(e : Int):=by
       rw [ztk,ztk,<-hx,<-hy,wrap_i64 (n:=(x : Int)) (by omega) (by omega),wrap_i64 (n:=(y : Int)) (by omega) (by omega),<-zAG,wrap_i64 (n:=((x*y : Nat) : Int)) (by omega) (by omega),wrap_i64 (n:=(m : Int)+((x*y : Nat) : Int)) (by omega) (by omega),wrap_i64 (by omega) (by omega)];omega
     conv=>whnf
     refine ⟨by rw [hpq]; show 0<=((p+1+q : Nat) : Int)/\((p+1+q : Nat) : Int)<(n : Int); omega,?_⟩;conv=>whnf
     refine ⟨⟨by rw [hpq,zad zdU,hlen]; show ((p+1+q : Nat) : Int).toNat*1+1<=n*1; omega,by decide⟩,?_⟩;conv=>whnf
     refine ⟨by decide,?_⟩;conv=>whnf
     refine ⟨(q,e%256::U,e/256,(q : Int)-1),⟨rfl,by omega,by simp [hU]; omega,fun z hz=>?_,by omega,?_⟩,by show q<q+1; omega,zzj ⟨rfl,rfl,rfl,rfl,?_,?_,trivial⟩ ⟨⟨_,rfl,?_⟩,trivial⟩ (fun R hR=>hR)⟩
     · rcases zy1.1 hz with rfl | hz
       · omega
       · exact hUb z hz
     · have hPl : M.length-(q+1)=(a.length-p-1)+(b.length-q-1):=by omega
       rw [nvB,hU,zqV hqM,zz1 hm,show M.length-q-1=M.length-(q+1) by omega,znp (show q<b.length by omega),<-hy,show M.length-q=M.length-(q+1)+1 by omega,zzD];exact zrZ (by rw [hPl,zAg]) he hinv rfl rfl
     · show some (SV.o (.v (.int .i64 (Int.fdiv (IntKind.i64.wrap ((c : Int)+IntKind.i64.wrap ((m : Int)+IntKind.i64.wrap (IntKind.i64.wrap (sb (bs a) (p : Int))*IntKind.i64.wrap (sb (bs b) (q : Int)))))) (2 ^ min (8 : Int).toNat IntKind.i64.bits)))))=_;rw [hE,zoY]; rfl
     · show some (SV.o (.v (.int .i64 (IntKind.i64.wrap ((q : Int)-1)))))=_;rw [wrap_i64 (by omega) (by omega)]; rfl
     · show MEle (ME.own zbw 1 n (putN ((IntKind.i64.wrap (IntKind.i64.wrap ((p : Int)+(q : Int))+1)).toNat*1) [Value.int .i64 (IntKind.i64.wrap (BitVec.toNat (w:=64) (BitVec.ofInt 64 (IntKind.i64.wrap ((c : Int)+IntKind.i64.wrap ((m : Int)+IntKind.i64.wrap (IntKind.i64.wrap (sb (bs a) (p : Int))*IntKind.i64.wrap (sb (bs b) (q : Int)))))) &&& BitVec.ofInt 64 255) : Int))] (rowV n64c (List.replicate (p+1) 0++(M.take (q+1)++U))))) (ME.own zbw 1 n (rowV n64c (List.replicate (p+1) 0++(M.take q++(e%256::U)))));rw [hE,zu9 (by omega),hpq,zzS,<-zv4 hqM (e%256),<-zcc zdU (e%256) (by omega)]; exact .refl _
   · intro h;have hq0 : q1=0:=by
       have : ¬z>=0:=zA1 h;omega
     subst hq0;rw [zAJ,zAJ,zza] at hinv;have hdrop:=znp (l:=a) (q:=p) (by omega);rw [<-hx] at hdrop;have hval : nvB U+c*256 ^ M.length=nat (a.drop p)*nat b:=by
       rw [hinv,hv,hdrop,zzP,zzF x,zzF x,zzG (nat b),zyc]
     have hlen : (List.replicate (p+1) 0++([]++U)).length=n:=by
       simp only [zz2,zA7,zAK,zzJ]; omega
     conv=>whnf
     refine ⟨by show 0<=(p : Int)/\(p : Int)<(n : Int); omega,?_⟩;conv=>whnf
     refine zzT n64c zdU (k:=p) (by show (p : Int).toNat*1=_; rw [zzS]) (by show p<(List.replicate (p+1) 0++([]++U)).length; omega) (by decide) (fun _=>rfl) ?_;intro m hm;have hm0 : m=0:=by
       have h2 : (List.replicate (p+1) 0++([]++U))[p]?=some m:=hm;rw [zyd (by simp)] at h2;rw [List.getElem?_replicate,zxJ (by omega)] at h2;exact (zz1 h2).symm
     subst hm0;conv=>whnf
     refine ⟨by show 0<=(p : Int)/\(p : Int)<(n : Int); omega,?_⟩;conv=>whnf
     refine ⟨⟨by show (p : Int).toNat*1+1<=(rowV n64c (List.replicate (p+1) 0++([]++U))).length; rw [zad zdU,hlen]; omega,by decide⟩,?_⟩;conv=>whnf
     refine ⟨(p,c::U,(p : Int)-1),⟨rfl,by omega,by simp [hU]; omega,fun z hz=>?_,?_⟩,by show p<p+1; omega,zzj ⟨rfl,rfl,rfl,?_,trivial⟩ ⟨⟨_,rfl,?_⟩,trivial⟩ (fun R hR=>hR)⟩
     · rcases zy1.1 hz with rfl | hz
       · exact hc
       · exact hUb z hz
     · rw [nvB,hU,zza,zyc]; exact hval
     · show some (SV.o (.v (.int .i64 (IntKind.i64.wrap ((p : Int)-1)))))=_;rw [wrap_i64 (by omega) (by omega)]; rfl
     · show MEle (ME.own zbw 1 n (putN ((p : Int).toNat*1) [Value.int .i64 (IntKind.i64.wrap (((0 : Nat) : Int)+(c : Int)))] (rowV n64c (List.replicate (p+1) 0++([]++U))))) (ME.own zbw 1 n (rowV n64c (List.replicate p 0++(c::U))));rw [wrap_i64 (by omega) (by omega),zzS,zzJ,<-zvH c 0,<-zcc zdU c (by simp; omega),show ((0 : Nat) : Int)+(c : Int)=(c : Int) by omega]; exact .refl _
 · intro h;have hp0 : p1=0:=by
     have : ¬z>=0:=zA1 h;omega
   subst hp0;rw [zAJ] at hv;have hMn : M.length=n:=by omega
   conv=>whnf
   refine ⟨by show 0<=(n : Int)/\(n : Int)<=(n : Int)/\((1 : Nat) : Int)*(n : Int)<=281474976710656/\(n : Int)<=9223372036854775807; omega,?_⟩;conv=>whnf
   refine zal (ι:=Nat) (fun i=>⟨[(5,.o (.w 16)),(9,.o (.w 69)),(10,.o (.v (.int .i64 i)))],[(16,.own zbw 1 n (rowV n64c M)),(69,.own zaO 1 n (rowV u8c ((M.take i).map UInt8.ofNat++List.replicate (n-i) 0)))],[]⟩)
     (fun i=>i<=n) (fun i=>n-i) 0 (zyD _) (zzj ⟨rfl,rfl,rfl,trivial⟩ ⟨mrf rfl,⟨_,rfl,?_⟩,trivial⟩ (fun R hR=>hR)) ?_
   · show MEle (ME.own zaO 1 (n : Int).toNat (repl (n : Int).toNat [Value.int .u8 0])) (ME.own zaO 1 n (rowV u8c (List.replicate (n-0) 0)));rw [zzS,zfm]; exact .refl _
   intro i hi;conv=>whnf
   refine zaj ?_ ?_
   · intro h;have hi2 : i<n:=by
       have : (i : Int)<(n : Int):=zA0 h;omega
     conv=>whnf
     refine ⟨by show 0<=(i : Int)/\(i : Int)<(n : Int); omega,?_⟩;conv=>whnf
     refine zzT n64c zdU (k:=i) (by show (i : Int).toNat*1=_; rw [zzS]) (by omega) (by decide) (fun _=>rfl) ?_;intro m hm;have hmb:=hMb m (zyq hm);conv=>whnf
     refine ⟨by show 0<=(i : Int)/\(i : Int)<(n : Int); omega,?_⟩;conv=>whnf
     refine ⟨⟨by show (i : Int).toNat*1+1<=(rowV u8c ((M.take i).map UInt8.ofNat++List.replicate (n-i) 0)).length; rw [zad zbK]; simp; omega,by decide⟩,?_⟩;conv=>whnf
     refine ⟨i+1,by omega,by omega,zzj ⟨rfl,rfl,zaq hi2 (by omega),trivial⟩ ⟨mrf rfl,⟨_,rfl,?_⟩,trivial⟩ (fun R hR=>hR)⟩;show MEle (ME.own zaO 1 n (putN ((i : Int).toNat*1) [Value.int .u8 (IntKind.u8.wrap (m : Int))] (rowV u8c ((M.take i).map UInt8.ofNat++List.replicate (n-i) 0)))) (ME.own zaO 1 n (rowV u8c ((M.take (i+1)).map UInt8.ofNat++List.replicate (n-(i+1)) 0)));have hput:=zcc (f:=u8c) zbK (k:=i) (l:=(M.take i).map UInt8.ofNat++List.replicate (n-i) 0) (UInt8.ofNat (m%256)) (by simp; omega);have hset : ((M.take i).map UInt8.ofNat++List.replicate (n-i) 0).set i (UInt8.ofNat (m%256))=(M.take (i+1)).map UInt8.ofNat++List.replicate (n-(i+1)) 0:=by
       rw [zAR _ _ (by simp; omega),zyA,zyI,zAs (by omega),zAI,show n-i=(n-(i+1))+1 by omega,zzI,zBv,zaD hm,zzL,zyF,zye hmb]; rfl
     rw [hset] at hput;rw [zzS,zny,<-hput]; exact .refl _
   · intro h;have hi2 : i=n:=by
       have : ¬(i : Int)<(n : Int):=zA1 h;omega
     subst hi2;conv=>whnf
     refine ⟨M.map UInt8.ofNat,by rw [zyA,hMn],?_,?_⟩
     · show (rowV u8c ((M.take i).map UInt8.ofNat++List.replicate (i-i) 0)).take i=_;rw [show M.take i=M from zyJ (by omega),zAI,zAW,zyP,zdZ];exact zyJ (by simp [bytV,hMn])
     conv=>whnf
     refine zzt (zfp (M.map UInt8.ofNat)) rfl ?_;rw [zcP,zlx hMb,hv];conv=>whnf
     exact zaa rfl
abbrev zBw:=@Nat.le_of_lt
def strC (n : Nat) : List Value:=[.string (bs (bytes n))]
theorem zeX (n : Nat) : (strC n).length=1:=rfl
def zc9 (y i : Nat) : List Nat:=(List.range 8).map fun j=>if j<i then y*2 ^ j else 0
theorem zcd (y i : Nat) : (zc9 y i).length=8:=by simp [zc9]
theorem zeY (y i j : Nat) (h : j<8) : (zc9 y i)[j]?=some (if j<i then y*2 ^ j else 0):=by
 unfold zc9; rw [zx4,zyk h]; rfl
theorem zou (y i : Nat) (h : i<8) : (zc9 y i).set i (y*2 ^ i)=zc9 y (i+1):=by
 apply zyj;intro j;rw [List.getElem?_set];by_cases hj : j<8
 ·rw [zeY y (i+1) j hj];by_cases e : i=j
  ·subst e; rw [zxJ rfl,zxJ (by rw [zcd]; exact h),zxJ (by omega)]
  ·rw [zxI e,zeY y i j hj];by_cases h2 : j<i
   ·rw [zxJ h2,zxJ (by omega)]
   ·rw [zxI h2,zxI (by omega)]
 ·rw [zym (by rw [zcd]; omega),zym (by rw [zcd]; omega),zxI (by omega)]
theorem zbo {m n : Nat} (h : m<=n) : (bytes m).length<=(bytes n).length:=by
 rcases zyW (bytes n).length (bytes m).length with h1 | h1
 ·have:=zdd h1; omega
 ·exact h1
theorem zjT {n k : Nat} : (bytes (n*256 ^ k)).length<=(bytes n).length+k:=by
 refine zbd ?_;have:=zcT (bytes n);rw [zap] at this;rw [zAg];exact zAV this (zAv (by decide))
theorem zgX (x y : Nat) (hx : (bytes x).length<=300000000) (hy : (bytes y).length<=300000000) (hy0 : 0<y) :
  Fn PP 241 [.string (bs (bytes x)),.string (bs (bytes y))] (.tuple #[.string (bs (bytes (x/y))),.string (bs (bytes (x%y)))]):=by
 refine zzn zab mixed Tryz.func241 rfl rfl (zxW rfl) ?_;intro w;obtain ⟨a,ha⟩ : ∃ a,a=bytes x:=⟨_,rfl⟩;have hax : nat a=x:=by rw [ha,zap]
 rw [<-ha] at hx ⊢;have hty : ∀ j,j<=8->(bytes (y*2 ^ j)).length<=300000001:=fun j hj=>by
  have h1 : y*2 ^ j<=y*256 ^ 1:=zzH _ (zxs (zAa (by decide) hj) (by decide));have:=zbo h1;have:=zjT (n:=y) (k:=1);omega
 conv=>whnf
 refine ⟨by decide,?_⟩;conv=>whnf
 refine zal (ι:=Nat) (fun i=>⟨[(0,.o (.v (.string (bs a)))),(6,.o (.p 6 0)),(7,.o (.v (.int .i64 i)))],[(6,.sym (rowV strC (zc9 y i)) zel)],[]⟩)
  (fun i=>1<=i/\i<=8) (fun i=>8-i) 1 ⟨zxr _,by decide⟩ (zzj ⟨rfl,rfl,rfl,trivial⟩ ⟨⟨_,rfl,.sym _ ?_⟩,trivial⟩ (fun R hR=>hR)) ?_
 ·have e : zc9 y 1=[y,0,0,0,0,0,0,0]:=by simp [zc9,zAX]
  rw [e];simp only [rowV,strC,zaS];rfl
 rintro i ⟨hi1,hi⟩;conv=>whnf
 refine zaj ?_ ?_
 ·intro h;have hi2 : i<8:=by
   have : (i : Int)<8:=zA0 h;omega
  obtain ⟨j,rfl⟩ : ∃ j,i=j+1:=⟨i-1,by omega⟩;have hw : IntKind.i64.wrap (((j+1 : Nat) : Int)-1)=(j : Int):=by rw [wrap_i64 (by omega) (by omega)]; omega
  have hg:=zeY y (j+1) j (by omega);rw [zxJ (by omega)] at hg;conv=>whnf
  refine zak.qk ?_;conv=>whnf
  refine ⟨by rw [hw]; show 0<=(j : Int)/\(j : Int)<((8 : Nat) : Int); omega,?_⟩;conv=>whnf
  refine zzT strC zeX (k:=j) (by show 0+(IntKind.i64.wrap (((j+1 : Nat) : Int)-1)).toNat*1=_; rw [hw,zzS]; omega) (by rw [zcd]; omega) (by decide) (fun _=>rfl) ?_;intro m hm;obtain rfl : m=y*2 ^ j:=by rw [hg] at hm; exact (zz1 hm).symm
  conv=>whnf
  refine ⟨by rw [hw]; show 0<=(j : Int)/\(j : Int)<((8 : Nat) : Int); omega,?_⟩;conv=>whnf
  refine zzT strC zeX (k:=j) (by show 0+(IntKind.i64.wrap (((j+1 : Nat) : Int)-1)).toNat*1=_; rw [hw,zzS]; omega) (by rw [zcd]; omega) (by decide) (fun _=>rfl) ?_;intro m hm;obtain rfl : m=y*2 ^ j:=by rw [hg] at hm; exact (zz1 hm).symm
  conv=>whnf
  have hl:=hty j (by omega);refine zzu (zj0 (bytes (y*2 ^ j)) (bytes (y*2 ^ j)) (by omega) (by omega)) rfl ?_;rw [zap,show y*2 ^ j+y*2 ^ j=y*2 ^ (j+1) by rw [zzD,<-zzF]; omega];conv=>whnf
  refine ⟨by show 0<=((j+1 : Nat) : Int)/\((j+1 : Nat) : Int)<((8 : Nat) : Int); omega,?_⟩;conv=>whnf
  refine ⟨by show 0+((j+1 : Nat) : Int).toNat*1+1<=(rowV strC (zc9 y (j+1))).length; rw [zad zeX,zcd,zzS]; omega,?_⟩;conv=>whnf
  refine ⟨j+2,⟨by omega,by omega⟩,by omega,zzj ⟨rfl,rfl,zaq hi2 (by omega),trivial⟩ ⟨⟨_,rfl,?_⟩,trivial⟩ (fun R hR=>hR)⟩;show MEle (ME.sym (putN (0+((j+1 : Nat) : Int).toNat*1) (strC (y*2 ^ (j+1))) (rowV strC (zc9 y (j+1)))) _) (ME.sym (rowV strC (zc9 y (j+2))) _);rw [zzS,zyo,zcc zeX (y*2 ^ (j+1)) (by rw [zcd]; omega),zou y (j+1) hi2];exact .refl _
 intro h;have hi2 : i=8:=by
  have : ¬(i : Int)<8:=zA1 h;omega
 subst hi2;have hts : ∀ k,k<8->(zc9 y 8)[k]?=some (y*2 ^ k):=fun k hk=>by rw [zeY y 8 k hk,zxJ hk]
 obtain ⟨n,hn⟩ : ∃ n,n=a.length:=⟨_,rfl⟩;conv=>whnf
 refine ⟨by show 0<=((a.length : Nat) : Int)/\((a.length : Nat) : Int)<=((a.length : Nat) : Int)/\((1 : Nat) : Int)*((a.length : Nat) : Int)<=281474976710656/\((a.length : Nat) : Int)<=9223372036854775807; omega,?_⟩;conv=>whnf
 refine zal (ι:=Nat×List UInt8×Nat) (fun ⟨i,L,r⟩=>⟨[(0,.o (.v (.string (bs a)))),(6,.o (.p 6 0)),(8,.o (.w 32)),(9,.o (.v (.string (bs (bytes r))))),(10,.o (.v (.int .i64 i)))],[(6,.sym (rowV strC (zc9 y 8)) zel),(32,.own zaO 1 n (rowV u8c (L++List.replicate (n-i) 0)))],[]⟩)
  (fun ⟨i,L,r⟩=>i<=n/\L.length=i/\nat L=nat (a.take i)/y/\r=nat (a.take i)%y) (fun ⟨i,L,r⟩=>n-i) (0,[],0) ⟨zyD _,rfl,by rw [List.take_zero,zdS,Nat.zero_div],by rw [List.take_zero,zdS,Nat.zero_mod]⟩ (zzj ⟨rfl,rfl,rfl,?_,rfl,trivial⟩ ⟨mrf rfl,⟨_,rfl,?_⟩,trivial⟩ (fun R hR=>hR)) ?_
 ·rw [zaS]; rfl
 ·show MEle (ME.own zaO 1 ((a.length : Nat) : Int).toNat (repl ((a.length : Nat) : Int).toNat [Value.int .u8 0])) (ME.own zaO 1 n (rowV u8c ([]++List.replicate (n-0) 0)));rw [<-hn,zzS,zfm]; exact .refl _
 rintro ⟨i,L,r⟩ ⟨hi,hL,hq,hr⟩;conv=>whnf
 refine zaj ?_ ?_
 ·intro h;have hi2 : i<n:=by
   have : (i : Int)<((a.length : Nat) : Int):=zA0 h;omega
  obtain ⟨d0,hd0⟩ : ∃ d0,a[i]?=some d0:=⟨_,zyy (by omega)⟩;have hwi : IntKind.i64.wrap ((i : Int)+1)=((i+1 : Nat) : Int):=zfz hi2 (by omega);have hry : r<y:=by rw [hr]; exact zyl _ hy0
  have hlr:=zbo (zBw hry);have hd0b : d0.toNat<256:=d0.toBitVec.isLt;have hext : (bs a).extract (i : Int).toNat (IntKind.i64.wrap ((i : Int)+1)).toNat=bs [d0]:=by
   rw [hwi,zzS,zzS,zgn,zaD hd0,zA4 (by rw [zyI]; omega),zzQ (by rw [zyI]; omega)]; rfl
  obtain ⟨V,hV⟩ : ∃ V,V=r*256+d0.toNat:=⟨_,rfl⟩;have hnatV : nat (bytes r++[d0])=V:=by rw [zdM,zap]; omega
  conv=>whnf
  refine ⟨by rw [hwi]; show 0<=(i : Int)/\(i : Int)<=((i+1 : Nat) : Int)/\((i+1 : Nat) : Int)<=((a.length : Nat) : Int); omega,?_⟩;rw [hext];conv=>whnf
  refine ⟨by show (((bytes r).length+1 : Nat) : Int)<=9223372036854775807; omega,?_⟩;rw [zpc];conv=>whnf
  refine zzt (zfp (bytes r++[d0])) rfl ?_;rw [zcP,hnatV];conv=>whnf
  refine zal (ι:=Nat×Nat×Nat×Int) (fun ⟨k,R,d,z⟩=>⟨[(0,.o (.v (.string (bs a)))),(6,.o (.p 6 0)),(8,.o (.w 32)),(9,.o (.v (.string (bs (bytes R))))),(10,.o (.v (.int .i64 i))),(11,.o (.v (.int .i64 d))),(12,.o (.v (.int .i64 z)))],[(6,.sym (rowV strC (zc9 y 8)) zel),(32,.own zaO 1 n (rowV u8c (L++List.replicate (n-i) 0)))],[]⟩)
   (fun ⟨k,R,d,z⟩=>z=(k : Int)-1/\k<=8/\R+d*y=V/\R<y*2 ^ k/\d+2 ^ k<=256) (fun ⟨k,R,d,z⟩=>k) (8,V,0,7) ⟨rfl,zxr _,by omega,by rw [hV]; omega,by decide⟩ (zzj ⟨rfl,rfl,rfl,rfl,rfl,rfl,rfl,trivial⟩ ⟨mrf rfl,mrf rfl,trivial⟩ (fun R hR=>hR)) ?_
  rintro ⟨k1,R,d,z⟩ ⟨hz,hk8,hRV,hRy,hd⟩;conv=>whnf
  refine zaj ?_ ?_
  ·intro h;obtain ⟨k,rfl⟩ : ∃ k,k1=k+1:=⟨k1-1,by
    have : z>=0:=zA0 h;omega⟩
   obtain rfl : z=(k : Int):=by omega
   have hR9 : (bytes R).length<=300000001:=by
    have h1 : R<=y*2 ^ 8:=zxs (zBw hRy) (zzH _ (zAa (by decide) hk8));have:=zbo h1;have:=hty 8 (zxr _);omega
   have hpow : 2 ^ (k+1)=2 ^ k+2 ^ k:=by rw [zzD]; omega
   rw [hpow] at hRy hd;rw [zzE] at hRy;have hdec : IntKind.i64.wrap ((k : Int)-1)=(k : Int)-1:=wrap_i64 (by omega) (by omega);conv=>whnf
   refine ⟨by show 0<=(k : Int)/\(k : Int)<((8 : Nat) : Int); omega,?_⟩;conv=>whnf
   refine zzT strC zeX (k:=k) (by show 0+(k : Int).toNat*1=_; rw [zzS]; omega) (by rw [zcd]; omega) (by decide) (fun _=>rfl) ?_;intro m hm;obtain rfl : m=y*2 ^ k:=by rw [hts k (by omega)] at hm; exact (zz1 hm).symm
   conv=>whnf
   refine zzt (zcR R (y*2 ^ k)) rfl ?_;by_cases hge : y*2 ^ k<=R
   ·have hcmp : cmpN R (y*2 ^ k)=0\/cmpN R (y*2 ^ k)=1:=by
     unfold cmpN; rw [zxI (by omega)]; split
     ·exact .inr rfl
     ·exact .inl rfl
    conv=>whnf
    refine zag (zz8 (by rcases hcmp with e | e <;> rw [e] <;> decide)) ?_;conv=>whnf
    refine ⟨by show 0<=(k : Int)/\(k : Int)<((8 : Nat) : Int); omega,?_⟩;conv=>whnf
    refine zzT strC zeX (k:=k) (by show 0+(k : Int).toNat*1=_; rw [zzS]; omega) (by rw [zcd]; omega) (by decide) (fun _=>rfl) ?_;intro m hm;obtain rfl : m=y*2 ^ k:=by rw [hts k (by omega)] at hm; exact (zz1 hm).symm
    conv=>whnf
    refine zzt (zf7 (bytes R) (bytes (y*2 ^ k)) (by omega) (zbo hge) (by rw [zap,zap]; exact hge)) rfl ?_;rw [zap,zap];conv=>whnf
    have hkw : IntKind.u64.wrap (k : Int)=(k : Int):=by rw [zAQ]; omega
    refine ⟨by rw [hkw]; omega,?_⟩;conv=>whnf
    have hgen : ∀ (P : Nat),d+(P+P)<=256->IntKind.i64.wrap ((d : Int)+IntKind.i64.wrap (P : Int))=((d+P : Nat) : Int):=fun P hP=>by
     rw [wrap_i64 (n:=(P : Int)) (by omega) (by omega),wrap_i64 (by omega) (by omega)]; omega
    have hsh : IntKind.i64.wrap ((d : Int)+IntKind.i64.wrap (1*2 ^ min (IntKind.u64.wrap (k : Int)).toNat IntKind.i64.bits))=((d+2 ^ k : Nat) : Int):=by
     rw [hkw,zzS,zAs (show k<=IntKind.i64.bits by show k<=64; omega),Int.one_mul,show ((2 : Int) ^ k)=((2 ^ k : Nat) : Int) by rw [zAH]; rfl,hgen _ hd]
    refine ⟨(k,R-y*2 ^ k,d+2 ^ k,(k : Int)-1),⟨rfl,by omega,?_,by omega,by omega⟩,by show k<k+1; omega,zzj ⟨rfl,rfl,rfl,rfl,rfl,?_,?_,trivial⟩ ⟨mrf rfl,mrf rfl,trivial⟩ (fun R hR=>hR)⟩
    ·rw [zzP,zzG (2 ^ k) y]; omega
    ·show some (SV.o (.v (.int .i64 (IntKind.i64.wrap ((d : Int)+IntKind.i64.wrap (1*2 ^ min (IntKind.u64.wrap (k : Int)).toNat IntKind.i64.bits))))))=_;rw [hsh]; rfl
    ·show some (SV.o (.v (.int .i64 (IntKind.i64.wrap ((k : Int)-1)))))=_;rw [hdec]; rfl
   ·have hcmp : cmpN R (y*2 ^ k)=-1:=by unfold cmpN; rw [zxJ (by omega)]
    rw [hcmp];conv=>whnf
    refine ⟨(k,R,d,(k : Int)-1),⟨rfl,by omega,hRV,by omega,zxs (Nat.add_le_add_left (Nat.le_add_right _ _) _) hd⟩,by show k<k+1; omega,zzj ⟨rfl,rfl,rfl,rfl,rfl,rfl,?_,trivial⟩ ⟨mrf rfl,mrf rfl,trivial⟩ (fun R hR=>hR)⟩;show some (SV.o (.v (.int .i64 (IntKind.i64.wrap ((k : Int)-1)))))=_;rw [hdec]; rfl
  ·intro h;have hk0 : k1=0:=by
    have : ¬z>=0:=zA1 h;omega
   subst hk0;rw [Nat.pow_zero,zyR] at hRy;have hR2 : R=V%y:=by rw [<-hRV,Nat.add_mul_mod_self_right,zye hRy]
   have hd2 : d=V/y:=by rw [<-hRV,Nat.add_mul_div_right _ _ hy0,zzB hRy,zyo]
   have hA : nat (a.take (i+1))=nat (a.take i)/y*256*y+V:=by
    rw [zaD hd0,zdM,hV,hr];have:=zAw (nat (a.take i)) y;generalize nat (a.take i)/y=Q at *;generalize nat (a.take i)%y=M at *;rw [<-this,zzF Q 256 y,zzG 256 y,<-zzF,zzG Q y,zzE]; omega
   have hm2 : nat (a.take (i+1))%y=R:=by rw [hA,zyc,Nat.add_mul_mod_self_right,hR2]
   have hq2 : nat (a.take (i+1))/y=nat (a.take i)/y*256+d:=by rw [hA,zyc,Nat.add_mul_div_right _ _ hy0,hd2,zyc]
   have hdb : d<256:=by omega
   conv=>whnf
   refine ⟨by show 0<=(i : Int)/\(i : Int)<((n : Nat) : Int); omega,?_⟩;conv=>whnf
   refine ⟨⟨by show (i : Int).toNat*1+1<=(rowV u8c (L++List.replicate (n-i) 0)).length; rw [zad zbK]; simp; omega,by decide⟩,?_⟩;conv=>whnf
   refine ⟨(i+1,L++[UInt8.ofNat (d%256)],R),⟨by omega,by simp [hL],?_,hm2.symm⟩,by show n-(i+1)<n-i; omega,zzj ⟨rfl,rfl,rfl,rfl,zaq hi2 (by omega),trivial⟩ ⟨mrf rfl,⟨_,rfl,?_⟩,trivial⟩ (fun R hR=>hR)⟩
   ·rw [zdM,hq,hq2,zAL,Nat.mod_mod,zye hdb]; omega
   ·show MEle (ME.own zaO 1 n (putN ((i : Int).toNat*1) [Value.int .u8 (IntKind.u8.wrap (d : Int))] (rowV u8c (L++List.replicate (n-i) 0)))) (ME.own zaO 1 n (rowV u8c ((L++[UInt8.ofNat (d%256)])++List.replicate (n-(i+1)) 0)));have hput:=zcc (f:=u8c) zbK (k:=i) (l:=L++List.replicate (n-i) 0) (UInt8.ofNat (d%256)) (by simp; omega);have hset : (L++List.replicate (n-i) 0).set i (UInt8.ofNat (d%256))=(L++[UInt8.ofNat (d%256)])++List.replicate (n-(i+1)) 0:=by
     rw [zAR _ _ (by omega),hL,zAI,show n-i=(n-(i+1))+1 by omega,zzI,zBv,zyF]; rfl
    rw [hset] at hput;rw [zzS,zny,<-hput]; exact .refl _
 ·intro h;have hi2 : i=n:=by
   have : ¬(i : Int)<((a.length : Nat) : Int):=zA1 h;omega
  subst hi2;have hall : a.take i=a:=zyJ (by omega);rw [hall,hax] at hq hr;conv=>whnf
  refine ⟨L,hL,?_,?_⟩
  ·show (rowV u8c (L++List.replicate (i-i) 0)).take i=_;rw [zAI,zAW,zyP,zdZ];exact zyJ (by simp [bytV,hL])
  conv=>whnf
  refine zzt (zfp L) rfl ?_;rw [zcP,hq];conv=>whnf
  subst hr;exact zau rfl
theorem lt8 {z : Int} (h : (bytes z.natAbs).length<=7) : z.natAbs<72057594037927936:=by
 have:=nat7 h;rwa [zap] at this
theorem zgY (z : Int) (h : (bytes z.natAbs).length<=7) : Fn PP 209 [zV z] (.int .i64 z):=by
 have:=ztK (decide (z<0)) (bytes z.natAbs) h;rw [zap,sg_z] at this;exact this
theorem zjg {z : Int} {b : Bool} {n : Nat} (h : z=sg b n) (hb : n=0->b=false) : zV z=intV b (bs (bytes n)):=by
 subst h;rw [zV,zbb];rcases zyf n with h0 | h0
 ·rw [hb h0,h0]; rfl
 ·rw [zmY h0]
theorem beqB {x y : Bool} (h : (x==y)=true) : x=y:=by simpa using h
theorem bneB {x y : Bool} (h : (x==y)=false) : x≠y:=by simpa using h
theorem zwa (a b : Bool) (l m : List UInt8) (hl : l.length<=500000000) (hm : m.length<=500000000) : Fn PP 201 [intV a (bs l),intV b (bs m)] (zV (sg a (nat l)+sg b (nat m))):=by
 refine zzn zab mixed Tryz.func201 rfl rfl (zxW rfl) ?_;intro w;obtain ⟨X,hX⟩ : ∃ X,X=sg a (nat l):=⟨_,rfl⟩;obtain ⟨Y,hY⟩ : ∃ Y,Y=sg b (nat m):=⟨_,rfl⟩;have hXl : (bytes X.natAbs).length<=500000000:=by rw [hX,zbb]; exact zxs (zcZ _) hl
 have hYl : (bytes Y.natAbs).length<=500000000:=by rw [hY,zbb]; exact zxs (zcZ _) hm
 have cX:=zbR a l;have cY:=zbR b m;rw [<-hX] at cX ⊢;rw [<-hY] at cY ⊢;conv=>whnf
 refine zak.qk ?_;conv=>whnf
 refine zzu cX rfl ?_;conv=>whnf
 refine zzu cY rfl ?_;conv=>whnf
 by_cases hs : (bytes X.natAbs).length<=7/\(bytes Y.natAbs).length<=7
 ·refine zag (zz8 (show ((bytes X.natAbs).length : Int)<8 by omega)) ?_;conv=>whnf
  refine zag (zz8 (show ((bytes Y.natAbs).length : Int)<8 by omega)) ?_;have h1:=lt8 hs.1;have h2:=lt8 hs.2;conv=>whnf
  refine zak.qk ?_;conv=>whnf
  refine zzu (zgY X hs.1) rfl ?_;conv=>whnf
  refine zzu (zgY Y hs.2) rfl ?_;conv=>whnf
  have hw : IntKind.i64.wrap (X+Y)=X+Y:=wrap_i64 (by omega) (by omega);refine zzu (r:=zV (X+Y)) (r_Of (X+Y) (by omega) (by omega)) (zyr (fun z=>[SV.o (.v (.int .i64 z))]) hw) ?_;conv=>whnf
  exact zaa rfl
 have hc : ¬(bytes X.natAbs).length<=7\/((bytes X.natAbs).length<=7/\¬(bytes Y.natAbs).length<=7):=by omega
 have hsame : decide (X<0)=decide (Y<0)->intV (decide (X<0)) (bs (bytes (X.natAbs+Y.natAbs)))=zV (X+Y):=fun h=>by
  refine (zjg ?_ ?_).symm
  ·have h1:=decide_eq_decide.1 h;unfold sg;by_cases h2 : X<0
   ·rw [zz8 h2,zxJ rfl]; omega
   ·rw [zz9 h2,zxI (by decide)]; omega
  ·intro h0; exact zz9 (by omega)
 have hleft : decide (X<0)≠decide (Y<0)->Y.natAbs<X.natAbs->intV (decide (X<0)) (bs (bytes (X.natAbs-Y.natAbs)))=zV (X+Y):=fun h hlt=>by
  refine (zjg ?_ (by omega)).symm;unfold sg;by_cases h2 : X<0 <;> by_cases h3 : Y<0
  ·exact absurd (by rw [zz8 h2,zz8 h3]) h
  ·rw [zz8 h2,zxJ rfl]; omega
  ·rw [zz9 h2,zxI (by decide)]; omega
  ·exact absurd (by rw [zz9 h2,zz9 h3]) h
 have hright : decide (X<0)≠decide (Y<0)->X.natAbs<Y.natAbs->intV (decide (Y<0)) (bs (bytes (Y.natAbs-X.natAbs)))=zV (X+Y):=fun h hlt=>by
  refine (zjg ?_ (by omega)).symm;unfold sg;by_cases h2 : X<0 <;> by_cases h3 : Y<0
  ·exact absurd (by rw [zz8 h2,zz8 h3]) h
  ·rw [zz9 h3,zxI (by decide)]; omega
  ·rw [zz8 h3,zxJ rfl]; omega
  ·exact absurd (by rw [zz9 h2,zz9 h3]) h
 have hz : decide (X<0)≠decide (Y<0)->X.natAbs=Y.natAbs->intV false ⟨#[]⟩=zV (X+Y):=fun h he=>by
  have : X+Y=0:=by
   by_cases h2 : X<0 <;> by_cases h3 : Y<0
   ·exact absurd (by rw [zz8 h2,zz8 h3]) h
   ·omega
   ·omega
   ·exact absurd (by rw [zz9 h2,zz9 h3]) h
  rw [this,zV,zBg,zaS]; rfl
 rcases hc with h1 | ⟨h1,h2⟩
 ·refine zac (zz9 (show ¬((bytes X.natAbs).length : Int)<8 by omega)) ?_;conv=>whnf
  refine zaj ?_ ?_
  ·intro h;have hs:=beqB h;conv=>whnf
   refine zak.qk ?_;conv=>whnf
   refine zzu (zj0 (bytes X.natAbs) (bytes Y.natAbs) hXl hYl) rfl ?_;rw [zap,zap];conv=>whnf
   exact zaa (hsame hs)
  ·intro h;have hs:=bneB h;conv=>whnf
   refine zzt (zcR X.natAbs Y.natAbs) rfl ?_;rcases zBt X.natAbs Y.natAbs with hc | hc | hc
   ·rw [show cmpN X.natAbs Y.natAbs=-1 by rw [cmpN,zxJ hc]];conv=>whnf
    refine zak.qk ?_;conv=>whnf
    refine zzu (zf7 (bytes Y.natAbs) (bytes X.natAbs) hYl (zbo (zBw hc)) (by rw [zap,zap]; omega)) rfl ?_;rw [zap,zap];conv=>whnf
    exact zaa (hright hs hc)
   ·rw [show cmpN X.natAbs Y.natAbs=0 by rw [cmpN,zxI (by omega),zxI (by omega)]];conv=>whnf
    exact zaa (hz hs hc)
   ·rw [show cmpN X.natAbs Y.natAbs=1 by rw [cmpN,zxI (by omega),zxJ hc]];conv=>whnf
    refine zak.qk ?_;conv=>whnf
    refine zzu (zf7 (bytes X.natAbs) (bytes Y.natAbs) hXl (zbo (zBw hc)) (by rw [zap,zap]; omega)) rfl ?_;rw [zap,zap];conv=>whnf
    exact zaa (hleft hs hc)
 ·refine zag (zz8 (show ((bytes X.natAbs).length : Int)<8 by omega)) ?_;conv=>whnf
  refine zac (zz9 (show ¬((bytes Y.natAbs).length : Int)<8 by omega)) ?_;conv=>whnf
  refine zaj ?_ ?_
  ·intro h;have hs:=beqB h;conv=>whnf
   refine zak.qk ?_;conv=>whnf
   refine zzu (zj0 (bytes X.natAbs) (bytes Y.natAbs) hXl hYl) rfl ?_;rw [zap,zap];conv=>whnf
   exact zaa (hsame hs)
  ·intro h;have hs:=bneB h;conv=>whnf
   refine zzt (zcR X.natAbs Y.natAbs) rfl ?_;rcases zBt X.natAbs Y.natAbs with hc | hc | hc
   ·rw [show cmpN X.natAbs Y.natAbs=-1 by rw [cmpN,zxJ hc]];conv=>whnf
    refine zak.qk ?_;conv=>whnf
    refine zzu (zf7 (bytes Y.natAbs) (bytes X.natAbs) hYl (zbo (zBw hc)) (by rw [zap,zap]; omega)) rfl ?_;rw [zap,zap];conv=>whnf
    exact zaa (hright hs hc)
   ·rw [show cmpN X.natAbs Y.natAbs=0 by rw [cmpN,zxI (by omega),zxI (by omega)]];conv=>whnf
    exact zaa (hz hs hc)
   ·rw [show cmpN X.natAbs Y.natAbs=1 by rw [cmpN,zxI (by omega),zxJ hc]];conv=>whnf
    refine zak.qk ?_;conv=>whnf
    refine zzu (zf7 (bytes X.natAbs) (bytes Y.natAbs) hXl (zbo (zBw hc)) (by rw [zap,zap]; omega)) rfl ?_;rw [zap,zap];conv=>whnf
    exact zaa (hleft hs hc)
theorem zsV (x y : Int) (hx : (bytes x.natAbs).length<=500000000) (hy : (bytes y.natAbs).length<=500000000) : Fn PP 201 [zV x,zV y] (zV (x+y)):=by
 have:=zwa (decide (x<0)) (decide (y<0)) (bytes x.natAbs) (bytes y.natAbs) hx hy;rw [zap,zap,sg_z,sg_z] at this;exact this
theorem ziy (b : Bool) (l : List UInt8) : Fn PP 205 [intV b (bs l)] (zV (-(sg b (nat l)))):=by
 refine zzn zab mixed Tryz.func205 rfl rfl (zxW rfl) ?_;intro w;obtain ⟨X,hX⟩ : ∃ X,X=sg b (nat l):=⟨_,rfl⟩;have cX:=zbR b l;rw [<-hX] at cX ⊢;conv=>whnf
 refine zzt cX rfl ?_;conv=>whnf
 by_cases h : X<0
 ·refine zac (by rw [zz8 h]; rfl) ?_;conv=>whnf
  refine zaa ?_;rw [zV,zAf,zz9 (show ¬-X<0 by omega)]
 ·refine zag (by rw [zz9 h]; rfl) ?_;conv=>whnf
  refine zaa ?_;show intV (!((bs (bytes X.natAbs)).toList==ByteArray.toList ⟨#[]⟩)) _=_;rw [zeR,zV,zAf]
  congr 1
  by_cases h0 : X=0
  ·rw [h0,zBg,zaS]; rfl
  ·rw [zz9 (fun h2=>by have:=zde.1 h2; omega),zz8 (show -X<0 by omega)]; rfl
theorem znb (x : Int) : Fn PP 205 [zV x] (zV (-x)):=by
 have:=ziy (decide (x<0)) (bytes x.natAbs);rw [zap,sg_z] at this;exact this
theorem zmX (x y : Int) (hx : (bytes x.natAbs).length<=500000000) (hy : (bytes y.natAbs).length<=500000000) : Fn PP 243 [zV x,zV y] (zV (x-y)):=by
 refine zzn zab mixed Tryz.func243 rfl rfl (zxW rfl) ?_;intro w;conv=>whnf
 refine zak.qk ?_;conv=>whnf
 refine zzu (znb y) rfl ?_;conv=>whnf
 refine zzu (zsV x (-y) hx (by rw [zAf]; exact hy)) rfl ?_;conv=>whnf
 exact zaa (by rw [Int.sub_eq_add_neg])
theorem ze4 (n : Nat) : ((bs (bytes n)).toList==ByteArray.toList ⟨#[]⟩)=decide (n=0):=by rw [zeR]; exact decide_eq_decide.2 zde
theorem zd4 (X : Int) : ((bs (bytes X.natAbs)).toList==ByteArray.toList ⟨#[]⟩)=decide (X=0):=by rw [ze4]; exact decide_eq_decide.2 (by omega)
theorem zpD (X Y : Int) (h : X=0\/Y=0) : intV false ⟨#[]⟩=zV (X*Y):=by
 have : X*Y=0:=by rcases h with h | h <;> simp [h]
 rw [this,zV,zBg,zaS]; rfl
theorem zjw {X Y : Int} (h : (bytes X.natAbs).length+(bytes Y.natAbs).length<=7) : (X*Y).natAbs<72057594037927936:=by
 have h1:=zcT (bytes X.natAbs);have h2:=zcT (bytes Y.natAbs);rw [zap] at h1 h2;have:=zxw (zbZ h1 h2) (zAa (n:=256) (by decide) h);rw [zAh]; simpa using this
theorem zwV (a b : Bool) (l m : List UInt8) (hl : l.length<=400000000) (hm : m.length<=400000000) : Fn PP 153 [intV a (bs l),intV b (bs m)] (zV (sg a (nat l)*sg b (nat m))):=by
 refine zzn zab mixed Tryz.func153 rfl rfl (zxW rfl) ?_;intro w;obtain ⟨X,hX⟩ : ∃ X,X=sg a (nat l):=⟨_,rfl⟩;obtain ⟨Y,hY⟩ : ∃ Y,Y=sg b (nat m):=⟨_,rfl⟩;have hXl : (bytes X.natAbs).length<=400000000:=by rw [hX,zbb]; exact zxs (zcZ _) hl
 have hYl : (bytes Y.natAbs).length<=400000000:=by rw [hY,zbb]; exact zxs (zcZ _) hm
 have cX:=zbR a l;have cY:=zbR b m;rw [<-hX] at cX ⊢;rw [<-hY] at cY ⊢;conv=>whnf
 refine zak.qk ?_;conv=>whnf
 refine zzu cX rfl ?_;conv=>whnf
 refine zzu cY rfl ?_;conv=>whnf
 by_cases hX0 : X=0
 ·refine zag ((zd4 X).trans (zz8 hX0)) ?_;conv=>whnf
  exact zaa (zpD X Y (.inl hX0))
 refine zac ((zd4 X).trans (zz9 hX0)) ?_;conv=>whnf
 by_cases hY0 : Y=0
 ·refine zag ((zd4 Y).trans (zz8 hY0)) ?_;conv=>whnf
  exact zaa (zpD X Y (.inr hY0))
 refine zac ((zd4 Y).trans (zz9 hY0)) ?_;conv=>whnf
 have hw : IntKind.i64.wrap (((bytes X.natAbs).length : Int)+((bytes Y.natAbs).length : Int))=((bytes X.natAbs).length : Int)+((bytes Y.natAbs).length : Int):=wrap_i64 (by omega) (by omega);refine zaj ?_ ?_
 ·intro h;have hs : (bytes X.natAbs).length+(bytes Y.natAbs).length<=7:=by
   have h2 : IntKind.i64.wrap (((bytes X.natAbs).length : Int)+((bytes Y.natAbs).length : Int))<8:=zA0 h;rw [hw] at h2; omega
  have hp:=zjw hs;conv=>whnf
  refine zak.qk ?_;conv=>whnf
  refine zzu (zgY X (by omega)) rfl ?_;conv=>whnf
  refine zzu (zgY Y (by omega)) rfl ?_;conv=>whnf
  have hw2 : IntKind.i64.wrap (X*Y)=X*Y:=wrap_i64 (by omega) (by omega);refine zzu (r:=zV (X*Y)) (r_Of (X*Y) (by omega) (by omega)) (zyr (fun z=>[SV.o (.v (.int .i64 z))]) hw2) ?_;conv=>whnf
  exact zaa rfl
 ·intro h;conv=>whnf
  refine zak.qk ?_;conv=>whnf
  refine zzu (zrG (bytes X.natAbs) (bytes Y.natAbs) (by omega) hYl) rfl ?_;rw [zap,zap];conv=>whnf
  refine zaa ?_;have hpos : 0<X.natAbs*Y.natAbs:=zyN (by omega) (by omega);refine (zjg (b:=decide (X<0) != decide (Y<0)) ?_ (by omega)).symm;rw [ztd,sg_z,sg_z]
theorem zhK (x y : Int) (hx : (bytes x.natAbs).length<=400000000) (hy : (bytes y.natAbs).length<=400000000) : Fn PP 153 [zV x,zV y] (zV (x*y)):=by
 have:=zwV (decide (x<0)) (decide (y<0)) (bytes x.natAbs) (bytes y.natAbs) hx hy;rw [zap,zap,sg_z,sg_z] at this;exact this
theorem zgU {x y : Bool} (h : x≠y) : (x != y)=true:=by cases x <;> cases y <;> simp_all
theorem zfw {x y : Bool} (h : x=y) : (x != y)=false:=by subst h; cases x <;> rfl
theorem zoa (X Y : Int) : Fn PP 165 [zV X,zV Y] (.int .i64 (cmpZ X Y)):=by
 refine zzn zab mixed Tryz.func165 rfl rfl (zxW rfl) ?_;intro w;have cX:=zbR (decide (X<0)) (bytes X.natAbs);have cY:=zbR (decide (Y<0)) (bytes Y.natAbs);rw [zap,sg_z] at cX cY;conv=>whnf
 refine zak.qk ?_;conv=>whnf
 refine zzu cX rfl ?_;conv=>whnf
 refine zzu cY rfl ?_;conv=>whnf
 by_cases hx : X<0 <;> by_cases hy : Y<0
 ·refine zac (zfw (by rw [zz8 hx,zz8 hy])) ?_;conv=>whnf
  refine zag (zz8 hx) ?_;conv=>whnf
  refine zzt (zcR Y.natAbs X.natAbs) rfl ?_;conv=>whnf
  refine zaa ?_;rw [<-znk,show -((X.natAbs : Nat) : Int)=X by omega,show -((Y.natAbs : Nat) : Int)=Y by omega]
 ·refine zag (zgU (by rw [zz8 hx,zz9 hy]; decide)) ?_;conv=>whnf
  refine zag (zz8 hx) ?_;conv=>whnf
  refine zaa ?_;rw [zge (by omega)]
 ·refine zag (zgU (by rw [zz9 hx,zz8 hy]; decide)) ?_;conv=>whnf
  refine zac (zz9 hx) ?_;conv=>whnf
  refine zaa ?_;rw [zgk (by omega)]
 ·refine zac (zfw (by rw [zz9 hx,zz9 hy])) ?_;conv=>whnf
  refine zac (zz9 hx) ?_;conv=>whnf
  refine zzt (zcR X.natAbs Y.natAbs) rfl ?_;conv=>whnf
  refine zaa ?_;rw [<-zfX,show ((X.natAbs : Nat) : Int)=X by omega,show ((Y.natAbs : Nat) : Int)=Y by omega]
theorem zdj (n : Nat) : zV (n : Int)=intV false (bs (bytes n)):=by rw [zV,zAi,zz9 (by omega)]
theorem bneT {x y : Bool} (h : (x != y)=true) : x≠y:=by simpa using h
theorem bneF {x y : Bool} (h : (x != y)=false) : x=y:=by simpa using h
theorem zjo {X Y : Int} (hY : Y≠0) (h : decide (X<0)=decide (Y<0)) : X.fdiv Y=((X.natAbs/Y.natAbs : Nat) : Int)/\X.fmod Y=if Y<0 then -((X.natAbs%Y.natAbs : Nat) : Int) else ((X.natAbs%Y.natAbs : Nat) : Int):=by
 have h2:=zfy (decide (X<0)) (decide (Y<0)) X.natAbs Y.natAbs (by omega) (.inl h);rw [sg_z,sg_z] at h2;rw [h2.1,h2.2,zfw h,h];refine ⟨rfl,?_⟩;by_cases hy : Y<0
 ·rw [zxJ hy,zz8 hy]; rfl
 ·rw [zxI hy,zz9 hy]; rfl
theorem zig {X Y : Int} (hY : Y≠0) (h : X.natAbs%Y.natAbs=0) : X.fdiv Y=(if decide (X<0)=decide (Y<0) then ((X.natAbs/Y.natAbs : Nat) : Int) else -((X.natAbs/Y.natAbs : Nat) : Int))/\X.fmod Y=0:=by
 have h2:=zfy (decide (X<0)) (decide (Y<0)) X.natAbs Y.natAbs (by omega) (.inr h);rw [sg_z,sg_z,h] at h2;rw [h2.1,h2.2];refine ⟨?_,by unfold sg; split <;> rfl⟩;by_cases hab : decide (X<0)=decide (Y<0)
 ·rw [zxJ hab,zfw hab]; rfl
 ·rw [zxI hab,zgU hab]; rfl
theorem zjh {X Y : Int} (hY : Y≠0) (h : decide (X<0)≠decide (Y<0)) (h0 : X.natAbs%Y.natAbs≠0) : X.fdiv Y=-(sg false (X.natAbs/Y.natAbs))-1/\X.fmod Y=if Y<0 then -((Y.natAbs : Int)-((X.natAbs%Y.natAbs : Nat) : Int)) else (Y.natAbs : Int)-((X.natAbs%Y.natAbs : Nat) : Int):=by
 have h2:=ziU (decide (X<0)) (decide (Y<0)) X.natAbs Y.natAbs (by omega) h h0;rw [sg_z,sg_z] at h2;rw [h2.1,h2.2,zgU h];refine ⟨rfl,?_⟩;by_cases hy : Y<0
 ·have hx : ¬X<0:=fun hx=>h (by rw [zz8 hx,zz8 hy])
  rw [zxJ hy,zz9 hx];show ((X.natAbs%Y.natAbs : Nat) : Int)+Y=_;omega
 ·have hx : X<0:=by
   by_cases hx : X<0
   ·exact hx
   ·exact absurd (by rw [zz9 hx,zz9 hy]) h
  rw [zxI hy,zz8 hx];show -((X.natAbs%Y.natAbs : Nat) : Int)+Y=_;omega
theorem zpR (x y : Nat) (hx : (bytes x).length<=500000000) (hy : (bytes y).length<=500000000) : Fn PP 243 [intV false (bs (bytes x)),intV false (bs (bytes y))] (zV ((x : Int)-(y : Int))):=by
 have:=zmX (x : Int) (y : Int) (by rw [zAi]; exact hx) (by rw [zAi]; exact hy);rw [zdj,zdj] at this;exact this
theorem zun (n : Nat) (h : n<9223372036854775808) : Fn PP 202 [.int .i64 (n : Int)] (intV false (bs (bytes n))):=by
 have:=r_Of (n : Int) (by omega) (by omega);rw [zdj] at this;exact this
theorem zlv {n : Nat} (h : n<9223372036854775808) : IntKind.i64.wrap (n : Int)=(n : Int):=wrap_i64 (by omega) (by omega)
theorem ztl (X Y : Int) (hX : (bytes X.natAbs).length<=300000000) (hYl : (bytes Y.natAbs).length<=300000000) :
  Fn PP 207 [zV X,zV Y] (if Y=0 then divV 0 0 10 else divV (X.fdiv Y) (X.fmod Y) 0):=by
 refine zzn zab mixed Tryz.func207 rfl rfl (zxW rfl) ?_;intro w;have cX:=zbR (decide (X<0)) (bytes X.natAbs);have cY:=zbR (decide (Y<0)) (bytes Y.natAbs);rw [zap,sg_z] at cX cY;have hq1:=zbo (zAe X.natAbs Y.natAbs);have hr1:=zbo (Nat.mod_le X.natAbs Y.natAbs);conv=>whnf
 refine zak.qk ?_;conv=>whnf
 refine zzu cX rfl ?_;conv=>whnf
 refine zzu cY rfl ?_;conv=>whnf
 by_cases hY : Y=0
 ·refine zag ((zd4 Y).trans (zz8 hY)) ?_;rw [zxJ hY];conv=>whnf
  refine zar ?_;simp only [divV,zV,zaS,zBg];rfl
 refine zac ((zd4 Y).trans (zz9 hY)) ?_;rw [zxI hY];conv=>whnf
 have hc : (bytes X.natAbs).length<=7/\(bytes Y.natAbs).length<=7\/¬(bytes X.natAbs).length<=7\/((bytes X.natAbs).length<=7/\¬(bytes Y.natAbs).length<=7):=by omega
 rcases hc with hs | h1 | ⟨h1,h2⟩
 ·refine zag (zz8 (show ((bytes X.natAbs).length : Int)<8 by omega)) ?_;conv=>whnf
  refine zag (zz8 (show ((bytes Y.natAbs).length : Int)<8 by omega)) ?_;have h1:=lt8 hs.1;have h2:=lt8 hs.2;have hq2:=zAe X.natAbs Y.natAbs;have hr2:=Nat.mod_le X.natAbs Y.natAbs;conv=>whnf
  refine zak.qk ?_;conv=>whnf
  refine zzu (zgm (bytes X.natAbs) hs.1) rfl ?_;rw [zap];conv=>whnf
  refine zzu (zgm (bytes Y.natAbs) hs.2) rfl ?_;rw [zap];conv=>whnf
  refine zak.qk ?_;conv=>whnf
  refine ⟨by omega,?_⟩;conv=>whnf
  refine zzu (zun (X.natAbs/Y.natAbs) (by omega)) (zyr (fun z=>[SV.o (.v (.int .i64 z))]) (show IntKind.i64.wrap (Int.tdiv (X.natAbs : Int) (Y.natAbs : Int))=_ by exact zlv (show X.natAbs/Y.natAbs<9223372036854775808 by omega))) ?_;conv=>whnf
  refine ⟨by omega,?_⟩;conv=>whnf
  refine zzu (zun (X.natAbs%Y.natAbs) (by omega)) rfl ?_;conv=>whnf
  refine zaj ?_ ?_
  ·intro h;have hab : decide (X<0)≠decide (Y<0):=bneT h;conv=>whnf
   refine zzt (ziy false (bytes (X.natAbs/Y.natAbs))) rfl ?_;rw [zap];conv=>whnf
   by_cases hr0 : X.natAbs%Y.natAbs=0
   ·refine zac (by rw [ze4,zz8 hr0]; rfl) ?_;conv=>whnf
    obtain ⟨e1,e2⟩:=zig hY hr0;by_cases hyn : Y<0
    ·refine zag (zz8 hyn) ?_;conv=>whnf
     refine zzt (ziy false (bytes (X.natAbs%Y.natAbs))) rfl ?_;rw [zap];conv=>whnf
     refine zy4 [(2,4,[1])] (by kernel_rfl) ?_;conv=>whnf
     refine zar ?_;rw [e1,e2,zxI hab,hr0]; rfl
    ·refine zac (zz9 hyn) ?_;conv=>whnf
     refine zy4 [(2,4,[1])] (by kernel_rfl) ?_;conv=>whnf
     refine zar ?_;rw [e1,e2,zxI hab,hr0];simp only [divV,zV,zaS,zBg]; rfl
   ·refine zag (by rw [ze4,zz9 hr0]; rfl) ?_;conv=>whnf
    refine zak.qk ?_;conv=>whnf
    refine zzu (r_Of 1 (by decide) (by decide)) rfl ?_;conv=>whnf
    refine zzu (zmX (-(sg false (X.natAbs/Y.natAbs))) 1 (by rw [zAf,zbb]; omega) (by decide +kernel)) rfl ?_;conv=>whnf
    refine zzt (zpR Y.natAbs (X.natAbs%Y.natAbs) (by omega) (by omega)) rfl ?_;conv=>whnf
    obtain ⟨e1,e2⟩:=zjh hY hab hr0;by_cases hyn : Y<0
    ·refine zag (zz8 hyn) ?_;conv=>whnf
     refine zzt (znb ((Y.natAbs : Int)-((X.natAbs%Y.natAbs : Nat) : Int))) rfl ?_;conv=>whnf
     refine zy4 [(2,4,[1])] (by kernel_rfl) ?_;conv=>whnf
     refine zar ?_;rw [e1,e2,zxJ hyn]; rfl
    ·refine zac (zz9 hyn) ?_;conv=>whnf
     refine zy4 [(2,4,[1])] (by kernel_rfl) ?_;conv=>whnf
     refine zar ?_;rw [e1,e2,zxI hyn]; rfl
  ·intro h;have hab : decide (X<0)=decide (Y<0):=bneF h;obtain ⟨e1,e2⟩:=zjo hY hab;conv=>whnf
   by_cases hyn : Y<0
   ·refine zag (zz8 hyn) ?_;conv=>whnf
    refine zzt (ziy false (bytes (X.natAbs%Y.natAbs))) rfl ?_;rw [zap];conv=>whnf
    refine zy4 [(2,4,[1])] (by kernel_rfl) ?_;conv=>whnf
    refine zar ?_;rw [e1,e2,zxJ hyn,divV,zdj]; rfl
   ·refine zac (zz9 hyn) ?_;conv=>whnf
    refine zy4 [(2,4,[1])] (by kernel_rfl) ?_;conv=>whnf
    refine zar ?_;rw [e1,e2,zxI hyn,divV,zdj,zdj]
 ·refine zac (zz9 (show ¬((bytes X.natAbs).length : Int)<8 by omega)) ?_;conv=>whnf
  refine zzt (zgX X.natAbs Y.natAbs hX hYl (by omega)) rfl ?_;conv=>whnf
  refine zaj ?_ ?_
  ·intro h;have hab : decide (X<0)≠decide (Y<0):=bneT h;conv=>whnf
   refine zzt (ziy false (bytes (X.natAbs/Y.natAbs))) rfl ?_;rw [zap];conv=>whnf
   by_cases hr0 : X.natAbs%Y.natAbs=0
   ·refine zac (by rw [ze4,zz8 hr0]; rfl) ?_;conv=>whnf
    obtain ⟨e1,e2⟩:=zig hY hr0;by_cases hyn : Y<0
    ·refine zag (zz8 hyn) ?_;conv=>whnf
     refine zzt (ziy false (bytes (X.natAbs%Y.natAbs))) rfl ?_;rw [zap];conv=>whnf
     refine zy4 [(2,4,[1])] (by kernel_rfl) ?_;conv=>whnf
     refine zar ?_;rw [e1,e2,zxI hab,hr0]; rfl
    ·refine zac (zz9 hyn) ?_;conv=>whnf
     refine zy4 [(2,4,[1])] (by kernel_rfl) ?_;conv=>whnf
     refine zar ?_;rw [e1,e2,zxI hab,hr0];simp only [divV,zV,zaS,zBg]; rfl
   ·refine zag (by rw [ze4,zz9 hr0]; rfl) ?_;conv=>whnf
    refine zak.qk ?_;conv=>whnf
    refine zzu (r_Of 1 (by decide) (by decide)) rfl ?_;conv=>whnf
    refine zzu (zmX (-(sg false (X.natAbs/Y.natAbs))) 1 (by rw [zAf,zbb]; omega) (by decide +kernel)) rfl ?_;conv=>whnf
    refine zzt (zpR Y.natAbs (X.natAbs%Y.natAbs) (by omega) (by omega)) rfl ?_;conv=>whnf
    obtain ⟨e1,e2⟩:=zjh hY hab hr0;by_cases hyn : Y<0
    ·refine zag (zz8 hyn) ?_;conv=>whnf
     refine zzt (znb ((Y.natAbs : Int)-((X.natAbs%Y.natAbs : Nat) : Int))) rfl ?_;conv=>whnf
     refine zy4 [(2,4,[1])] (by kernel_rfl) ?_;conv=>whnf
     refine zar ?_;rw [e1,e2,zxJ hyn]; rfl
    ·refine zac (zz9 hyn) ?_;conv=>whnf
     refine zy4 [(2,4,[1])] (by kernel_rfl) ?_;conv=>whnf
     refine zar ?_;rw [e1,e2,zxI hyn]; rfl
  ·intro h;have hab : decide (X<0)=decide (Y<0):=bneF h;obtain ⟨e1,e2⟩:=zjo hY hab;conv=>whnf
   by_cases hyn : Y<0
   ·refine zag (zz8 hyn) ?_;conv=>whnf
    refine zzt (ziy false (bytes (X.natAbs%Y.natAbs))) rfl ?_;rw [zap];conv=>whnf
    refine zy4 [(2,4,[1])] (by kernel_rfl) ?_;conv=>whnf
    refine zar ?_;rw [e1,e2,zxJ hyn,divV,zdj]; rfl
   ·refine zac (zz9 hyn) ?_;conv=>whnf
    refine zy4 [(2,4,[1])] (by kernel_rfl) ?_;conv=>whnf
    refine zar ?_;rw [e1,e2,zxI hyn,divV,zdj,zdj]
 ·refine zag (zz8 (show ((bytes X.natAbs).length : Int)<8 by omega)) ?_;conv=>whnf
  refine zac (zz9 (show ¬((bytes Y.natAbs).length : Int)<8 by omega)) ?_;conv=>whnf
  refine zzt (zgX X.natAbs Y.natAbs hX hYl (by omega)) rfl ?_;conv=>whnf
  refine zaj ?_ ?_
  ·intro h;have hab : decide (X<0)≠decide (Y<0):=bneT h;conv=>whnf
   refine zzt (ziy false (bytes (X.natAbs/Y.natAbs))) rfl ?_;rw [zap];conv=>whnf
   by_cases hr0 : X.natAbs%Y.natAbs=0
   ·refine zac (by rw [ze4,zz8 hr0]; rfl) ?_;conv=>whnf
    obtain ⟨e1,e2⟩:=zig hY hr0;by_cases hyn : Y<0
    ·refine zag (zz8 hyn) ?_;conv=>whnf
     refine zzt (ziy false (bytes (X.natAbs%Y.natAbs))) rfl ?_;rw [zap];conv=>whnf
     refine zy4 [(2,4,[1])] (by kernel_rfl) ?_;conv=>whnf
     refine zar ?_;rw [e1,e2,zxI hab,hr0]; rfl
    ·refine zac (zz9 hyn) ?_;conv=>whnf
     refine zy4 [(2,4,[1])] (by kernel_rfl) ?_;conv=>whnf
     refine zar ?_;rw [e1,e2,zxI hab,hr0];simp only [divV,zV,zaS,zBg]; rfl
   ·refine zag (by rw [ze4,zz9 hr0]; rfl) ?_;conv=>whnf
    refine zak.qk ?_;conv=>whnf
    refine zzu (r_Of 1 (by decide) (by decide)) rfl ?_;conv=>whnf
    refine zzu (zmX (-(sg false (X.natAbs/Y.natAbs))) 1 (by rw [zAf,zbb]; omega) (by decide +kernel)) rfl ?_;conv=>whnf
    refine zzt (zpR Y.natAbs (X.natAbs%Y.natAbs) (by omega) (by omega)) rfl ?_;conv=>whnf
    obtain ⟨e1,e2⟩:=zjh hY hab hr0;by_cases hyn : Y<0
    ·refine zag (zz8 hyn) ?_;conv=>whnf
     refine zzt (znb ((Y.natAbs : Int)-((X.natAbs%Y.natAbs : Nat) : Int))) rfl ?_;conv=>whnf
     refine zy4 [(2,4,[1])] (by kernel_rfl) ?_;conv=>whnf
     refine zar ?_;rw [e1,e2,zxJ hyn]; rfl
    ·refine zac (zz9 hyn) ?_;conv=>whnf
     refine zy4 [(2,4,[1])] (by kernel_rfl) ?_;conv=>whnf
     refine zar ?_;rw [e1,e2,zxI hyn]; rfl
  ·intro h;have hab : decide (X<0)=decide (Y<0):=bneF h;obtain ⟨e1,e2⟩:=zjo hY hab;conv=>whnf
   by_cases hyn : Y<0
   ·refine zag (zz8 hyn) ?_;conv=>whnf
    refine zzt (ziy false (bytes (X.natAbs%Y.natAbs))) rfl ?_;rw [zap];conv=>whnf
    refine zy4 [(2,4,[1])] (by kernel_rfl) ?_;conv=>whnf
    refine zar ?_;rw [e1,e2,zxJ hyn,divV,zdj]; rfl
   ·refine zac (zz9 hyn) ?_;conv=>whnf
    refine zy4 [(2,4,[1])] (by kernel_rfl) ?_;conv=>whnf
    refine zar ?_;rw [e1,e2,zxI hyn,divV,zdj,zdj]
theorem zpT (n : Nat) : (!((bs (bytes n)).toList==ByteArray.toList ⟨#[]⟩))=decide (n≠0):=by rw [ze4]; by_cases h : n=0 <;> simp [h]
theorem zvi (X Y : Int) (hX : (bytes X.natAbs).length<=300000000) (hYl : (bytes Y.natAbs).length<=300000000) :
  Fn PP 206 [zV X,zV Y] (zV ((Nat.gcd X.natAbs Y.natAbs : Nat) : Int)):=by
 refine zzn zab mixed Tryz.func206 rfl rfl (zxW rfl) ?_;intro w;have tX:=zfp (bytes X.natAbs);have tY:=zfp (bytes Y.natAbs);rw [zcP,zap] at tX tY;conv=>whnf
 refine zak.qk ?_;conv=>whnf
 refine zzu tX rfl ?_;conv=>whnf
 refine zzu tY rfl ?_;conv=>whnf
 refine zal (ι:=Nat×Nat) (fun ⟨a,b⟩=>⟨[(4,.o (.p 4 0)),(5,.o (.v (.string (bs (bytes a))))),(6,.o (.v (.string (bs (bytes b)))))],[(4,.box [.v (.bool false),.v (.string ⟨#[]⟩)] zbG)],[]⟩)
  (fun ⟨a,b⟩=>Nat.gcd a b=Nat.gcd X.natAbs Y.natAbs/\(bytes a).length<=300000000/\(bytes b).length<=300000000) (fun ⟨a,b⟩=>b) (X.natAbs,Y.natAbs) ⟨rfl,hX,hYl⟩ (zzj ⟨rfl,rfl,rfl,trivial⟩ ⟨mrf rfl,trivial⟩ (fun R hR=>hR)) ?_
 rintro ⟨a,b⟩ ⟨hg,ha,hb⟩;conv=>whnf
 by_cases hb0 : b=0
 ·refine zac ((zpT b).trans (zz9 (by omega))) ?_;conv=>whnf
  refine zag ((ze4 b).trans (zz8 hb0)) ?_;conv=>whnf
  refine zaa ?_;rw [zdj,<-hg,hb0,zBd]
 refine zag ((zpT b).trans (zz8 hb0)) ?_;conv=>whnf
 have hstep : Nat.gcd b (a%b)=Nat.gcd X.natAbs Y.natAbs:=by rw [<-hg,zBb a b,zBc b a,zBb]
 have hlt : a%b<b:=zyl _ (by omega);have hlr:=zbo (zBw hlt);refine zaj ?_ ?_
 ·intro h;conv=>whnf
  refine zzt (zgX a b ha hb (by omega)) rfl ?_;conv=>whnf
  exact ⟨(b,a%b),⟨hstep,hb,by omega⟩,hlt,zzj ⟨rfl,rfl,rfl,trivial⟩ ⟨mrf rfl,trivial⟩ (fun R hR=>hR)⟩
 intro h;have ha7 : (bytes a).length<=7:=by
  have : ¬((bytes a).length : Int)>7:=zA1 h;omega
 conv=>whnf
 refine zaj ?_ ?_
 ·intro h;conv=>whnf
  refine zzt (zgX a b ha hb (by omega)) rfl ?_;conv=>whnf
  exact ⟨(b,a%b),⟨hstep,hb,by omega⟩,hlt,zzj ⟨rfl,rfl,rfl,trivial⟩ ⟨mrf rfl,trivial⟩ (fun R hR=>hR)⟩
 intro h;have hb7 : (bytes b).length<=7:=by
  have : ¬((bytes b).length : Int)>7:=zA1 h;omega
 conv=>whnf
 refine zac ((ze4 b).trans (zz9 hb0)) ?_;conv=>whnf
 refine zzt (zgm (bytes a) ha7) rfl ?_;rw [zap];conv=>whnf
 refine zzt (zgm (bytes b) hb7) rfl ?_;rw [zap];have a56:=nat7 ha7;have b56:=nat7 hb7;rw [zap] at a56 b56;conv=>whnf
 refine zal (ι:=Nat×Nat) (fun ⟨c,d⟩=>⟨[(4,.o (.p 4 0)),(9,.o (.v (.int .i64 c))),(10,.o (.v (.int .i64 d)))],[(4,.box [.v (.bool false),.v (.string ⟨#[]⟩)] zbG)],[]⟩)
  (fun ⟨c,d⟩=>Nat.gcd c d=Nat.gcd X.natAbs Y.natAbs/\c<9223372036854775808/\d<9223372036854775808) (fun ⟨c,d⟩=>d) (a,b) ⟨hg,by omega,by omega⟩ (zzj ⟨rfl,rfl,rfl,trivial⟩ ⟨mrf rfl,trivial⟩ (fun R hR=>hR)) ?_
 rintro ⟨c,d⟩ ⟨hg2,hc,hd⟩;conv=>whnf
 refine zaj ?_ ?_
 ·intro h;have hd0 : 0<d:=by
   have : (d : Int)>0:=zA0 h;omega
  have hlt2 : c%d<d:=zyl _ hd0;conv=>whnf
  refine zak.qk ?_;conv=>whnf
  refine ⟨by omega,?_⟩;conv=>whnf
  refine ⟨(d,c%d),⟨by rw [<-hg2,zBb c d,zBc d c,zBb],hd,by omega⟩,hlt2,zzj ⟨rfl,rfl,rfl,trivial⟩ ⟨mrf rfl,trivial⟩ (fun R hR=>hR)⟩
 ·intro h;have hd0 : d=0:=by
   have : ¬(d : Int)>0:=zA1 h;omega
  subst hd0;rw [zBd] at hg2;conv=>whnf
  refine zzt (zun c hc) rfl ?_;conv=>whnf
  refine zaa ?_;rw [zdj,<-hg2]
abbrev zBx:=@Nat.lt_succ_self
theorem zmn (l : List UInt8) (h1 : l.length<=7) : Fn PP 203 [.string (bs l)] (.int .i64 (nat l)):=by
 refine zzn zab mixed Tryz.func203 rfl rfl (zxW rfl) ?_;intro w;conv=>whnf
 refine zal (ι:=Nat×Nat) (fun ⟨i,v⟩=>⟨[(0,.o (.v (.string (bs l)))),(3,.o (.v (.int .i64 v))),(4,.o (.v (.int .i64 i)))],[],[]⟩)
  (fun ⟨i,v⟩=>i<=l.length/\v=nat (l.take i)) (fun ⟨i,v⟩=>l.length-i) (0,0) ⟨zyD _,rfl⟩ (zzj ⟨rfl,rfl,rfl,trivial⟩ trivial (fun R hR=>hR)) ?_
 rintro ⟨i,v⟩ ⟨hi,hv⟩;conv=>whnf
 refine zaj ?_ ?_
 ·intro h2;have hi2 : i<l.length:=by
   have : (i : Int)<(l.length : Int):=zA0 h2;omega
  conv=>whnf
  refine ⟨⟨by omega,by show (i : Int)<(l.length : Int); omega⟩,?_⟩;conv=>whnf
  obtain ⟨x,hx⟩ : ∃ x,x=l[i]:=⟨_,rfl⟩;have hg : l.getD i 0=x:=by rw [hx,zzO,zyy hi2]; rfl
  have htk : l.take (i+1)=l.take i++[x]:=by rw [zBa hi2,hx]
  have hnat : nat (l.take (i+1))=x.toNat+256*nat (l.take i):=by rw [htk,zdM]
  have hnb : nat (l.take i)<256 ^ 6:=za7 (by rw [zyI]; omega);have hxb : x.toNat<256:=x.toBitVec.isLt;refine ⟨(i+1,nat (l.take (i+1))),⟨by omega,rfl⟩,by show l.length-(i+1)<l.length-i; omega,zzj ⟨rfl,?_,zaq hi2 (by omega),trivial⟩ trivial (fun R hR=>hR)⟩;show some (SV.o (.v (.int .i64 (IntKind.i64.wrap (IntKind.i64.wrap (256*(v : Int))+IntKind.i64.wrap (sb (bs l) (i : Int)))))))=_;rw [zgP,zzS,hg,wrap_i64 (n:=(x.toNat : Int)) (by omega) (by omega),wrap_i64 (n:=256*(v : Int)) (by omega) (by omega),wrap_i64 (by omega) (by omega),hnat,hv,Int.natCast_add,zAG,Int.add_comm]; rfl
 ·intro h2;have hi2 : i=l.length:=by
   have : ¬(i : Int)<(l.length : Int):=zA1 h2;omega
  subst hi2;rw [zAq] at hv;subst hv;conv=>whnf
  exact zaa rfl
theorem zuR (j : Nat) : (2 : Nat) ^ (8*j)=256 ^ j:=by rw [Nat.pow_mul]
theorem zp3 (n j : Nat) (hj : j<=7) : Int.fdiv (n : Int) (2 ^ min (8*(j : Int)).toNat IntKind.i64.bits)=((n/256 ^ j : Nat) : Int):=by
 rw [show (8*(j : Int)).toNat=8*j by omega,zAs (show 8*j<=IntKind.i64.bits by show 8*j<=64; omega),zAO _ (by exact Int.pow_nonneg (by decide)),show ((2 : Int) ^ (8*j))=((256 ^ j : Nat) : Int) by rw [<-zuR]; exact (zAH 2 (8*j)).symm];rfl
theorem zn1 (n j : Nat) (h : 0<n/256 ^ j) : bytes (n/256 ^ j)=bytes (n/256 ^ (j+1))++[UInt8.ofNat (n/256 ^ j%256)]:=by
 rw [zeN h,zzD,zAt]
theorem zlW {x : Nat} : Value.int .u8 (IntKind.u8.wrap (x : Int))=.int .u8 ((UInt8.ofNat (x%256)).toNat : Int):=by rw [zny]
theorem zg5 (n : Nat) (h0 : 0<n) (hn : n<72057594037927936) : Fn PP 204 [.int .i64 n] (.string (bs (bytes n))):=by
 refine zzn zab mixed Tryz.func204 rfl rfl (zxW rfl) ?_;intro w;conv=>whnf
 refine zal (ι:=Nat×Int×List UInt8) (fun ⟨j,z,L⟩=>match L with
   | []=>⟨[(0,.o (.v (.int .i64 n))),(3,.o (.v (.slice none 0 0))),(4,.o (.v (.int .i64 z)))],[],[]⟩
   | x::l=>⟨[(0,.o (.v (.int .i64 n))),(3,.o (.w 1)),(4,.o (.v (.int .i64 z)))],[(1,.own zaO 1 (l.length+1) (rowV u8c (x::l)))],[]⟩)
  (fun ⟨j,z,L⟩=>j<=7/\z=8*(j : Int)-8/\L=bytes (n/256 ^ j)) (fun ⟨j,z,L⟩=>j) (7,48,[]) ⟨by decide,by decide,by rw [zzB (by omega),zaS]⟩ (zzj ⟨rfl,rfl,rfl,trivial⟩ trivial (fun R hR=>hR)) ?_
 rintro ⟨j1,z,L⟩ ⟨hj,hz,hL⟩;by_cases hz0 : 0<=z
 ·obtain ⟨j,rfl⟩ : ∃ j,j1=j+1:=⟨j1-1,by omega⟩;obtain rfl : z=8*(j : Int):=by omega
  have hf:=zp3 n j (by omega);have hw8 : IntKind.i64.wrap (8*(j : Int)-8)=8*(j : Int)-8:=wrap_i64 (by omega) (by omega);obtain ⟨N,hN⟩ : ∃ N,N=n/256 ^ j:=⟨_,rfl⟩;have hlow : n/256 ^ (j+1)=N/256:=by rw [hN,zzD,zAt]
  have hnx:=zn1 n j;rw [<-hN] at hf hnx;rw [<-hL] at hnx;have hrem : Int.tmod (Int.fdiv (n : Int) (2 ^ min (8*(j : Int)).toNat IntKind.i64.bits)) 256=((N%256 : Nat) : Int):=by rw [hf]; rfl
  rcases L with _ | ⟨x,L⟩
  ·have hN256 : N/256=0:=by rw [<-hlow]; exact zde.1 hL.symm
   conv=>whnf
   refine ⟨hz0,?_⟩;conv=>whnf
   refine ⟨by decide,?_⟩;conv=>whnf
   by_cases hd : N=0
   ·refine zac (zz9 (by rw [hrem,hd]; decide)) ?_;conv=>whnf
    refine ⟨(j,8*(j : Int)-8,[]),⟨by omega,rfl,by rw [<-hN,hd,zaS]⟩,zBx j,zzj ⟨rfl,rfl,?_,trivial⟩ trivial (fun R hR=>hR)⟩;show some (SV.o (.v (.int .i64 (IntKind.i64.wrap (8*(j : Int)-8)))))=_;rw [hw8]; rfl
   ·refine zag (zz8 (by rw [hrem,zye (by omega)]; omega)) ?_;conv=>whnf
    refine ⟨hz0,?_⟩;conv=>whnf
    refine ⟨by decide,?_⟩;conv=>whnf
    refine ⟨(j,8*(j : Int)-8,[UInt8.ofNat (N%256)]),⟨by omega,rfl,by rw [<-hN,hnx (by omega)]; rfl⟩,zBx j,zzi (fun _=>27) ⟨rfl,rfl,?_,trivial⟩ ⟨⟨_,rfl,?_⟩,trivial⟩ rfl (fun R hR=>hR)⟩
    ·show some (SV.o (.v (.int .i64 (IntKind.i64.wrap (8*(j : Int)-8)))))=_;rw [hw8]; rfl
    ·show MEle (ME.own zaO 1 1 [Value.int .u8 (IntKind.u8.wrap (Int.fdiv (n : Int) (2 ^ min (8*(j : Int)).toNat IntKind.i64.bits)))]) _;rw [hf,zlW]; exact .refl _
  ·have hNp : N≠0:=by
    intro h;rw [hlow,h,Nat.zero_div,zaS] at hL
    cases hL
   have hlen : L.length+1<=8:=by
    have h1:=zyr List.length hL;have h2:=zbo (zAe n (256 ^ (j+1)));have h3 : (bytes n).length<=7:=zbd (k:=7) (by simpa using hn);simp only [zxR] at h1;omega
   conv=>whnf
   refine ⟨hz0,?_⟩;conv=>whnf
   refine ⟨by decide,?_⟩;conv=>whnf
   refine zaj ?_ ?_
   ·intro _;conv=>whnf
    refine ⟨hz0,?_⟩;conv=>whnf
    refine ⟨by show L.length+1+1<=9223372036854775807/\(L.length+1+1)*1<=140737488355328; omega,?_⟩;conv=>whnf
    refine ⟨(j,8*(j : Int)-8,x::(L++[UInt8.ofNat (N%256)])),⟨by omega,rfl,by rw [<-hN,hnx (by omega)]; rfl⟩,zBx j,zzi (fun _=>27) ⟨rfl,rfl,?_,trivial⟩ ⟨⟨_,rfl,?_⟩,trivial⟩ rfl (fun R hR=>hR)⟩
    ·show some (SV.o (.v (.int .i64 (IntKind.i64.wrap (8*(j : Int)-8)))))=_;rw [hw8]; rfl
    ·show MEle (ME.own zaO 1 (L.length+1+1) (app (rowV u8c (x::L)) [Value.int .u8 (IntKind.u8.wrap (Int.fdiv (n : Int) (2 ^ min (8*(j : Int)).toNat IntKind.i64.bits)))])) (ME.own zaO 1 ((L++[UInt8.ofNat (N%256)]).length+1) (rowV u8c (x::(L++[UInt8.ofNat (N%256)]))));rw [hf,zlW,za4,zz2,show x::(L++[UInt8.ofNat (N%256)])=(x::L)++[UInt8.ofNat (N%256)] from rfl,zaE];exact .refl _
   ·intro _;conv=>whnf
    refine zag (zz8 (show ((L.length+1 : Nat) : Int)>0 by omega)) ?_;conv=>whnf
    refine ⟨hz0,?_⟩;conv=>whnf
    refine ⟨by show L.length+1+1<=9223372036854775807/\(L.length+1+1)*1<=140737488355328; omega,?_⟩;conv=>whnf
    refine ⟨(j,8*(j : Int)-8,x::(L++[UInt8.ofNat (N%256)])),⟨by omega,rfl,by rw [<-hN,hnx (by omega)]; rfl⟩,zBx j,zzi (fun _=>27) ⟨rfl,rfl,?_,trivial⟩ ⟨⟨_,rfl,?_⟩,trivial⟩ rfl (fun R hR=>hR)⟩
    ·show some (SV.o (.v (.int .i64 (IntKind.i64.wrap (8*(j : Int)-8)))))=_;rw [hw8]; rfl
    ·show MEle (ME.own zaO 1 (L.length+1+1) (app (rowV u8c (x::L)) [Value.int .u8 (IntKind.u8.wrap (Int.fdiv (n : Int) (2 ^ min (8*(j : Int)).toNat IntKind.i64.bits)))])) (ME.own zaO 1 ((L++[UInt8.ofNat (N%256)]).length+1) (rowV u8c (x::(L++[UInt8.ofNat (N%256)]))));rw [hf,zlW,za4,zz2,show x::(L++[UInt8.ofNat (N%256)])=(x::L)++[UInt8.ofNat (N%256)] from rfl,zaE];exact .refl _
 ·obtain rfl : j1=0:=by omega
  rw [Nat.pow_zero,Nat.div_one] at hL;rcases L with _ | ⟨x,L⟩
  ·have:=zde.1 hL.symm; omega
  ·conv=>whnf
   refine zac (zz9 (by omega)) ?_;conv=>whnf
   refine ⟨x::L,rfl,?_,?_⟩
   ·rw [zdZ]; exact zyJ (by simp [bytV])
   conv=>whnf
   rw [hL];exact zaa rfl
theorem zcM (r : Raw) : Fn PP 149 [rawV r] (mach r):=by
 refine zzn zab mixed Tryz.func149 rfl rfl (zxW rfl) ?_;intro w;conv=>whnf
 refine zaj ?_ ?_
 ·intro h;have h1 : ¬r.num.length<=3:=by
   have : ((r.num.length : Nat) : Int)>3:=zA0 h;omega
  conv=>whnf
  refine zar ?_;rw [mach,zxI (fun h=>h1 h.1)]
 intro h;have h1 : r.num.length<=3:=by
  have : ¬((r.num.length : Nat) : Int)>3:=zA1 h;omega
 conv=>whnf
 refine zaj ?_ ?_
 ·intro h;have h2 : ¬r.den.length<=3:=by
   have : ((r.den.length : Nat) : Int)>3:=zA0 h;omega
  conv=>whnf
  refine zar ?_;rw [mach,zxI (fun h=>h2 h.2)]
 intro h;have h2 : r.den.length<=3:=by
  have : ¬((r.den.length : Nat) : Int)>3:=zA1 h;omega
 have hnb : nat r.num<16777216:=za7 h1;have fin : mach r=.tuple #[.int .i64 r.n,.int .i64 (r.d : Int),.bool true]:=by rw [mach,zxJ ⟨h1,h2⟩]
 rw [fin];conv=>whnf
 refine zak.qk ?_;conv=>whnf
 refine zzu (zmn r.num (by omega)) rfl ?_;conv=>whnf
 refine zzu (zmn r.den (by omega)) rfl ?_;conv=>whnf
 have hneg : ∀ b : Bool,(b=true->IntKind.i64.wrap (0-(nat r.num : Int))=sg b (nat r.num)):=fun b hb=>by
  rw [hb,wrap_i64 (by omega) (by omega),Int.zero_sub]; rfl
 refine zaj ?_ ?_ <;> intro hd0
 ·have hd : r.d=1:=by
   have h3 : (nat r.den : Int)=0:=eq_of_beq hd0;unfold Raw.d dnm; rw [zxJ (by omega)]
  rw [hd];conv=>whnf
  refine zaj ?_ ?_ <;> intro hb
  ·conv=>whnf
   refine zar ?_;rw [hneg r.neg hb]; rfl
  ·conv=>whnf
   refine zar ?_;rw [Raw.n,hb]; rfl
 ·have hd : r.d=nat r.den:=by
   have h3 : ¬(nat r.den : Int)=0:=ne_of_beq_false hd0;unfold Raw.d dnm; rw [zxI (by omega)]
  rw [hd];conv=>whnf
  refine zaj ?_ ?_ <;> intro hb
  ·conv=>whnf
   refine zar ?_;rw [hneg r.neg hb]; rfl
  ·conv=>whnf
   refine zar ?_;rw [Raw.n,hb]; rfl
theorem zoU {n : Int} {d : Nat} (hd : 0<d) : (mkRat n d).num.natAbs=n.natAbs/Nat.gcd n.natAbs d:=by
 rw [zAb,zxI (by omega),zBb d,Int.natAbs_ediv_of_dvd (zBj.2 (Nat.gcd_dvd_left _ _)),zAi]
theorem zuv {n : Int} {d : Nat} (hd : 0<d) : (mkRat n d).den=d/Nat.gcd n.natAbs d:=by rw [zAd,zxI (by omega),zBb d]
theorem zw0 {n : Int} {d : Nat} (hd : 0<d) (D : List UInt8) (hD : D=if d/Nat.gcd n.natAbs d=1 then [] else bytes (d/Nat.gcd n.natAbs d)) :
  Value.agg ⟨[.bool (decide (n<0)),.string (bs (bytes (n.natAbs/Nat.gcd n.natAbs d))),.string (bs D)]⟩=qV (mkRat n d):=by
 rw [hD];simp only [qV,rawV,Q,zoU hd,zuv hd];rw [decide_eq_decide.2 (zs5 hd)]
theorem znQ {x y : Int} (h : x=y) : some (SV.o (.v (.int .i64 x)))=some (SV.o (.v (.int .i64 y))):=by rw [h]
theorem zrE (a b : Nat) : Int.tdiv (a : Int) (b : Int)=((a/b : Nat) : Int):=rfl
theorem zpU (n : Int) (d : Nat) (hn : n.natAbs<72057594037927936) (hd0 : 0<d) (hd : d<72057594037927936) : Fn PP 150 [.int .i64 n,.int .i64 (d : Int)] (qV (mkRat n d)):=by
 refine zzn zab mixed Tryz.func150 rfl rfl (zxW rfl) ?_;intro w;obtain ⟨a,ha⟩ : ∃ a,a=n.natAbs:=⟨_,rfl⟩;conv=>whnf
 have hq:=fun D hD=>zw0 (n:=n) hd0 D hD
 have hdv : Nat.gcd a d ∣ d:=zBk _ _;have hda : Nat.gcd a d ∣ a:=Nat.gcd_dvd_left _ _;rw [<-ha] at hn hq;refine zaj ?_ ?_ <;> intro hs
 ·have hneg : n<0:=zA0 hs;have hw : IntKind.i64.wrap (0-n)=(a : Int):=by rw [wrap_i64 (by omega) (by omega)]; omega
  have ha0 : 0<a:=by omega
  conv=>whnf
  refine zac (beq_false_of_ne (by rw [hw]; omega)) ?_;conv=>whnf
  refine zal (ι:=Nat×Nat) (fun ⟨c,e⟩=>⟨[(0,.o (.v (.int .i64 a))),(1,.o (.v (.int .i64 d))),(4,.o (.p 4 0)),(5,.o (.p 5 0)),(6,.o (.v (.int .i64 c))),(7,.o (.v (.int .i64 e)))],[(4,.box [.v (.bool false),.v (.string ⟨#[]⟩),.v (.string ⟨#[]⟩)] zat),(5,.box [.v (.bool (decide (n<0))),.v (.string ⟨#[]⟩),.v (.string ⟨#[]⟩)] zat)],[]⟩)
   (fun ⟨c,e⟩=>Nat.gcd c e=Nat.gcd a d/\c<72057594037927936/\e<72057594037927936) (fun ⟨c,e⟩=>e) (a,d) ⟨rfl,hn,hd⟩ (zzj ⟨(znQ hw),rfl,rfl,rfl,(znQ hw),rfl,trivial⟩ ⟨mrf rfl,mrf rfl,trivial⟩ (fun R hR=>hR)) ?_
  rintro ⟨c,e⟩ ⟨hg,hc,he⟩;conv=>whnf
  refine zaj ?_ ?_
  ·intro h;have he0 : 0<e:=by
    have : (e : Int)>0:=zA0 h;omega
   have hlt2 : c%e<e:=zyl _ he0;conv=>whnf
   refine zak.qk ?_;conv=>whnf
   refine ⟨by omega,?_⟩;conv=>whnf
   exact ⟨(e,c%e),⟨by rw [<-hg,zBb c e,zBc e c,zBb],he,by omega⟩,hlt2,zzj ⟨rfl,rfl,rfl,rfl,rfl,rfl,trivial⟩ ⟨mrf rfl,mrf rfl,trivial⟩ (fun R hR=>hR)⟩
  intro h;have he0 : e=0:=by
   have : ¬(e : Int)>0:=zA1 h;omega
  subst he0;rw [zBd] at hg;rw [<-hg] at hdv hda hq;have w1 : IntKind.i64.wrap (Int.tdiv (a : Int) (c : Int))=((a/c : Nat) : Int):=by rw [zrE]; exact zlv (zAc (zAe _ _) (by omega))
  have w2 : IntKind.i64.wrap (Int.tdiv (d : Int) (c : Int))=((d/c : Nat) : Int):=by rw [zrE]; exact zlv (zAc (zAe _ _) (by omega))
  have hcp : 0<c:=Nat.pos_of_dvd_of_pos hdv hd0;conv=>whnf
  refine ⟨by omega,?_⟩;conv=>whnf
  refine zzt (zg5 (a/c) (zzC (Nat.le_of_dvd ha0 hda) hcp) (zAc (zAe _ _) hn)) (zyr (fun z=>[SV.o (.v (.int .i64 z))]) w1) ?_;conv=>whnf
  refine ⟨by omega,?_⟩;conv=>whnf
  by_cases h1 : d/c=1
  ·refine zac (zz9 (by rw [w2,h1]; decide)) ?_;conv=>whnf
   refine zaa ?_;exact hq [] (by rw [zxJ h1])
  ·have hdc:=zzC (Nat.le_of_dvd hd0 hdv) hcp;refine zag (zz8 (by rw [w2]; omega)) ?_;conv=>whnf
   refine ⟨by omega,?_⟩;conv=>whnf
   refine zzt (zg5 (d/c) hdc (zAc (zAe _ _) hd)) (zyr (fun z=>[SV.o (.v (.int .i64 z))]) w2) ?_;conv=>whnf
   refine zaa ?_;exact hq _ (by rw [zxI h1])
 ·have hpos : ¬n<0:=zA1 hs;obtain rfl : n=(a : Int):=by omega
  conv=>whnf
  by_cases h0 : a=0
  ·refine zag (zyY.2 (show (a : Int)=0 by omega)) ?_;conv=>whnf
   refine zaa ?_;rw [h0,show ((0 : Nat) : Int)=0 from rfl,Rat.zero_mkRat,q0]
  have ha0 : 0<a:=by omega
  refine zac (beq_false_of_ne (show ¬(a : Int)=0 by omega)) ?_;conv=>whnf
  refine zal (ι:=Nat×Nat) (fun ⟨c,e⟩=>⟨[(0,.o (.v (.int .i64 a))),(1,.o (.v (.int .i64 d))),(4,.o (.p 4 0)),(5,.o (.p 5 0)),(6,.o (.v (.int .i64 c))),(7,.o (.v (.int .i64 e)))],[(4,.box [.v (.bool false),.v (.string ⟨#[]⟩),.v (.string ⟨#[]⟩)] zat),(5,.box [.v (.bool (decide ((a : Int)<0))),.v (.string ⟨#[]⟩),.v (.string ⟨#[]⟩)] zat)],[]⟩)
   (fun ⟨c,e⟩=>Nat.gcd c e=Nat.gcd a d/\c<72057594037927936/\e<72057594037927936) (fun ⟨c,e⟩=>e) (a,d) ⟨rfl,hn,hd⟩ (zzj ⟨rfl,rfl,rfl,rfl,rfl,rfl,trivial⟩ ⟨mrf rfl,mrf rfl,trivial⟩ (fun R hR=>hR)) ?_
  rintro ⟨c,e⟩ ⟨hg,hc,he⟩;conv=>whnf
  refine zaj ?_ ?_
  ·intro h;have he0 : 0<e:=by
    have : (e : Int)>0:=zA0 h;omega
   have hlt2 : c%e<e:=zyl _ he0;conv=>whnf
   refine zak.qk ?_;conv=>whnf
   refine ⟨by omega,?_⟩;conv=>whnf
   exact ⟨(e,c%e),⟨by rw [<-hg,zBb c e,zBc e c,zBb],he,by omega⟩,hlt2,zzj ⟨rfl,rfl,rfl,rfl,rfl,rfl,trivial⟩ ⟨mrf rfl,mrf rfl,trivial⟩ (fun R hR=>hR)⟩
  intro h;have he0 : e=0:=by
   have : ¬(e : Int)>0:=zA1 h;omega
  subst he0;rw [zBd] at hg;rw [<-hg] at hdv hda hq;have w1 : IntKind.i64.wrap (Int.tdiv (a : Int) (c : Int))=((a/c : Nat) : Int):=by rw [zrE]; exact zlv (zAc (zAe _ _) (by omega))
  have w2 : IntKind.i64.wrap (Int.tdiv (d : Int) (c : Int))=((d/c : Nat) : Int):=by rw [zrE]; exact zlv (zAc (zAe _ _) (by omega))
  have hcp : 0<c:=Nat.pos_of_dvd_of_pos hdv hd0;conv=>whnf
  refine ⟨by omega,?_⟩;conv=>whnf
  refine zzt (zg5 (a/c) (zzC (Nat.le_of_dvd ha0 hda) hcp) (zAc (zAe _ _) hn)) (zyr (fun z=>[SV.o (.v (.int .i64 z))]) w1) ?_;conv=>whnf
  refine ⟨by omega,?_⟩;conv=>whnf
  by_cases h1 : d/c=1
  ·refine zac (zz9 (by rw [w2,h1]; decide)) ?_;conv=>whnf
   refine zaa ?_;exact hq [] (by rw [zxJ h1])
  ·have hdc:=zzC (Nat.le_of_dvd hd0 hdv) hcp;refine zag (zz8 (by rw [w2]; omega)) ?_;conv=>whnf
   refine ⟨by omega,?_⟩;conv=>whnf
   refine zzt (zg5 (d/c) hdc (zAc (zAe _ _) hd)) (zyr (fun z=>[SV.o (.v (.int .i64 z))]) w2) ?_;conv=>whnf
   refine zaa ?_;exact hq _ (by rw [zxI h1])
theorem zlQ (b : Bool) (l : List UInt8) (hl : l.length<=500000000) : Fn PP 201 [intV b (bs l),intV false ⟨#[]⟩] (zV (sg b (nat l))):=by
 have:=zwa b false l [] hl (by decide);rw [zdS,show sg false 0=0 from rfl,Int.add_zero] at this;exact this
theorem zpW (x : Int) (hl : (bytes x.natAbs).length<=500000000) : Fn PP 201 [zV x,intV false ⟨#[]⟩] (zV x):=by
 have:=zlQ (decide (x<0)) (bytes x.natAbs) hl;rw [zap,sg_z] at this;exact this
theorem zem (r : Raw) (hr : r.sm 500000000) : Fn PP 151 [rawV r] (.tuple #[zV r.n,zV (r.d : Int)]):=by
 refine zzn zab mixed Tryz.func151 rfl rfl (zxW rfl) ?_;intro w;conv=>whnf
 refine zzt (zlQ r.neg r.num hr.1) rfl ?_;conv=>whnf
 refine zzt (zlQ false r.den hr.2) rfl ?_;rw [show sg r.neg (nat r.num)=r.n from rfl,show sg false (nat r.den)=((nat r.den : Nat) : Int) from rfl];conv=>whnf
 by_cases h0 : nat r.den=0
 ·have hd : r.d=1:=by unfold Raw.d dnm; rw [zxJ h0]
  rw [hd];refine zag ((zd4 (nat r.den : Int)).trans (zz8 (by omega))) ?_;conv=>whnf
  refine zzt (r_Of 1 (by decide) (by decide)) rfl ?_;conv=>whnf
  refine zy4 [(2,2,[1])] (by kernel_rfl) ?_;conv=>whnf
  exact zau rfl
 ·have hd : r.d=nat r.den:=by unfold Raw.d dnm; rw [zxI h0]
  rw [hd];refine zac ((zd4 (nat r.den : Int)).trans (zz9 (by omega))) ?_;conv=>whnf
  refine zy4 [(2,2,[1])] (by kernel_rfl) ?_;conv=>whnf
  exact zau rfl
theorem zqS (m : Nat) : (!((bs (bytes m)).toList==ByteArray.toList ⟨#[1]⟩))=decide (m≠1):=by
 have h1 : ByteArray.toList ⟨#[1]⟩=bytes 1:=by decide +kernel
 rw [zbs,h1];by_cases h : m=1
 ·subst h; simp
 ·have : ¬bytes m=bytes 1:=fun h2=>h (zki h2)
  simp [h,this]
theorem zg2 (X : Int) (D : Nat) (hX : (bytes X.natAbs).length<=300000000) (hD : (bytes D).length<=300000000) (h0 : 0<D) : Fn PP 152 [zV X,zV (D : Int)] (qV (mkRat X D)):=by
 refine zzn zab mixed Tryz.func152 rfl rfl (zxW rfl) ?_;intro w;conv=>whnf
 refine zak.qk ?_;conv=>whnf
 refine zzu (zpW X (by omega)) rfl ?_;conv=>whnf
 refine zzu (zpW (D : Int) (by rw [zAi]; omega)) rfl ?_;conv=>whnf
 by_cases hx0 : X=0
 ·refine zag ((zd4 X).trans (zz8 hx0)) ?_;conv=>whnf
  refine zaa ?_;rw [hx0,Rat.zero_mkRat,q0]
 refine zac ((zd4 X).trans (zz9 hx0)) ?_;conv=>whnf
 refine zzt (zvi X (D : Int) hX (by rw [zAi]; exact hD)) rfl ?_;rw [zAi];obtain ⟨G,hG⟩ : ∃ G,G=Nat.gcd X.natAbs D:=⟨_,rfl⟩;rw [<-hG];have hGp : 0<G:=by rw [hG]; exact Nat.gcd_pos_of_pos_right _ h0
 have hGl : (bytes ((G : Int)).natAbs).length<=300000000:=by
  rw [zAi];exact zxs (zbo (by rw [hG]; exact Nat.gcd_le_right _ h0)) hD
 conv=>whnf
 have d1:=ztl X (G : Int) hX hGl;rw [zxI (by omega),show X.fdiv (G : Int)=(mkRat X D).num by rw [zsS h0,<-hG]] at d1;refine zzt d1 rfl ?_;conv=>whnf
 have d2:=ztl (D : Int) (G : Int) (by rw [zAi]; exact hD) hGl;rw [zxI (by omega),show (D : Int).fdiv (G : Int)=((mkRat X D).den : Int) by rw [zsQ h0,<-hG]] at d2;refine zzt d2 rfl ?_;conv=>whnf
 have hres : ∀ d : List UInt8,d=(if (mkRat X D).den=1 then [] else bytes (mkRat X D).den)->(Value.agg ⟨[.bool (decide ((mkRat X D).num<0)),.string (bs (bytes (mkRat X D).num.natAbs)),.string (bs d)]⟩)=qV (mkRat X D):=by
  intro d hd;rw [hd];simp only [qV,rawV,Q,zdb]
 by_cases h1 : (mkRat X D).den=1
 ·refine zac ((zqS _).trans (zz9 (by rw [zAi]; omega))) ?_;conv=>whnf
  refine zaa ?_;exact hres [] (by rw [zxJ h1])
 ·refine zag ((zqS _).trans (zz8 (by rw [zAi]; omega))) ?_;conv=>whnf
  refine zaa ?_;exact hres _ (by rw [zxI h1,zAi])
theorem zcI (r : Raw) : (r.little/\mach r=.tuple #[.int .i64 r.n,.int .i64 (r.d : Int),.bool true])\/mach r=.tuple #[.int .i64 0,.int .i64 0,.bool false]:=by
 by_cases h : r.num.length<=3/\r.den.length<=3
 ·exact .inl ⟨h,by rw [mach,zxJ h]⟩
 ·exact .inr (by rw [mach,zxI h])
theorem Raw.big5 {r : Raw} (hr : r.sm KK) : r.sm 500000000:=⟨zxs hr.1 (by decide),zxs hr.2 (by decide)⟩
abbrev zBy:=@Raw.big5
theorem little_n {r : Raw} (h : r.little) : r.n.natAbs<16777216:=Raw.n_bound (k:=3) h.1
theorem little_d {r : Raw} (h : r.little) : r.d<16777216:=Raw.d_bound (k:=3) (by decide) h.2
theorem mulN {a b : Int} (ha : a.natAbs<16777216) (hb : b.natAbs<16777216) : (a*b).natAbs<281474976710656:=by
 have:=zbZ (k:=3) (m:=3) (by simpa using ha) (by simpa using hb);rw [zAh]; simpa using this
theorem zt4 {a b : Nat} (ha : a<16777216) (hb : b<16777216) : a*b<281474976710656:=by
 have:=zbZ (k:=3) (m:=3) (a:=a) (b:=b) (by simpa using ha) (by simpa using hb);simpa using this
theorem znG (r : Raw) (hr : r.sm KK) : Fn PP 166 [rawV r] (qV r.v):=by
 refine zzn zab mixed Tryz.func166 rfl rfl (zxW rfl) ?_;intro w;conv=>whnf
 refine zzt (zcM r) rfl ?_;rcases zcI r with ⟨hl,hm⟩ | hm
 ·have h1:=little_n hl;have h2:=little_d hl;rw [hm];conv=>whnf
  refine zzt (zpU r.n r.d (by omega) r.d_pos (by omega)) rfl ?_;conv=>whnf
  exact zaa rfl
 ·rw [hm];conv=>whnf
  refine zzt (zem r (zBy hr)) rfl ?_;conv=>whnf
  refine zzt (zg2 r.n r.d (zxs (ze2 (zcD hr)) (by decide)) (by have:=ze2 (zcU hr); rw [zl,zAi] at this; exact zxs this (by decide)) r.d_pos) rfl ?_;conv=>whnf
  exact zaa rfl
theorem zvI (n : Int) (h1 : -9223372036854775808<=n) (h2 : n<=9223372036854775807) : Fn PP 148 [.int .i64 n] (qV (n : Rat)):=by
 refine zzn zab mixed Tryz.func148 rfl rfl (zxW rfl) ?_;intro w;conv=>whnf
 refine zzt (r_Of n h1 h2) rfl ?_;conv=>whnf
 refine zzt (r_Of 1 (by decide) (by decide)) rfl ?_;conv=>whnf
 refine zzt (zg2 n 1 (zxs (zbd (k:=8) (by omega)) (by decide)) (by decide +kernel) (by decide)) rfl ?_;conv=>whnf
 refine zaa ?_;rw [zs9]
theorem znt (r : Raw) (hr : r.sm KK) : Fn PP 169 [rawV r] (qV (-r.v)):=by
 refine zzn zab mixed Tryz.func169 rfl rfl (zxW rfl) ?_;intro w;conv=>whnf
 refine zzt (znG r.opp (zBp hr)) rfl ?_;conv=>whnf
 refine zaa ?_;rw [Raw.opp_v]
theorem zvv {r s : Raw} (hr : r.sm KK) (hs : s.sm KK) : (bytes (r.d*s.d)).length<=300000000:=by
 have:=ze2 (zcB (zcU hr) (zcU hs));rw [zl,dnat] at this;exact zxs this (by decide)
theorem z1 {x : Int} {k : Nat} (h : x.natAbs<256 ^ k) (m : Nat) (hk : k<=m) : (bytes x.natAbs).length<=m:=zxs (ze2 h) hk
theorem zmO (r s : Raw) (hr : r.sm KK) (hs : s.sm KK) : Fn PP 147 [rawV r,rawV s] (qV (r.v+s.v)):=by
 refine zzn zab mixed Tryz.func147 rfl rfl (zxW rfl) ?_;intro w;have b1:=zcB (zcD hr) (zcU hs);have b2:=zcB (zcD hs) (zcU hr);have b3:=zms b1 b2;have b5:=zcB (zcD hr) (zcD hs);have q1:=zcD hr;have q2:=zcU hr;have q3:=zcD hs;have q4:=zcU hs;conv=>whnf
 refine zzt (zcM r) rfl ?_;have hc : (r.little/\s.little/\mach r=.tuple #[.int .i64 r.n,.int .i64 (r.d : Int),.bool true]/\mach s=.tuple #[.int .i64 s.n,.int .i64 (s.d : Int),.bool true])\/(∃ x y,mach r=.tuple #[.int .i64 x,.int .i64 y,.bool true]/\mach s=.tuple #[.int .i64 0,.int .i64 0,.bool false])\/(∃ x y b,mach r=.tuple #[.int .i64 0,.int .i64 0,.bool false]/\mach s=.tuple #[.int .i64 x,.int .i64 y,.bool b]):=by
   rcases zcI r with ⟨h1,h2⟩ | h2 <;> rcases zcI s with ⟨h3,h4⟩ | h4
   · exact .inl ⟨h1,h3,h2,h4⟩
   · exact .inr (.inl ⟨_,_,h2,h4⟩)
   · exact .inr (.inr ⟨_,_,_,h2,h4⟩)
   · exact .inr (.inr ⟨_,_,_,h2,h4⟩)
 rcases hc with ⟨l1,l2,m1,m2⟩ | hc
 · have e1:=little_n l1;have e2:=little_d l1;have e3:=little_n l2;have e4:=little_d l2;have g1:=mulN e1 (b:=(s.d : Int)) (by omega);have g2:=mulN e3 (b:=(r.d : Int)) (by omega);have g3:=zt4 e2 e4;have g4:=mulN e1 e3;have w1 : IntKind.i64.wrap (r.n*(s.d : Int))=r.n*(s.d : Int):=wrap_i64 (by omega) (by omega);have w2 : IntKind.i64.wrap (s.n*(r.d : Int))=s.n*(r.d : Int):=wrap_i64 (by omega) (by omega);have w3 : IntKind.i64.wrap ((r.d : Int)*(s.d : Int))=((r.d*s.d : Nat) : Int):=by rw [zAG]; rw [<-zAG]; exact zlv (by omega)
   have w4 : IntKind.i64.wrap (r.n*s.n)=r.n*s.n:=wrap_i64 (by omega) (by omega);have w5 : IntKind.i64.wrap (r.n*(s.d : Int)+s.n*(r.d : Int))=r.n*(s.d : Int)+s.n*(r.d : Int):=wrap_i64 (by omega) (by omega);rw [m1];conv=>whnf
   refine zzt (zcM s) rfl ?_;rw [m2];conv=>whnf
   refine zzt (zpU (r.n*(s.d : Int)+s.n*(r.d : Int)) (r.d*s.d) (by omega) (zyN r.d_pos s.d_pos) (by omega)) (by
     show [SV.o (.v (.int .i64 (IntKind.i64.wrap (IntKind.i64.wrap (r.n*(s.d : Int))+IntKind.i64.wrap (s.n*(r.d : Int)))))),SV.o (.v (.int .i64 (IntKind.i64.wrap ((r.d : Int)*(s.d : Int)))))]=_;rw [w1,w2,w3,w5]; rfl) ?_
   conv=>whnf
   refine zaa ?_;rw [Raw.v,Raw.v,zBl _ _ r.d_ne s.d_ne]
 rcases hc with ⟨x,y,m1,m2⟩ | ⟨x,y,b,m1,m2⟩
 all_goals
   rw [m1];conv=>whnf
   refine zzt (zcM s) rfl ?_;rw [m2];conv=>whnf
   refine zzt (zem r (zBy hr)) rfl ?_;conv=>whnf
   refine zzt (zem s (zBy hs)) rfl ?_;conv=>whnf
   refine zak.qk ?_;conv=>whnf
   refine zzu (zhK r.n s.d (z1 q1 _ (by decide)) (z1 q4 _ (by decide))) rfl ?_;conv=>whnf
   refine zzu (zhK s.n r.d (z1 q3 _ (by decide)) (z1 q2 _ (by decide))) rfl ?_;conv=>whnf
   refine zzu (zsV (r.n*s.d) (s.n*r.d) (z1 b1 _ (by decide)) (z1 b2 _ (by decide))) rfl ?_;conv=>whnf
   refine zzu (zhK r.d s.d (z1 q2 _ (by decide)) (z1 q4 _ (by decide))) rfl ?_;rw [<-zAG];conv=>whnf
   refine zzu (zg2 (r.n*s.d+s.n*r.d) (r.d*s.d) (z1 b3 _ (by decide)) (zvv hr hs) (zyN r.d_pos s.d_pos)) rfl ?_;conv=>whnf
   refine zaa ?_;rw [Raw.v,Raw.v,zBl _ _ r.d_ne s.d_ne]
theorem ziD (r s : Raw) (hr : r.sm KK) (hs : s.sm KK) : Fn PP 81 [rawV r,rawV s] (qV (r.v*s.v)):=by
 refine zzn zab mixed Tryz.func81 rfl rfl (zxW rfl) ?_;intro w;have b1:=zcB (zcD hr) (zcU hs);have b2:=zcB (zcD hs) (zcU hr);have b3:=zms b1 b2;have b5:=zcB (zcD hr) (zcD hs);have q1:=zcD hr;have q2:=zcU hr;have q3:=zcD hs;have q4:=zcU hs;conv=>whnf
 refine zzt (zcM r) rfl ?_;have hc : (r.little/\s.little/\mach r=.tuple #[.int .i64 r.n,.int .i64 (r.d : Int),.bool true]/\mach s=.tuple #[.int .i64 s.n,.int .i64 (s.d : Int),.bool true])\/(∃ x y,mach r=.tuple #[.int .i64 x,.int .i64 y,.bool true]/\mach s=.tuple #[.int .i64 0,.int .i64 0,.bool false])\/(∃ x y b,mach r=.tuple #[.int .i64 0,.int .i64 0,.bool false]/\mach s=.tuple #[.int .i64 x,.int .i64 y,.bool b]):=by
   rcases zcI r with ⟨h1,h2⟩ | h2 <;> rcases zcI s with ⟨h3,h4⟩ | h4
   · exact .inl ⟨h1,h3,h2,h4⟩
   · exact .inr (.inl ⟨_,_,h2,h4⟩)
   · exact .inr (.inr ⟨_,_,_,h2,h4⟩)
   · exact .inr (.inr ⟨_,_,_,h2,h4⟩)
 rcases hc with ⟨l1,l2,m1,m2⟩ | hc
 · have e1:=little_n l1;have e2:=little_d l1;have e3:=little_n l2;have e4:=little_d l2;have g1:=mulN e1 (b:=(s.d : Int)) (by omega);have g2:=mulN e3 (b:=(r.d : Int)) (by omega);have g3:=zt4 e2 e4;have g4:=mulN e1 e3;have w1 : IntKind.i64.wrap (r.n*(s.d : Int))=r.n*(s.d : Int):=wrap_i64 (by omega) (by omega);have w2 : IntKind.i64.wrap (s.n*(r.d : Int))=s.n*(r.d : Int):=wrap_i64 (by omega) (by omega);have w3 : IntKind.i64.wrap ((r.d : Int)*(s.d : Int))=((r.d*s.d : Nat) : Int):=by rw [zAG]; rw [<-zAG]; exact zlv (by omega)
   have w4 : IntKind.i64.wrap (r.n*s.n)=r.n*s.n:=wrap_i64 (by omega) (by omega);have w5 : IntKind.i64.wrap (r.n*(s.d : Int)+s.n*(r.d : Int))=r.n*(s.d : Int)+s.n*(r.d : Int):=wrap_i64 (by omega) (by omega);rw [m1];conv=>whnf
   refine zzt (zcM s) rfl ?_;rw [m2];conv=>whnf
   refine zzt (zpU (r.n*s.n) (r.d*s.d) (by omega) (zyN r.d_pos s.d_pos) (by omega)) (by
     show [SV.o (.v (.int .i64 (IntKind.i64.wrap (r.n*s.n)))),SV.o (.v (.int .i64 (IntKind.i64.wrap ((r.d : Int)*(s.d : Int)))))]=_;rw [w4,w3]; rfl) ?_
   conv=>whnf
   refine zaa ?_;rw [Raw.v,Raw.v,zBm]
 rcases hc with ⟨x,y,m1,m2⟩ | ⟨x,y,b,m1,m2⟩
 all_goals
   rw [m1];conv=>whnf
   refine zzt (zcM s) rfl ?_;rw [m2];conv=>whnf
   refine zzt (zem r (zBy hr)) rfl ?_;conv=>whnf
   refine zzt (zem s (zBy hs)) rfl ?_;conv=>whnf
   refine zak.qk ?_;conv=>whnf
   refine zzu (zhK r.n s.n (z1 q1 _ (by decide)) (z1 q3 _ (by decide))) rfl ?_;conv=>whnf
   refine zzu (zhK r.d s.d (z1 q2 _ (by decide)) (z1 q4 _ (by decide))) rfl ?_;rw [<-zAG];conv=>whnf
   refine zzu (zg2 (r.n*s.n) (r.d*s.d) (z1 b5 _ (by decide)) (zvv hr hs) (zyN r.d_pos s.d_pos)) rfl ?_;conv=>whnf
   refine zaa ?_;rw [Raw.v,Raw.v,zBm]
theorem za2 (r s : Raw) (hr : r.sm KK) (hs : s.sm KK) : Fn PP 95 [rawV r,rawV s] (.int .i64 (cmpQ r.v s.v)):=by
 refine zzn zab mixed Tryz.func95 rfl rfl (zxW rfl) ?_;intro w;have b1:=zcB (zcD hr) (zcU hs);have b2:=zcB (zcD hs) (zcU hr);have b3:=zms b1 b2;have b5:=zcB (zcD hr) (zcD hs);have q1:=zcD hr;have q2:=zcU hr;have q3:=zcD hs;have q4:=zcU hs;conv=>whnf
 refine zzt (zcM r) rfl ?_;have hc : (r.little/\s.little/\mach r=.tuple #[.int .i64 r.n,.int .i64 (r.d : Int),.bool true]/\mach s=.tuple #[.int .i64 s.n,.int .i64 (s.d : Int),.bool true])\/(∃ x y,mach r=.tuple #[.int .i64 x,.int .i64 y,.bool true]/\mach s=.tuple #[.int .i64 0,.int .i64 0,.bool false])\/(∃ x y b,mach r=.tuple #[.int .i64 0,.int .i64 0,.bool false]/\mach s=.tuple #[.int .i64 x,.int .i64 y,.bool b]):=by
  rcases zcI r with ⟨h1,h2⟩ | h2 <;> rcases zcI s with ⟨h3,h4⟩ | h4
  ·exact .inl ⟨h1,h3,h2,h4⟩
  ·exact .inr (.inl ⟨_,_,h2,h4⟩)
  ·exact .inr (.inr ⟨_,_,_,h2,h4⟩)
  ·exact .inr (.inr ⟨_,_,_,h2,h4⟩)
 rcases hc with ⟨l1,l2,m1,m2⟩ | hc
 ·have e1:=little_n l1;have e2:=little_d l1;have e3:=little_n l2;have e4:=little_d l2;have g1:=mulN e1 (b:=(s.d : Int)) (by omega);have g2:=mulN e3 (b:=(r.d : Int)) (by omega);have g3:=zt4 e2 e4;have g4:=mulN e1 e3;have w1 : IntKind.i64.wrap (r.n*(s.d : Int))=r.n*(s.d : Int):=wrap_i64 (by omega) (by omega);have w2 : IntKind.i64.wrap (s.n*(r.d : Int))=s.n*(r.d : Int):=wrap_i64 (by omega) (by omega);have w3 : IntKind.i64.wrap ((r.d : Int)*(s.d : Int))=((r.d*s.d : Nat) : Int):=by rw [zAG]; rw [<-zAG]; exact zlv (by omega)
  have w4 : IntKind.i64.wrap (r.n*s.n)=r.n*s.n:=wrap_i64 (by omega) (by omega);have w5 : IntKind.i64.wrap (r.n*(s.d : Int)+s.n*(r.d : Int))=r.n*(s.d : Int)+s.n*(r.d : Int):=wrap_i64 (by omega) (by omega);rw [m1];conv=>whnf
  refine zzt (zcM s) rfl ?_;rw [m2];conv=>whnf
  rw [zf5];rcases Int.lt_trichotomy (r.n*(s.d : Int)) (s.n*(r.d : Int)) with h | h | h
  ·refine zag (zz8 (by rw [w1,w2]; exact h)) ?_;conv=>whnf
   refine zaa ?_;rw [zge h]
  ·refine zac (zz9 (by rw [w1,w2]; omega)) ?_;conv=>whnf
   refine zac (zz9 (by rw [w1,w2]; omega)) ?_;conv=>whnf
   refine zaa ?_;rw [zht.2 h]
  ·refine zac (zz9 (by rw [w1,w2]; omega)) ?_;conv=>whnf
   refine zag (zz8 (by rw [w1,w2]; omega)) ?_;conv=>whnf
   refine zaa ?_;rw [zgk h]
 rcases hc with ⟨x,y,m1,m2⟩ | ⟨x,y,b,m1,m2⟩
 all_goals
  rw [m1];conv=>whnf
  refine zzt (zcM s) rfl ?_;rw [m2];conv=>whnf
  refine zzt (zem r (zBy hr)) rfl ?_;conv=>whnf
  refine zzt (zem s (zBy hs)) rfl ?_;conv=>whnf
  refine zak.qk ?_;conv=>whnf
  refine zzu (zhK r.n s.d (z1 q1 _ (by decide)) (z1 q4 _ (by decide))) rfl ?_;conv=>whnf
  refine zzu (zhK s.n r.d (z1 q3 _ (by decide)) (z1 q2 _ (by decide))) rfl ?_;conv=>whnf
  refine zzu (zoa (r.n*s.d) (s.n*r.d)) rfl ?_;conv=>whnf
  refine zaa ?_;rw [zf5]
theorem zex (r s : Raw) (hr : r.sm KK) (hs : s.sm KK) : Fn PP 82 [rawV r,rawV s] (qV (r.v-s.v)):=by
 refine zzn zab mixed Tryz.func82 rfl rfl (zxW rfl) ?_;intro w;conv=>whnf
 refine zzt (zmO r s.opp hr (zBp hs)) rfl ?_;conv=>whnf
 refine zaa ?_;rw [Raw.opp_v,zAj]
theorem zho (r : Raw) (hr : r.sm KK) : Fn PP 175 [rawV r] (.int .i64 (cmpQ r.v 0)):=by
 refine zzn zab mixed Tryz.func175 rfl rfl (zxW rfl) ?_;intro w;conv=>whnf
 refine zzt (za2 r ⟨false,[],[]⟩ hr ⟨by decide,by decide⟩) rfl ?_;rw [Raw.zero_v];conv=>whnf
 exact zaa rfl
theorem zv8 {n : Int} (h : n≠0) (d : Nat) (hd : 0<d) : mkRat (sg (decide (n<0)) d) n.natAbs=(mkRat n d)⁻¹:=by
 rw [<-zBq,<-zBq,Rat.inv_divInt];rcases Int.lt_or_le n 0 with h1 | h1
 ·rw [zz8 h1,show ((n.natAbs : Nat) : Int)=-n by omega];show Rat.divInt (-(d : Int)) (-n)=_;exact Rat.neg_divInt_neg _ _
 ·rw [zz9 (by omega),show ((n.natAbs : Nat) : Int)=n by omega]; rfl
theorem zkt (r s : Raw) (hr : r.sm KK) (hs : s.sm KK) : Fn PP 146 [rawV r,rawV s] (quoV r.v s.v):=by
 refine zzn zab mixed Tryz.func146 rfl rfl (zxW rfl) ?_;intro w;have q3:=zcD hs;have q4:=zcU hs;conv=>whnf
 refine zzt (zem s (zBy hs)) rfl ?_;conv=>whnf
 by_cases h : s.n=0
 ·refine zag ((zd4 s.n).trans (zz8 h)) ?_;conv=>whnf
  refine zau ?_;rw [quoV,zxJ ((zi9 s).2 h),q0]
 ·refine zac ((zd4 s.n).trans (zz9 h)) ?_;conv=>whnf
  have hin : (⟨decide (s.n<0),bytes (s.d : Int).natAbs,bytes s.n.natAbs⟩ : Raw).v=s.v⁻¹:=by
   have e1 : (⟨decide (s.n<0),bytes (s.d : Int).natAbs,bytes s.n.natAbs⟩ : Raw).n=sg (decide (s.n<0)) s.d:=by
    show sg _ (nat (bytes (s.d : Int).natAbs))=_;rw [zap,zAi]
   have e2 : (⟨decide (s.n<0),bytes (s.d : Int).natAbs,bytes s.n.natAbs⟩ : Raw).d=s.n.natAbs:=by
    show dnm (nat (bytes s.n.natAbs))=_;rw [zap,dnm,zxI (by omega)]
   rw [Raw.v,e1,e2,zv8 h s.d s.d_pos]; rfl
  refine zzt (ziD r ⟨decide (s.n<0),bytes (s.d : Int).natAbs,bytes s.n.natAbs⟩ hr ⟨ze2 q4,ze2 q3⟩) rfl ?_;rw [hin,<-Rat.div_def];conv=>whnf
  refine zau ?_;rw [quoV,zxI (fun h2=>h ((zi9 s).1 h2))]
theorem neqR (r s : Raw) : (!(r.neg==s.neg&&((bs r.num).toList==(bs s.num).toList&&((bs r.den).toList==(bs s.den).toList&&true))))=decide (r≠s):=by
 rw [eqR]; by_cases h : r=s <;> simp [h]
theorem znT (r : Raw) (hr : r.sm KK) : Fn PP 96 [rawV r] (zd2 r):=by
 refine zzn zab mixed Tryz.func96 rfl rfl (zxW rfl) ?_;intro w;conv=>whnf
 refine zak.qk ?_;conv=>whnf
 refine zzu (znG r hr) rfl ?_;conv=>whnf
 by_cases h : r.ok
 ·refine zac ((neqR (Q r.v) r).trans (zz9 (fun h2=>h2 h.symm))) ?_;conv=>whnf
  exact zaa (by rw [zd2,zxJ h])
 ·refine zag ((neqR (Q r.v) r).trans (zz8 (fun h2=>h h2.symm))) ?_;conv=>whnf
  exact zaa (by rw [zd2,zxI h])
theorem zeK (p : Pt) (hp : p.sm KK) : Fn PP 45 [pV p] (.int .i64 (if p.ok then 0 else 1)):=by
 refine zzn zab mixed Tryz.func45 rfl rfl (zxW rfl) ?_;intro w;conv=>whnf
 refine zzt (znT p.x hp.1) rfl ?_;by_cases h1 : p.x.ok
 ·rw [zd2,zxJ h1];conv=>whnf
  refine zzt (znT p.y hp.2) rfl ?_;by_cases h2 : p.y.ok
  ·rw [zd2,zxJ h2];conv=>whnf
   exact zaa (by rw [zxJ (show p.ok from ⟨h1,h2⟩)])
  ·rw [zd2,zxI h2];conv=>whnf
   exact zaa (by rw [zxI (show ¬p.ok from fun h=>h2 h.2)])
 ·rw [zd2,zxI h1];conv=>whnf
  exact zaa (by rw [zxI (show ¬p.ok from fun h=>h1 h.1)])
theorem zcF (p q : Pt) (hp : p.sm KK) (hq : q.sm KK) : Fn PP 172 [pV p,pV q] (.int .i64 (cmpV p.v q.v)):=by
 refine zzn zab mixed Tryz.func172 rfl rfl (zxW rfl) ?_;intro w;conv=>whnf
 refine zzt (za2 p.x q.x hp.1 hq.1) rfl ?_;conv=>whnf
 refine zaj ?_ ?_
 ·intro h;have h1 : cmpQ p.x.v q.x.v≠0:=by intro h2; rw [h2] at h; exact absurd h (by decide)
  conv=>whnf
  refine zaa ?_;rw [cmpV,zxJ (show cmpQ p.v.x q.v.x≠0 from h1)]; rfl
 ·intro h;have h1 : cmpQ p.x.v q.x.v=0:=by simpa using h
  conv=>whnf
  refine zzt (za2 p.y q.y hp.2 hq.2) rfl ?_;conv=>whnf
  refine zaa ?_;rw [cmpV,zxI (show ¬cmpQ p.v.x q.v.x≠0 from fun h=>h h1)]; rfl
theorem zp7 (p q : Pt) (hp : p.sm KK) (hq : q.sm KK) : Fn PP 178 [pV p,pV q] (pV (PQ (p.v+q.v))):=by
 refine zzn zab mixed Tryz.func178 rfl rfl (zxW rfl) ?_;intro w;conv=>whnf
 refine zak.qk ?_;conv=>whnf
 refine zzu (zmO p.x q.x hp.1 hq.1) rfl ?_;conv=>whnf
 refine zzu (zmO p.y q.y hp.2 hq.2) rfl ?_;conv=>whnf
 exact zaa rfl
theorem zhT (p q : Pt) (hp : p.sm KK) (hq : q.sm KK) : Fn PP 168 [pV p,pV q] (pV (PQ (p.v-q.v))):=by
 refine zzn zab mixed Tryz.func168 rfl rfl (zxW rfl) ?_;intro w;conv=>whnf
 refine zak.qk ?_;conv=>whnf
 refine zzu (zex p.x q.x hp.1 hq.1) rfl ?_;conv=>whnf
 refine zzu (zex p.y q.y hp.2 hq.2) rfl ?_;conv=>whnf
 exact zaa rfl
theorem zmF (p : Pt) (t : Raw) (hp : p.sm KK) (ht : t.sm KK) : Fn PP 179 [pV p,rawV t] (pV (PQ (p.v.scale t.v))):=by
 refine zzn zab mixed Tryz.func179 rfl rfl (zxW rfl) ?_;intro w;conv=>whnf
 refine zak.qk ?_;conv=>whnf
 refine zzu (ziD p.x t hp.1 ht) rfl ?_;conv=>whnf
 refine zzu (ziD p.y t hp.2 ht) rfl ?_;conv=>whnf
 exact zaa rfl
theorem zjX (p q : Pt) (hp : p.sm (10*KV)) (hq : q.sm (10*KV)) : Fn PP 174 [pV p,pV q] (qV (p.v.cross q.v)):=by
 have zp:=hp.sz (by decide);have zq:=hq.sz (by decide);refine zzn zab mixed Tryz.func174 rfl rfl (zxW rfl) ?_;intro w;conv=>whnf
 refine zak.qk ?_;conv=>whnf
 refine zzu (ziD p.x q.y (hp.1.le (by decide)) (hq.2.le (by decide))) rfl ?_;conv=>whnf
 refine zzu (ziD p.y q.x (hp.2.le (by decide)) (hq.1.le (by decide))) rfl ?_;conv=>whnf
 refine zzu (zex (Q (p.x.v*q.y.v)) (Q (p.y.v*q.x.v)) ((zp.1.mul zq.2).q.le (by decide)) ((zp.2.mul zq.1).q.le (by decide))) rfl ?_;conv=>whnf
 refine zaa ?_;rw [Q_v,Q_v]; rfl
theorem zuB (p q : Pt) (t : Raw) (hp : p.sm (10*KV)) (hq : q.sm (10*KV)) (ht : t.sm (30*KV)) : Fn PP 171 [pV p,pV q,rawV t] (pV (PQ (p.v.at q.v t.v))):=by
 have zp:=hp.sz (by decide);have zq:=hq.sz (by decide);have zt:=Raw.sz (r:=t) (k:=30*KV) (by decide) ht.1 ht.2;refine zzn zab mixed Tryz.func171 rfl rfl (zxW rfl) ?_;intro w;conv=>whnf
 refine zak.qk ?_;conv=>whnf
 refine zzu (zhT q p (hq.le (by decide)) (hp.le (by decide))) rfl ?_;conv=>whnf
 refine zzu (zmF (PQ (q.v-p.v)) t ((zq.sub zp).q.le (by decide)) (ht.le (by decide))) rfl ?_;rw [PQ_v];conv=>whnf
 refine zzu (zp7 p (PQ ((q.v-p.v).scale t.v)) (hp.le (by decide)) (((zq.sub zp).scale zt).q.le (by decide))) rfl ?_;rw [PQ_v];conv=>whnf
 exact zaa rfl
theorem zni (a b c : Pt) (ha : a.sm (4*KV)) (hb : b.sm (4*KV)) (hc : c.sm (4*KV)) : Fn PP 154 [pV a,pV b,pV c] (.int .i64 (cmpQ ((b.v-a.v).cross (c.v-a.v)) 0)):=by
 have za:=ha.sz (by decide);have zb:=hb.sz (by decide);have zc:=hc.sz (by decide);refine zzn zab mixed Tryz.func154 rfl rfl (zxW rfl) ?_;intro w;conv=>whnf
 refine zak.qk ?_;conv=>whnf
 refine zzu (zhT b a (hb.le (by decide)) (ha.le (by decide))) rfl ?_;conv=>whnf
 refine zzu (zhT c a (hc.le (by decide)) (ha.le (by decide))) rfl ?_;conv=>whnf
 refine zzu (zjX (PQ (b.v-a.v)) (PQ (c.v-a.v)) ((zb.sub za).q.le (by decide)) ((zc.sub za).q.le (by decide))) rfl ?_;rw [PQ_v,PQ_v];conv=>whnf
 refine zzu (zho (Q ((b.v-a.v).cross (c.v-a.v))) (((zb.sub za).cross (zc.sub za)).q.le (by decide))) rfl ?_;rw [Q_v];conv=>whnf
 exact zaa rfl
theorem zdr (p : Pt) (hp : p.sm KK) : Fn PP 173 [pV p] (pV (PQ p.v)):=by
 refine zzn zab mixed Tryz.func173 rfl rfl (zxW rfl) ?_;intro w;conv=>whnf
 refine zzt (zp7 p P0 hp (zu8 _)) rfl ?_;conv=>whnf
 refine zaa ?_;rw [P0_v,V.add_zero]
theorem zg3 (s : Sg) (hs : s.sm KS) : Fn PP 167 [sV s] (.int .i64 (zcE s)):=by
 refine zzn zab mixed Tryz.func167 rfl rfl (zxW rfl) ?_;intro w;conv=>whnf
 refine zzt (zcF s.A s.B (hs.1.le (by decide)) (hs.2.le (by decide))) rfl ?_;conv=>whnf
 refine zaj ?_ ?_
 ·intro h
  have h1 : zb3 s:=by have : cmpV s.A.v s.B.v=0:=by simpa using h
                      exact this
  conv=>whnf
  refine zaa ?_;rw [zcE,zxJ h1]
 ·intro h
  have h1 : ¬zb3 s:=by have : ¬cmpV s.A.v s.B.v=0:=by simpa using h
                       exact this
  conv=>whnf
  refine zaa ?_;rw [zcE,zxI h1]
theorem zqs (p q : Pt) (hp : p.sm KK) (hq : q.sm KK) : Fn PP 176 [pV p,pV q] (pV (gtP p q)):=by
 refine zzn zab mixed Tryz.func176 rfl rfl (zxW rfl) ?_;intro w;conv=>whnf
 refine zzt (zcF p q hp hq) rfl ?_;conv=>whnf
 refine zaj ?_ ?_ <;> intro h
 ·conv=>whnf
  exact zaa (by rw [gtP,zxJ (zA0 h)])
 ·conv=>whnf
  exact zaa (by rw [gtP,zxI (zA1 h)])
theorem zrK (p q : Pt) (hp : p.sm KK) (hq : q.sm KK) : Fn PP 177 [pV p,pV q] (pV (ltP p q)):=by
 refine zzn zab mixed Tryz.func177 rfl rfl (zxW rfl) ?_;intro w;conv=>whnf
 refine zzt (zcF p q hp hq) rfl ?_;conv=>whnf
 refine zaj ?_ ?_ <;> intro h
 ·conv=>whnf
  exact zaa (by rw [ltP,zxJ (zA0 h)])
 ·conv=>whnf
  exact zaa (by rw [ltP,zxI (zA1 h)])
theorem zim (s : Sg) (hs : s.sm KV) : Fn PP 98 [sV s] (sV ⟨PQ (ordV s.A.v s.B.v).1,PQ (ordV s.A.v s.B.v).2⟩):=by
 have za:=hs.1.sz (by decide);have zb:=hs.2.sz (by decide);refine zzn zab mixed Tryz.func98 rfl rfl (zxW rfl) ?_;intro w;conv=>whnf
 refine zzt (zcF s.A s.B (hs.1.le (by decide)) (hs.2.le (by decide))) rfl ?_;conv=>whnf
 refine zaj ?_ ?_ <;> intro h
 ·have h1 : cmpV s.A.v s.B.v>0:=zA0 h;conv=>whnf
  refine zak.qk ?_;conv=>whnf
  refine zzu (zdr s.B (hs.2.le (by decide))) rfl ?_;conv=>whnf
  refine zzu (zdr s.A (hs.1.le (by decide))) rfl ?_;conv=>whnf
  exact zaa (by rw [ordV,zxJ h1])
 ·have h1 : ¬cmpV s.A.v s.B.v>0:=zA1 h;conv=>whnf
  refine zak.qk ?_;conv=>whnf
  refine zzu (zdr s.A (hs.1.le (by decide))) rfl ?_;conv=>whnf
  refine zzu (zdr s.B (hs.2.le (by decide))) rfl ?_;conv=>whnf
  exact zaa (by rw [ordV,zxI h1])
end Go.Sx
end
section
namespace Go.Sx
theorem zbj {x y : Rat} : cmpQ x y<0↔x<y:=by
 unfold cmpQ; split
 ·simp [*]
 ·split <;> simp [*]
theorem zbM {x y : Rat} : cmpQ x y>0↔y<x:=by
 unfold cmpQ; split
 ·rename_i h; simp; grind
 ·split <;> simp [*]
theorem zl7 {x y : Rat} : cmpQ x y<=0↔x<=y:=by
 unfold cmpQ; split
 ·simp; grind
 ·split <;> simp <;> grind
theorem zpN {x y : Rat} : 0<=cmpQ x y↔y<=x:=by
 unfold cmpQ; split
 ·simp; grind
 ·split <;> simp <;> grind
theorem zbt {x y : Rat} : cmpQ x y=0↔x=y:=by
 unfold cmpQ; split
 ·simp; grind
 ·split <;> simp <;> grind
theorem zmL {x y : Rat} : cmpQ x y=1↔y<x:=by
 unfold cmpQ; split
 ·simp; grind
 ·split <;> simp [*]
theorem V.ext' {a b : V} (h1 : a.x=b.x) (h2 : a.y=b.y) : a=b:=by cases a; cases b; simp_all
abbrev zBz:=@V.ext'
@[simp] theorem V.scale_x (a : V) (t : Rat) : (a.scale t).x=a.x*t:=rfl
@[simp] theorem V.scale_y (a : V) (t : Rat) : (a.scale t).y=a.y*t:=rfl
@[simp] theorem V.at_x (a b : V) (t : Rat) : (a.at b t).x=a.x+(b.x-a.x)*t:=rfl
@[simp] theorem V.at_y (a b : V) (t : Rat) : (a.at b t).y=a.y+(b.y-a.y)*t:=rfl
theorem V.at_zero (a b : V) : a.at b 0=a:=zBz (by simp; grind) (by simp; grind)
theorem V.at_one (a b : V) : a.at b 1=b:=zBz (by simp; grind) (by simp; grind)

abbrev zBF:=@Rat.mul_eq_zero
abbrev zBE:=@Rat.mul_nonneg
abbrev zBD:=@Rat.div_mul_cancel
abbrev zBC:=@Decidable.not_not
abbrev zBB:=@Rat.mul_pos
abbrev zBA:=@Rat.le_total
theorem zs7 {u v : Rat} (h : 0<=u*v) : (0<=u/\0<=v)\/(u<=0/\v<=0):=by
 rcases zBA (a:=0) (b:=u) with h1 | h1 <;> rcases zBA (a:=0) (b:=v) with h2 | h2
 ·exact .inl ⟨h1,h2⟩
 ·by_cases hu : u=0
  ·right; exact ⟨by grind,h2⟩
  ·by_cases hv : v=0
   ·left; exact ⟨h1,by grind⟩
   ·have:=zBB (show 0<u by grind) (show 0 < -v by grind); grind
 ·by_cases hu : u=0
  ·left; exact ⟨by grind,h2⟩
  ·by_cases hv : v=0
   ·right; exact ⟨h1,by grind⟩
   ·have:=zBB (show 0 < -u by grind) (show 0<v by grind); grind
 ·exact .inr ⟨h1,h2⟩
theorem zaI {a b : V} : cmpV a b=0↔a=b:=by
 unfold cmpV;constructor
 ·intro h;split at h
  ·rename_i h2; exact absurd h h2
  ·rename_i h2;rw [zBC,zbt] at h2; rw [zbt] at h;exact zBz h2 h
 ·rintro rfl;have : ∀ x : Rat,cmpQ x x=0:=fun x=>zbt.2 rfl
  rw [this,this]; rfl
theorem zlP {a b p : V} (hab : a≠b) (h : zbW a b p=true) : ∃ t,(0<=t/\t<=1)/\p=a.at b t:=by
 unfold zbW at h;simp only [zxV,zxY,zbt] at h;obtain ⟨hc,hm,_⟩:=h;simp only [V.cross,V.sub_x,V.sub_y] at hc;have sgn : ∀ x y : Rat,(cmpQ x y=-1/\x<y)\/(cmpQ x y=0/\x=y)\/(cmpQ x y=1/\y<x):=by
  intro x y; unfold cmpQ; split
  ·exact .inl ⟨rfl,by assumption⟩
  ·split
   ·exact .inr (.inr ⟨rfl,by assumption⟩)
   ·exact .inr (.inl ⟨rfl,by grind⟩)
 have div_unit : ∀ u v : Rat,v≠0->(0<=u/\u<=v\/v<=u/\u<=0)->0<=u/v/\u/v<=1:=by
  intro u v hv h;have e : u/v*v=u:=zBD hv;generalize u/v=q at e ⊢;constructor
  ·rcases zBA (a:=0) (b:=q) with h1 | h1
   ·exact h1
   ·rcases h with ⟨h2,h3⟩ | ⟨h2,h3⟩
    ·by_cases hq : q=0
     ·grind
     ·have:=zBB (show 0 < -q by grind) (show 0<v by grind); grind
    ·by_cases hq : q=0
     ·grind
     ·have:=zBB (show 0 < -q by grind) (show 0 < -v by grind); grind
  ·rcases zBA (a:=q) (b:=1) with h1 | h1
   ·exact h1
   ·rcases h with ⟨h2,h3⟩ | ⟨h2,h3⟩
    ·have:=zBE (show 0<=q-1 by grind) (show 0<=v by grind);have : (q-1)*v=0:=by grind
     by_cases hq : q=1
     ·grind
     ·have:=zBB (show 0<q-1 by grind) (show 0<v by grind); grind
    ·by_cases hq : q=1
     ·grind
     ·have:=zBB (show 0<q-1 by grind) (show 0 < -v by grind); grind
 by_cases hx : a.x=b.x
 ·have hy : a.y≠b.y:=fun h=>hab (zBz hx h)
  have hpx : p.x=a.x:=by
   have : (b.y-a.y)*(p.x-a.x)=0:=by grind
   rcases zBF.1 this with h | h <;> grind
  have hu : 0<=p.y-a.y/\p.y-a.y<=b.y-a.y\/b.y-a.y<=p.y-a.y/\p.y-a.y<=0:=by
   have e1 : cmpV a p=cmpQ a.y p.y:=by unfold cmpV; rw [zxI (by rw [zBC,zbt]; grind)]
   have e2 : cmpV p b=cmpQ p.y b.y:=by unfold cmpV; rw [zxI (by rw [zBC,zbt]; grind)]
   rw [e1,e2] at hm;rcases sgn a.y p.y with ⟨h1,h2⟩ | ⟨h1,h2⟩ | ⟨h1,h2⟩ <;> rcases sgn p.y b.y with ⟨h3,h4⟩ | ⟨h3,h4⟩ | ⟨h3,h4⟩ <;> rw [h1,h3] at hm <;> first | (exfalso; revert hm; decide) | grind
  obtain ⟨h1,h2⟩:=div_unit _ _ (show b.y-a.y≠0 by grind) hu;refine ⟨_,⟨h1,h2⟩,zBz ?_ ?_⟩
  ·simp only [V.at_x]; grind
  ·simp only [V.at_y];have : (b.y-a.y)*((p.y-a.y)/(b.y-a.y))=p.y-a.y:=by rw [Rat.mul_comm,zBD (by grind)]
   grind
 ·have hu : 0<=p.x-a.x/\p.x-a.x<=b.x-a.x\/b.x-a.x<=p.x-a.x/\p.x-a.x<=0:=by
   have key : ∀ u v : V,(cmpV u v=-1/\u.x<=v.x)\/cmpV u v=0/\u.x=v.x\/cmpV u v=1/\v.x<=u.x:=by
    intro u v; unfold cmpV;rcases sgn u.x v.x with ⟨h1,h2⟩ | ⟨h1,h2⟩ | ⟨h1,h2⟩
    ·rw [h1]; exact .inl ⟨rfl,by grind⟩
    ·rw [h1];rcases sgn u.y v.y with ⟨h3,h4⟩ | ⟨h3,h4⟩ | ⟨h3,h4⟩
     ·exact .inl ⟨h3,by grind⟩
     ·exact .inr (.inl ⟨h3,h2⟩)
     ·exact .inr (.inr ⟨h3,by grind⟩)
    ·rw [h1]; exact .inr (.inr ⟨rfl,by grind⟩)
   rcases key a p with ⟨h1,h2⟩ | ⟨h1,h2⟩ | ⟨h1,h2⟩ <;> rcases key p b with ⟨h3,h4⟩ | ⟨h3,h4⟩ | ⟨h3,h4⟩ <;> rw [h1,h3] at hm <;> first | (exfalso; revert hm; decide) | grind
  obtain ⟨h1,h2⟩:=div_unit _ _ (show b.x-a.x≠0 by grind) hu;have e : (b.x-a.x)*((p.x-a.x)/(b.x-a.x))=p.x-a.x:=by rw [Rat.mul_comm,zBD (by grind)]
  refine ⟨_,⟨h1,h2⟩,zBz ?_ ?_⟩
  ·simp only [V.at_x]; grind
  ·simp only [V.at_y];generalize (p.x-a.x)/(b.x-a.x)=q at e;have : (b.x-a.x)*(p.y-a.y-(b.y-a.y)*q)=0:=by grind
   rcases zBF.1 this with h | h <;> grind
theorem zpQ {a b t : Rat} (h0 : 0<t) : a<a+(b-a)*t↔a<b:=by
 constructor
 ·intro h;rcases zBA (a:=b) (b:=a) with h1 | h1
  ·exfalso; have:=zBE (show 0<=a-b by grind) (show 0<=t by grind); grind
  ·by_cases he : a=b
   ·exfalso; rw [he] at h; grind
   ·grind
 ·intro h;have:=zBB (show 0<b-a by grind) h0; grind
theorem zqp {a b t : Rat} (h0 : 0<t) : a+(b-a)*t<a↔b<a:=by
 constructor
 ·intro h;rcases zBA (a:=a) (b:=b) with h1 | h1
  ·exfalso; have:=zBE (show 0<=b-a by grind) (show 0<=t by grind); grind
  ·by_cases he : a=b
   ·exfalso; rw [he] at h; grind
   ·grind
 ·intro h;have:=zBB (show 0<a-b by grind) h0; grind
theorem znI {a b t : Rat} (h0 : 0<t) : cmpQ a (a+(b-a)*t)=cmpQ a b:=by
 unfold cmpQ; simp only [zpQ h0,zqp h0]
theorem zlq {a b t : Rat} (h1 : t<1) : cmpQ (a+(b-a)*t) b=cmpQ a b:=by
 have e : a+(b-a)*t=b+(a-b)*(1-t):=by grind
 have h0 : 0<1-t:=by grind
 rw [e]; unfold cmpQ; simp only [zpQ h0,zqp h0]
theorem zhv {a b : V} {t : Rat} (h0 : 0<t) : cmpV a (a.at b t)=cmpV a b:=by
 unfold cmpV;rw [show (a.at b t).x=a.x+(b.x-a.x)*t from rfl,show (a.at b t).y=a.y+(b.y-a.y)*t from rfl,znI h0,znI h0]
theorem zgp {a b : V} {t : Rat} (h1 : t<1) : cmpV (a.at b t) b=cmpV a b:=by
 unfold cmpV;rw [show (a.at b t).x=a.x+(b.x-a.x)*t from rfl,show (a.at b t).y=a.y+(b.y-a.y)*t from rfl,zlq h1,zlq h1]
theorem zmb (x : Int) : 0<=x*x:=by
 rcases Int.le_total 0 x with h | h
 ·exact Int.mul_nonneg h h
 ·have:=Int.mul_nonneg (show 0<=-x by omega) (show 0<=-x by omega);rwa [Int.neg_mul_neg] at this
theorem ztn {a b : V} (hab : a≠b) {t : Rat} (h0 : 0<=t) (h1 : t<=1) : zbW a b (a.at b t)=true:=by
 have hc : (b-a).cross (a.at b t-a)=0:=by
  show (b.x-a.x)*(a.y+(b.y-a.y)*t-a.y)-(b.y-a.y)*(a.x+(b.x-a.x)*t-a.x)=0;grind
 have hm : 0<=cmpV a (a.at b t)*cmpV (a.at b t) b:=by
  by_cases e0 : t=0
  ·rw [e0,V.at_zero,zaI.2 rfl,Int.zero_mul]; exact Int.le_refl _
  by_cases e1 : t=1
  ·rw [e1,V.at_one,zaI.2 rfl,Int.mul_zero]; exact Int.le_refl _
  rw [zhv (by grind),zgp (by grind)];exact zmb _
 unfold zbW;rw [hc,zz8 (zbt.2 rfl),zz8 hm,zz8 (show cmpV a b≠0 from fun h=>hab (zaI.1 h))];rfl
theorem zmJ (x y : Rat) : (cmpQ x y=-1/\x<y)\/(cmpQ x y=0/\x=y)\/(cmpQ x y=1/\y<x):=by
 unfold cmpQ; split
 ·exact .inl ⟨rfl,by assumption⟩
 ·split
  ·exact .inr (.inr ⟨rfl,by assumption⟩)
  ·exact .inr (.inl ⟨rfl,by grind⟩)
def ltP2 (a b : V) : Prop:=a.x<b.x\/(a.x=b.x/\a.y<b.y)
theorem zfU (a b : V) : (cmpV a b=-1/\ltP2 a b)\/(cmpV a b=0/\a=b)\/(cmpV a b=1/\ltP2 b a):=by
 unfold cmpV ltP2;rcases zmJ a.x b.x with ⟨h1,h2⟩ | ⟨h1,h2⟩ | ⟨h1,h2⟩
 ·rw [h1,zxJ (by decide)]; exact .inl ⟨rfl,.inl h2⟩
 ·rw [h1,zxI (by decide)];rcases zmJ a.y b.y with ⟨h3,h4⟩ | ⟨h3,h4⟩ | ⟨h3,h4⟩
  ·exact .inl ⟨h3,.inr ⟨h2,h4⟩⟩
  ·exact .inr (.inl ⟨h3,zBz h2 h4⟩)
  ·exact .inr (.inr ⟨h3,.inr ⟨h2.symm,h4⟩⟩)
 ·rw [h1,zxJ (by decide)]; exact .inr (.inr ⟨rfl,.inl h2⟩)
theorem zcq {a : V} : ¬ltP2 a a:=by unfold ltP2; grind
theorem zc5 {a b c : V} (h : ltP2 a b) (k : ltP2 b c) : ltP2 a c:=by unfold ltP2 at *; grind
theorem zjs {a b : V} : cmpV a b<0↔ltP2 a b:=by
 rcases zfU a b with ⟨h1,h2⟩ | ⟨h1,h2⟩ | ⟨h1,h2⟩
 ·rw [h1]; exact ⟨fun _=>h2,fun _=>by decide⟩
 ·rw [h1,h2]; exact ⟨fun h=>absurd h (by decide),fun h=>absurd h zcq⟩
 ·rw [h1]; exact ⟨fun h=>absurd h (by decide),fun h=>absurd (zc5 h h2) zcq⟩
theorem zgo {a b : V} : cmpV a b>0↔ltP2 b a:=by
 rcases zfU a b with ⟨h1,h2⟩ | ⟨h1,h2⟩ | ⟨h1,h2⟩
 ·rw [h1]; exact ⟨fun h=>absurd h (by decide),fun h=>absurd (zc5 h h2) zcq⟩
 ·rw [h1,h2]; exact ⟨fun h=>absurd h (by decide),fun h=>absurd h zcq⟩
 ·rw [h1]; exact ⟨fun _=>h2,fun _=>by decide⟩
theorem zmK (a b : V) : ltP2 a b\/a=b\/ltP2 b a:=by
 rcases zfU a b with ⟨h1,h2⟩ | ⟨h1,h2⟩ | ⟨h1,h2⟩
 ·exact .inl h2
 ·exact .inr (.inl h2)
 ·exact .inr (.inr h2)
theorem zmy (a b : V) : cmpV b a=-cmpV a b:=by
 rcases zfU a b with ⟨h1,h2⟩ | ⟨h1,h2⟩ | ⟨h1,h2⟩ <;> rcases zfU b a with ⟨h3,h4⟩ | ⟨h3,h4⟩ | ⟨h3,h4⟩
 ·exact absurd (zc5 h2 h4) zcq
 ·rw [h4] at h2; exact absurd h2 zcq
 ·rw [h1,h3]; rfl
 ·rw [h2] at h4; exact absurd h4 zcq
 ·rw [h1,h3]; rfl
 ·rw [h2] at h4; exact absurd h4 zcq
 ·rw [h1,h3]
 ·rw [h4] at h2; exact absurd h2 zcq
 ·exact absurd (zc5 h2 h4) zcq
def leP2 (a b : V) : Prop:=¬ltP2 b a
theorem zcA (a : V) : leP2 a a:=zcq
theorem zdI {a b c : V} (h : leP2 a b) (k : leP2 b c) : leP2 a c:=fun h2=>by
 rcases zmK a b with h3 | h3 | h3
 ·exact k (zc5 h2 h3)
 ·rw [h3] at h2; exact k h2
 ·exact h h3
theorem zdz {a b : V} (h : leP2 a b) (k : leP2 b a) : a=b:=by
 rcases zmK a b with h3 | h3 | h3
 ·exact absurd h3 k
 ·exact h3
 ·exact absurd h3 h
theorem ztt {a b : V} (h : ltP2 a b) : leP2 a b:=fun k=>zcq (zc5 h k)
theorem zb8 {a b : V} : cmpV a b<=0↔leP2 a b:=by
 rw [leP2,<-zgo]; omega
theorem zu7 {a b : V} {t : Rat} (h0 : 0<=t) (h1 : t<=1) (h : leP2 a b) : leP2 a (a.at b t)/\leP2 (a.at b t) b:=by
 by_cases e0 : t=0
 ·rw [e0,V.at_zero]; exact ⟨zcA a,h⟩
 by_cases e1 : t=1
 ·rw [e1,V.at_one]; exact ⟨h,zcA b⟩
 rw [<-zb8,<-zb8,zhv (by grind),zgp (by grind)];exact ⟨zb8.2 h,zb8.2 h⟩
theorem zre {a b p : V} (hab : a≠b) (hc : (b-a).cross (p-a)=0) (h1 : leP2 a p) (h2 : leP2 p b) : ∃ t,(0<=t/\t<=1)/\p=a.at b t:=by
 refine zlP hab ?_;unfold zbW;have hm : 0<=cmpV a p*cmpV p b:=Int.mul_nonneg_of_nonpos_of_nonpos (zb8.2 h1) (zb8.2 h2);rw [hc,zz8 (zbt.2 rfl),zz8 hm,zz8 (show cmpV a b≠0 from fun h=>hab (zaI.1 h))];rfl
theorem ztS (a b : V) (t : Rat) : b.at a t=a.at b (1-t):=zBz (by simp only [V.at_x]; grind) (by simp only [V.at_y]; grind)
def onS (a b p : V) : Prop:=∃ t : Rat,(0<=t/\t<=1)/\p=a.at b t
theorem zmB {a b p : V} : onS a b p↔onS b a p:=by
 constructor <;> rintro ⟨t,⟨h0,h1⟩,rfl⟩ <;> exact ⟨1-t,⟨by grind,by grind⟩,by rw [ztS]⟩
theorem zeO (a b : V) : onS a b a:=⟨0,⟨by grind,by grind⟩,(V.at_zero a b).symm⟩
theorem zfF (a b : V) : onS a b b:=⟨1,⟨by grind,by grind⟩,(V.at_one a b).symm⟩
theorem zi0 (a b : V) : leP2 (ordV a b).1 (ordV a b).2/\(∀ p,onS (ordV a b).1 (ordV a b).2 p↔onS a b p)/\((ordV a b=(a,b))\/(ordV a b=(b,a))):=by
 unfold ordV;by_cases h : cmpV a b>0
 ·rw [zxJ h]; exact ⟨ztt (zgo.1 h),fun p=>zmB,.inr rfl⟩
 ·rw [zxI h]; exact ⟨zb8.1 (by show cmpV a b<=0; omega),fun p=>Iff.rfl,.inl rfl⟩
theorem znu {a b p : V} (h : leP2 a b) (hp : onS a b p) : leP2 a p/\leP2 p b:=by
 obtain ⟨t,⟨h0,h1⟩,rfl⟩:=hp; exact zu7 h0 h1 h
theorem zwD (a b : V) : leP2 a (gtV a b)/\leP2 b (gtV a b)/\(gtV a b=a\/gtV a b=b)/\∀ p,leP2 a p->leP2 b p->leP2 (gtV a b) p:=by
 unfold gtV;by_cases h : cmpV a b<0
 ·rw [zxJ h]; exact ⟨ztt (zjs.1 h),zcA b,.inr rfl,fun p _ h=>h⟩
 ·rw [zxI h];exact ⟨zcA a,fun k=>h (zjs.2 k),.inl rfl,fun p h _=>h⟩
theorem zvs (a b : V) : leP2 (ltV a b) a/\leP2 (ltV a b) b/\(ltV a b=a\/ltV a b=b)/\∀ p,leP2 p a->leP2 p b->leP2 p (ltV a b):=by
 unfold ltV;by_cases h : cmpV a b<0
 ·rw [zxJ h]; exact ⟨zcA a,ztt (zjs.1 h),.inl rfl,fun p h _=>h⟩
 ·rw [zxI h];exact ⟨fun k=>h (zjs.2 k),zcA b,.inr rfl,fun p _ h=>h⟩
theorem zbX {t : Rat} : zdK t=true↔0<=t/\t<=1:=by
 unfold zdK; rw [zxV,zxY,zxY,zpN,zl7]
theorem zng {a b c d : V} (h : (b-a).cross (d-c)≠0) (t s : Rat) :
  a.at b t=c.at d s↔t=(c-a).cross (d-c)/(b-a).cross (d-c)/\s=(c-a).cross (b-a)/(b-a).cross (d-c):=by
 have e1 : (c-a).cross (d-c)/(b-a).cross (d-c)*(b-a).cross (d-c)=(c-a).cross (d-c):=zBD h;have e2 : (c-a).cross (b-a)/(b-a).cross (d-c)*(b-a).cross (d-c)=(c-a).cross (b-a):=zBD h;generalize (c-a).cross (d-c)/(b-a).cross (d-c)=T at e1 ⊢;generalize (c-a).cross (b-a)/(b-a).cross (d-c)=U at e2 ⊢;simp only [V.cross,V.sub_x,V.sub_y] at h e1 e2;constructor
 ·intro he;have hx : a.x+(b.x-a.x)*t=c.x+(d.x-c.x)*s:=zyr V.x he;have hy : a.y+(b.y-a.y)*t=c.y+(d.y-c.y)*s:=zyr V.y he;constructor
  ·have : (t-T)*((b.x-a.x)*(d.y-c.y)-(b.y-a.y)*(d.x-c.x))=0:=by grind
   rcases zBF.1 this with h2 | h2
   ·grind
   ·exact absurd h2 h
  ·have : (s-U)*((b.x-a.x)*(d.y-c.y)-(b.y-a.y)*(d.x-c.x))=0:=by grind
   rcases zBF.1 this with h2 | h2
   ·grind
   ·exact absurd h2 h
 ·rintro ⟨rfl,rfl⟩;have kx : (a.x+(b.x-a.x)*t-(c.x+(d.x-c.x)*s))*((b.x-a.x)*(d.y-c.y)-(b.y-a.y)*(d.x-c.x))=0:=by grind
  have ky : (a.y+(b.y-a.y)*t-(c.y+(d.y-c.y)*s))*((b.x-a.x)*(d.y-c.y)-(b.y-a.y)*(d.x-c.x))=0:=by grind
  refine zBz ?_ ?_
  ·show a.x+(b.x-a.x)*t=c.x+(d.x-c.x)*s;rcases zBF.1 kx with h2 | h2
   ·grind
   ·exact absurd h2 h
  ·show a.y+(b.y-a.y)*t=c.y+(d.y-c.y)*s;rcases zBF.1 ky with h2 | h2
   ·grind
   ·exact absurd h2 h
theorem zrv (a b c : V) (t : Rat) : (b-a).cross (a.at b t-c)=(b-a).cross (a-c):=by
 show (b.x-a.x)*(a.y+(b.y-a.y)*t-c.y)-(b.y-a.y)*(a.x+(b.x-a.x)*t-c.x)=(b.x-a.x)*(a.y-c.y)-(b.y-a.y)*(a.x-c.x);grind
theorem zdT {a b c d : V} (hab : a≠b) (hcd : c≠d) : (∀ x,zbV a b c d=some x->onS a b x.1/\onS c d x.1/\onS a b x.2/\onS c d x.2/\leP2 x.1 x.2/\∀ p,onS a b p->onS c d p->leP2 x.1 p/\leP2 p x.2)/\(zbV a b c d=none->∀ p,onS a b p->onS c d p->False):=by
 unfold zbV;by_cases hx : cmpQ ((b-a).cross (d-c)) 0≠0
 ·rw [zxJ hx];have hne : (b-a).cross (d-c)≠0:=fun h=>hx (zbt.2 h)
  by_cases hu : (!zdK ((c-a).cross (d-c)/(b-a).cross (d-c))||!zdK ((c-a).cross (b-a)/(b-a).cross (d-c)))=true
  ·rw [zxJ hu];refine ⟨(fun x h=>by cases h),fun _ p=>?_⟩;rintro ⟨t,⟨h0,h1⟩,rfl⟩ ⟨s,⟨k0,k1⟩,he⟩;obtain ⟨e1,e2⟩:=(zng hne t s).1 he;rw [<-e1,<-e2,zbX.2 ⟨h0,h1⟩,zbX.2 ⟨k0,k1⟩] at hu;exact absurd hu (by decide)
  ·rw [zxI hu];simp only [zxF,zzh,not_or,Bool.not_eq_false] at hu;obtain ⟨u1,u2⟩:=hu;refine ⟨fun x h=>?_,(fun h=>by cases h)⟩
   cases h
   have hon1 : onS a b (a.at b ((c-a).cross (d-c)/(b-a).cross (d-c))):=⟨_,zbX.1 u1,rfl⟩;have hon2 : onS c d (a.at b ((c-a).cross (d-c)/(b-a).cross (d-c))):=⟨_,zbX.1 u2,(zng hne _ _).2 ⟨rfl,rfl⟩⟩;refine ⟨hon1,hon2,hon1,hon2,zcA _,fun p=>?_⟩;rintro ⟨t,⟨h0,h1⟩,rfl⟩ ⟨s,⟨k0,k1⟩,he⟩;obtain ⟨e1,e2⟩:=(zng hne t s).1 he;rw [<-e1]; exact ⟨zcA _,zcA _⟩
 ·rw [zxI hx];have h0 : (b-a).cross (d-c)=0:=zbt.1 (zBC.1 hx);by_cases hy : cmpQ ((b-a).cross (c-a)) 0≠0
  ·rw [zxJ hy];refine ⟨(fun x h=>by cases h),fun _ p=>?_⟩;rintro ⟨t,_,rfl⟩ ⟨s,_,he⟩;apply hy;rw [zbt];have hx : a.x+(b.x-a.x)*t=c.x+(d.x-c.x)*s:=zyr V.x he;have hy : a.y+(b.y-a.y)*t=c.y+(d.y-c.y)*s:=zyr V.y he;simp only [V.cross,V.sub_x,V.sub_y] at h0 ⊢;grind
  ·rw [zxI hy];have h1 : (b-a).cross (c-a)=0:=zbt.1 (zBC.1 hy);obtain ⟨o1,o2,o3⟩:=zi0 a b;obtain ⟨q1,q2,q3⟩:=zi0 c d;obtain ⟨g1,g2,g3,g4⟩:=zwD (ordV a b).1 (ordV c d).1;obtain ⟨l1,l2,l3,l4⟩:=zvs (ordV a b).2 (ordV c d).2;have ra : (d-c).cross (a-c)=0:=by
    have hd : b.x-a.x≠0\/b.y-a.y≠0:=by
     by_cases k : b.x=a.x
     ·right; intro k2; exact hab (zBz k.symm (by grind))
     ·left; grind
    simp only [V.cross,V.sub_x,V.sub_y] at h0 h1 ⊢;rcases hd with k | k
    ·have : (b.x-a.x)*((d.x-c.x)*(a.y-c.y)-(d.y-c.y)*(a.x-c.x))=0:=by grind
     rcases zBF.1 this with k2 | k2
     ·exact absurd k2 k
     ·exact k2
    ·have : (b.y-a.y)*((d.x-c.x)*(a.y-c.y)-(d.y-c.y)*(a.x-c.x))=0:=by grind
     rcases zBF.1 this with k2 | k2
     ·exact absurd k2 k
     ·exact k2
   have onl : ∀ p,(p=a\/p=b\/p=c\/p=d)->(b-a).cross (p-a)=0/\(d-c).cross (p-c)=0:=by
    intro p hp;simp only [V.cross,V.sub_x,V.sub_y] at h0 h1 ra ⊢;rcases hp with rfl | rfl | rfl | rfl
    ·exact ⟨by grind,ra⟩
    ·exact ⟨by grind,by grind⟩
    ·exact ⟨h1,by grind⟩
    ·exact ⟨by grind,by grind⟩
   have ends : ∀ p,(p=(ordV a b).1\/p=(ordV a b).2\/p=(ordV c d).1\/p=(ordV c d).2)->(p=a\/p=b\/p=c\/p=d):=by
    intro p hp;rcases o3 with e | e <;> rcases q3 with f | f <;> rw [e,f] at hp <;> simp only at hp <;> grind
   have on2 : ∀ p,(p=(ordV a b).1\/p=(ordV a b).2\/p=(ordV c d).1\/p=(ordV c d).2)->leP2 (ordV a b).1 p->leP2 p (ordV a b).2->leP2 (ordV c d).1 p->leP2 p (ordV c d).2->onS a b p/\onS c d p:=by
    intro p hp k1 k2 k3 k4;obtain ⟨c1,c2⟩:=onl p (ends p hp);constructor
    ·rw [<-o2];refine zre ?_ ?_ k1 k2
     ·rcases o3 with e | e <;> rw [e]
      ·exact hab
      ·exact fun h=>hab h.symm
     ·rcases o3 with e | e <;> rw [e]
      ·exact c1
      ·simp only [V.cross,V.sub_x,V.sub_y] at c1 ⊢; grind
    ·rw [<-q2];refine zre ?_ ?_ k3 k4
     ·rcases q3 with e | e <;> rw [e]
      ·exact hcd
      ·exact fun h=>hcd h.symm
     ·rcases q3 with e | e <;> rw [e]
      ·exact c2
      ·simp only [V.cross,V.sub_x,V.sub_y] at c2 ⊢; grind
   have both : ∀ p,onS a b p->onS c d p->leP2 (gtV (ordV a b).1 (ordV c d).1) p/\leP2 p (ltV (ordV a b).2 (ordV c d).2):=fun p p1 p2=>by
    obtain ⟨k1,k2⟩:=znu o1 ((o2 p).2 p1);obtain ⟨k3,k4⟩:=znu q1 ((q2 p).2 p2);exact ⟨g4 p k1 k3,l4 p k2 k4⟩
   by_cases hz : cmpV (gtV (ordV a b).1 (ordV c d).1) (ltV (ordV a b).2 (ordV c d).2)>0
   ·rw [zxJ hz];refine ⟨(fun x h=>by cases h),fun _ p p1 p2=>?_⟩;obtain ⟨k1,k2⟩:=both p p1 p2;exact zdI k1 k2 (zgo.1 hz)
   ·rw [zxI hz];have hle : leP2 (gtV (ordV a b).1 (ordV c d).1) (ltV (ordV a b).2 (ordV c d).2):=zb8.1 (by omega);refine ⟨fun x h=>?_,(fun h=>by cases h)⟩
    cases h
    have e1:=on2 (gtV (ordV a b).1 (ordV c d).1) (by rcases g3 with e | e <;> rw [e] <;> simp) g1 (zdI hle l1) g2 (zdI hle l2);have e2:=on2 (ltV (ordV a b).2 (ordV c d).2) (by rcases l3 with e | e <;> rw [e] <;> simp) (zdI g1 hle) l1 (zdI g2 hle) l2;exact ⟨e1.1,e1.2,e2.1,e2.2,hle,both⟩
section
variable {D : V->V->V->Rat} {δ : V->V->Rat}
end
section
variable {D : V->V->V->Rat} {δ : V->V->Rat} {a b c d : V}
end
def zep (a b p : V) : Bool:=decide (cmpV a p<=0)&&decide (cmpV p b<=0)
def zlp (a b c d : V) : Option (V×V) :=
 if cmpQ ((b-a).cross (d-c)) 0=0 then
  if cmpQ ((b-a).cross (c-a)) 0≠0 then none
  else if cmpV (gtV a c) (ltV b d)>0 then none else some (gtV a c,ltV b d)
 else if !zep a b (a.at b ((c-a).cross (d-c)/(b-a).cross (d-c)))||!zep c d (a.at b ((c-a).cross (d-c)/(b-a).cross (d-c))) then none
 else some (a.at b ((c-a).cross (d-c)/(b-a).cross (d-c)),a.at b ((c-a).cross (d-c)/(b-a).cross (d-c)))
def ztM (a b c d : V) : Option (V×V):=zlp (ordV a b).1 (ordV a b).2 (ordV c d).1 (ordV c d).2
theorem zwp {a b : V} (hab : a≠b) {t s : Rat} (h : a.at b t=a.at b s) : t=s:=by
 have hx : a.x+(b.x-a.x)*t=a.x+(b.x-a.x)*s:=zyr V.x h;have hy : a.y+(b.y-a.y)*t=a.y+(b.y-a.y)*s:=zyr V.y h;have h1 : (b.x-a.x)*(t-s)=0:=by grind
 have h2 : (b.y-a.y)*(t-s)=0:=by grind
 rcases zBF.1 h1 with h3 | h3
 ·rcases zBF.1 h2 with h4 | h4
  ·exact absurd (zBz (by grind) (by grind)) hab
  ·grind
 ·grind
theorem zia {a b : V} (hab : a≠b) (hle : leP2 a b) (t : Rat) : zdK t=zep a b (a.at b t):=by
 rw [zyV,zbX];unfold zep;rw [zxV,zxY,zxY,zb8,zb8];constructor
 ·rintro ⟨h0,h1⟩; exact zu7 h0 h1 hle
 ·rintro ⟨h0,h1⟩;have hc : (b-a).cross (a.at b t-a)=0:=by
   rw [zrv];show (b.x-a.x)*(a.y-a.y)-(b.y-a.y)*(a.x-a.x)=0;grind
  obtain ⟨s,hs,e⟩:=zre hab hc h0 h1;rw [zwp hab e]; exact hs
theorem zhw {a b : V} (h : leP2 a b) : ordV a b=(a,b):=by
 unfold ordV; rw [zxI (fun k=>h (zgo.1 k))]
theorem zss {a b c d : V} (hab : a≠b) (hcd : c≠d) (h1 : leP2 a b) (h2 : leP2 c d) : zlp a b c d=zbV a b c d:=by
 unfold zlp zbV;rw [zhw h1,zhw h2];by_cases h : cmpQ ((b-a).cross (d-c)) 0=0
 ·have hh : ¬(cmpQ ((b-a).cross (d-c)) 0≠0):=fun k=>k h
  rw [zxJ h,zxI hh]
 ·rw [zxI h,zxJ h];have hx : (b-a).cross (d-c)≠0:=fun e=>h (zbt.2 e)
  have e:=(zng hx _ _).2 ⟨rfl,rfl⟩;rw [zia hab h1,zia hcd h2 ((c-a).cross (b-a)/(b-a).cross (d-c)),<-e]
theorem ziV {a b : V} (h : a≠b) : (ordV a b).1≠(ordV a b).2:=by
 unfold ordV; split
 ·exact fun e=>h e.symm
 ·exact h
theorem zrR {a b c d : V} (hab : a≠b) (hcd : c≠d) : zbV (ordV a b).1 (ordV a b).2 (ordV c d).1 (ordV c d).2=zbV a b c d:=by
 obtain ⟨s1,n1⟩:=zdT (ziV hab) (ziV hcd);obtain ⟨s2,n2⟩:=zdT hab hcd;obtain ⟨_,o1,_⟩:=zi0 a b;obtain ⟨_,o2,_⟩:=zi0 c d
 cases h1 : zbV (ordV a b).1 (ordV a b).2 (ordV c d).1 (ordV c d).2 with
 | none =>
  cases h2 : zbV a b c d with
  | none=>rfl
  | some y =>
   obtain ⟨k1,k2,_⟩:=s2 y h2;exact (n1 h1 _ ((o1 _).2 k1) ((o2 _).2 k2)).elim
 | some x =>
  obtain ⟨k1,k2,k3,k4,k5,k6⟩:=s1 x h1;rw [o1] at k1 k3;rw [o2] at k2 k4
  cases h2 : zbV a b c d with
  | none=>exact (n2 h2 _ k1 k2).elim
  | some y =>
   obtain ⟨l1,l2,l3,l4,l5,l6⟩:=s2 y h2;have e1:=zdz (k6 _ ((o1 _).2 l1) ((o2 _).2 l2)).1 (l6 _ k1 k2).1;have e2:=zdz (l6 _ k3 k4).2 (k6 _ ((o1 _).2 l3) ((o2 _).2 l4)).2;rw [show x=y from zxo e1 e2]
theorem zr2 {a b c d : V} (hab : a≠b) (hcd : c≠d) : ztM a b c d=zbV a b c d:=by
 rw [ztM,zss (ziV hab) (ziV hcd) (zi0 a b).1 (zi0 c d).1,zrR hab hcd]
end Go.Sx
end
section
namespace Go.Sx
open Go Go.Proofs
theorem zhV (s : Sg) (p : Pt) (hs : s.sm KK) (hp : p.sm KK) : Fn PP 155 [sV s,pV p] (.bool (zep s.A.v s.B.v p.v)):=by
 refine zzn zab mixed Tryz.func155 rfl rfl (zxW rfl) ?_;intro w;conv=>whnf
 refine zzt (zcF s.A p hs.1 hp) rfl ?_;conv=>whnf
 refine zaj ?_ ?_ <;> intro h
 ·have h1 : cmpV s.A.v p.v<=0:=zA0 h;conv=>whnf
  refine zzt (zcF p s.B hp hs.2) rfl ?_;conv=>whnf
  refine zaa ?_;rw [zep,zz8 h1]; rfl
 ·have h1 : ¬cmpV s.A.v p.v<=0:=zA1 h;conv=>whnf
  refine zaa ?_;rw [zep,zz9 h1]; rfl
theorem zkm {s : Sg} : zb3 s↔s.A.v=s.B.v:=zaI
theorem zwc (s t : Sg) (hs : s.sm KS) (ht : t.sm KS) : Fn PP 100 [sV s,sV t] (zji s t):=by
 have za:=hs.1.sz (by decide);have zb:=hs.2.sz (by decide);have zc:=ht.1.sz (by decide);have zd:=ht.2.sz (by decide);have zo:=zgG za zb;have zp:=zgG zc zd;refine zzn zab mixed Tryz.func100 rfl rfl (zxW rfl) ?_;intro w;conv=>whnf
 refine zzt (zg3 s hs) rfl ?_;by_cases d1 : zb3 s
 ·rw [zcE,zxJ d1,zji,zxJ (.inl d1)];conv=>whnf
  exact zar rfl
 rw [zcE,zxI d1];conv=>whnf
 refine zzt (zg3 t ht) rfl ?_;by_cases d2 : zb3 t
 ·rw [zcE,zxJ d2,zji,zxJ (.inr d2)];conv=>whnf
  exact zar rfl
 rw [zcE,zxI d2,zji,zxI (fun h=>h.elim d1 d2),<-zr2 (fun e=>d1 (zkm.2 e)) (fun e=>d2 (zkm.2 e)),ztM];conv=>whnf
 refine zak.qk ?_;conv=>whnf
 refine zzu (zim s (hs.le (by decide))) rfl ?_;conv=>whnf
 refine zzu (zim t (ht.le (by decide))) rfl ?_;obtain ⟨a,ha⟩ : ∃ a,a=(ordV s.A.v s.B.v).1:=⟨_,rfl⟩;obtain ⟨b,hb⟩ : ∃ b,b=(ordV s.A.v s.B.v).2:=⟨_,rfl⟩;obtain ⟨c,hc⟩ : ∃ c,c=(ordV t.A.v t.B.v).1:=⟨_,rfl⟩;obtain ⟨d,hd⟩ : ∃ d,d=(ordV t.A.v t.B.v).2:=⟨_,rfl⟩;rw [<-ha,<-hb] at zo ⊢;rw [<-hc,<-hd] at zp ⊢;obtain ⟨za,zb⟩:=zo;obtain ⟨zc,zd⟩:=zp;have zu:=zb.sub za;have zv:=zd.sub zc;have zw:=zc.sub za;have zx:=(zu.cross zv);conv=>whnf
 refine zak.qk ?_;conv=>whnf
 refine zzu (zhT (PQ b) (PQ a) (zb.q.le (by decide)) (za.q.le (by decide))) rfl ?_;rw [PQ_v,PQ_v];conv=>whnf
 refine zzu (zhT (PQ d) (PQ c) (zd.q.le (by decide)) (zc.q.le (by decide))) rfl ?_;rw [PQ_v,PQ_v];conv=>whnf
 refine zzt (zjX (PQ (b-a)) (PQ (d-c)) (zu.q.le (by decide)) (zv.q.le (by decide))) rfl ?_;rw [PQ_v,PQ_v];conv=>whnf
 refine zzt (zho (Q ((b-a).cross (d-c))) (zx.q.le (by decide))) rfl ?_;rw [Q_v];conv=>whnf
 refine zaj ?_ ?_ <;> intro h
 ·have h1 : cmpQ ((b-a).cross (d-c)) 0=0:=by simpa using h
  conv=>whnf
  refine zzt (zni (PQ a) (PQ b) (PQ c) (za.q.le (by decide)) (zb.q.le (by decide)) (zc.q.le (by decide))) rfl ?_;rw [PQ_v,PQ_v,PQ_v];conv=>whnf
  refine zaj ?_ ?_ <;> intro h
  ·have h2 : cmpQ ((b-a).cross (c-a)) 0≠0:=by simpa using h
   conv=>whnf
   refine zar ?_;rw [zlp,zxJ h1,zxJ h2]; rfl
  ·have h2 : ¬cmpQ ((b-a).cross (c-a)) 0≠0:=by simpa using h
   conv=>whnf
   refine zak.qk ?_;conv=>whnf
   refine zzu (zqs (PQ a) (PQ c) (za.q.le (by decide)) (zc.q.le (by decide))) rfl ?_;rw [zve];conv=>whnf
   refine zzu (zrK (PQ b) (PQ d) (zb.q.le (by decide)) (zd.q.le (by decide))) rfl ?_;rw [zvL];conv=>whnf
   refine zzt (zcF (PQ (gtV a c)) (PQ (ltV b d)) ((ztE za zc).q.le (by decide)) ((zup zb zd).q.le (by decide))) rfl ?_;rw [PQ_v,PQ_v];conv=>whnf
   refine zaj ?_ ?_ <;> intro h
   ·have h3 : cmpV (gtV a c) (ltV b d)>0:=zA0 h;conv=>whnf
    refine zar ?_;rw [zlp,zxJ h1,zxI h2,zxJ h3]; rfl
   ·have h3 : ¬cmpV (gtV a c) (ltV b d)>0:=zA1 h;conv=>whnf
    refine zar ?_;rw [zlp,zxJ h1,zxI h2,zxI h3]; rfl
 ·have h1 : ¬cmpQ ((b-a).cross (d-c)) 0=0:=by simpa using h
  have h2 : (b-a).cross (d-c)≠0:=fun e=>h1 (zbt.2 e)
  have zt:=(zw.cross zv).div zx;conv=>whnf
  refine zy4 [(13,12,[11])] (by kernel_rfl) ?_;conv=>whnf
  refine zzu (zhT (PQ c) (PQ a) (zc.q.le (by decide)) (za.q.le (by decide))) rfl ?_;rw [PQ_v,PQ_v];conv=>whnf
  refine zzu (zjX (PQ (c-a)) (PQ (d-c)) (zw.q.le (by decide)) (zv.q.le (by decide))) rfl ?_;rw [PQ_v,PQ_v];conv=>whnf
  refine zzu (zkt (Q ((c-a).cross (d-c))) (Q ((b-a).cross (d-c))) ((zw.cross zv).q.le (by decide)) (zx.q.le (by decide))) rfl ?_;rw [Q_v,Q_v,quoV,zxI h2];obtain ⟨T,hT⟩ : ∃ T,T=(c-a).cross (d-c)/(b-a).cross (d-c):=⟨_,rfl⟩;rw [<-hT] at zt ⊢;conv=>whnf
  refine zak.qk ?_;conv=>whnf
  refine zzu (zmF (PQ (b-a)) (Q T) (zu.q.le (by decide)) (zt.q.le (by decide))) rfl ?_;rw [PQ_v,Q_v];conv=>whnf
  refine zzu (zp7 (PQ a) (PQ ((b-a).scale T)) (za.q.le (by decide)) ((zu.scale zt).q.le (by decide))) rfl ?_;rw [PQ_v,PQ_v,show a+(b-a).scale T=a.at b T from rfl];have zm:=za.at zb zt;obtain ⟨p,hp⟩ : ∃ p,p=a.at b T:=⟨_,rfl⟩;rw [<-hp] at zm ⊢;have hO : zlp a b c d=if !zep a b p||!zep c d p then none else some (p,p):=by
   rw [zlp,zxI h1,<-hT,<-hp]
  rw [hO];conv=>whnf
  refine zzt (zhV ⟨PQ a,PQ b⟩ (PQ p) ⟨za.q.le (by decide),zb.q.le (by decide)⟩ (zm.q.le (by decide))) rfl ?_;rw [show zep (Sg.mk (PQ a) (PQ b)).A.v (Sg.mk (PQ a) (PQ b)).B.v (PQ p).v=zep a b p by simp only [PQ_v]]
  cases e1 : zep a b p with
  | false =>
   conv=>whnf
   exact zar rfl
  | true =>
   conv=>whnf
   refine zzt (zhV ⟨PQ c,PQ d⟩ (PQ p) ⟨zc.q.le (by decide),zd.q.le (by decide)⟩ (zm.q.le (by decide))) rfl ?_;rw [show zep (Sg.mk (PQ c) (PQ d)).A.v (Sg.mk (PQ c) (PQ d)).B.v (PQ p).v=zep c d p by simp only [PQ_v]]
   cases e2 : zep c d p with
   | false =>
    conv=>whnf
    exact zar rfl
   | true =>
    conv=>whnf
    exact zar rfl
def idxF {α : Type} (f : α->Bool) : Nat->List α->Int
 | _,[]=>-1
 | i,x::r=>if f x=true then i else idxF f (i+1) r
theorem zjq {α : Type} (f : α->Bool) : ∀ (l : List α) (i : Nat),decide (idxF f i l>=0)=l.any f
 | [],i=>rfl
 | x::r,i=>by
  by_cases h : f x=true
  ·rw [show idxF f i (x::r)=(i : Int) from zxJ h,zxN,h]; simp
  ·rw [show idxF f i (x::r)=idxF f (i+1) r from zxI h,zjq f r (i+1),zxN,Bool.eq_false_iff.2 h]; rfl
abbrev cloV (g : FuncId) (caps : List Value) : Value:=.func (.func g) #[] ⟨caps⟩

end Go.Sx
end
section
namespace Go.Sx
open Go Go.RowKit

def AV.fz (k b : Nat) : AV->AV
 | .p j off=>bif Nat.beq j k then .v (.pointer (some ⟨b,off,none⟩)) else .p j off
 | .s j off n c=>bif Nat.beq j k then .v (.slice (some ⟨b,off,none⟩) n c) else .s j off n c
 | x=>x
def AV.fzO (k : Nat) (v : Value) : AV->AV
 | .w j=>bif Nat.beq j k then .v v else .w j
 | x=>x
def SV.mp (f : AV->AV) : SV->SV
 | .o x=>.o (f x)
 | .a xs=>.a (xs.map f)
def ME.mp (f : AV->AV) : ME->ME
 | .box cs t=>.box (cs.map f) t
 | m=>m
def mpT (f : AV->AV) : List (Nat×SV)->List (Nat×SV)
 | []=>[]
 | (i,x)::r=>(i,x.mp f)::mpT f r
def mpM (f : AV->AV) : List (Nat×ME)->List (Nat×ME)
 | []=>[]
 | (i,x)::r=>(i,x.mp f)::mpM f r
def SS.fz (st : SS) (k : Nat) (f : AV->AV) (R : Res) : SS:=⟨mpT f st.tm,mpM f (rmL k st.me),R::st.re⟩
theorem zoQ {f : AV->AV} : ∀ {l : List (Nat×SV)} {i : Nat} {x : SV},lk i (mpT f l)=some x->∃ y,lk i l=some y/\x=y.mp f
 | [],i,x,h=>by simp [mpT,lk] at h
 | (j,y)::r,i,x,h=>by
  simp only [mpT,zaB] at h ⊢;split at h
  ·rename_i e; cases h; exact ⟨y,zxJ e,rfl⟩
  ·rename_i e; obtain ⟨z,h1,h2⟩:=zoQ h; exact ⟨z,(zxI e).trans h1,h2⟩
theorem ztb {f : AV->AV} : ∀ {l : List (Nat×ME)} {i : Nat} {x : ME},lk i (mpM f l)=some x->∃ y,lk i l=some y/\x=y.mp f
 | [],i,x,h=>by simp [mpM,lk] at h
 | (j,y)::r,i,x,h=>by
  simp only [mpM,zaB] at h ⊢;split at h
  ·rename_i e; cases h; exact ⟨y,zxJ e,rfl⟩
  ·rename_i e; obtain ⟨z,h1,h2⟩:=ztb h; exact ⟨z,(zxI e).trans h1,h2⟩
theorem SV.mp_real {E : Env} {f : AV->AV} (hf : ∀ x : AV,(f x).real E=x.real E) : ∀ x : SV,(x.mp f).real E=x.real E
 | .o x=>hf x
 | .a xs=>by
  show Value.agg ((xs.map f).map (AV.real E)).toArray=Value.agg (xs.map (AV.real E)).toArray;rw [zx0]; congr 2; exact zxl fun y _=>hf y

section
variable {P : Program} {T : TT} {C : Cx} {E : Env} {st : SS}
theorem SRE.fz {a : Act} {w : World} (h : SRE C E st a w) {k : Nat} {m0 : ME} (hk : lk k st.me=some m0) {f : AV->AV} (hf : ∀ x : AV,(f x).real E=x.real E) {R : Res} (hR : R.ok) (hφ : R.φ w) (hb : ∀ b∈R.bs,E.β k=some b) :
  SRE C E (st.fz k f R) a w:=by
 have hsub : ∀ {j : Nat} {x : ME},lk j (mpM f (rmL k st.me))=some x->j≠k/\∃ y,lk j st.me=some y/\x=y.mp f:=by
  intro j x hj;obtain ⟨y,h1,h2⟩:=ztb hj;rw [zhG] at h1;split at h1
  ·cases h1
  ·rename_i hne; exact ⟨hne,y,h1,h2⟩
 refine ⟨h.size,h.defers,fun i sv hi=>?_,⟨fun j x hj=>?_,fun j x b hj hjb=>?_,fun j j' x x' b hj hj' hjb hjb'=>?_,fun S hS=>?_,h.mem.ext,fun q b x hX hj=>?_⟩⟩
 ·obtain ⟨y,h1,rfl⟩:=zoQ hi;rw [SV.mp_real hf]; exact h.tm i y h1
 ·obtain ⟨_,y,h1,rfl⟩:=hsub hj;have:=h.mem.ent j y h1
  cases y with
  | box cs t =>
   obtain ⟨b,h2,h3⟩:=this;refine ⟨b,h2,?_⟩;rw [h3,zx0]
   congr 3; symm; exact zxl fun y _=>hf y
  | sym cs t=>exact this
  | own t es n xs=>exact this
 ·obtain ⟨_,y,h1,_⟩:=hsub hj; exact h.mem.ge j y b h1 hjb
 ·obtain ⟨_,y,h1,_⟩:=hsub hj; obtain ⟨_,y',h1',_⟩:=hsub hj'; exact h.mem.inj j j' y y' b h1 h1' hjb hjb'
 ·rcases zy1.1 hS with rfl | hS
  ·refine ⟨hR.1,hφ,fun b hbb=>⟨hR.2 w hφ b hbb,fun j x hj hjb=>?_⟩⟩;obtain ⟨hne,y,h1,_⟩:=hsub hj;exact hne (h.mem.inj j k y m0 b h1 hk hjb (hb b hbb))
  ·obtain ⟨r1,r2,r3⟩:=h.mem.res S hS;exact ⟨r1,r2,fun b hbb=>⟨(r3 b hbb).1,fun j x hj hjb=>by obtain ⟨_,y,h1,_⟩:=hsub hj; exact (r3 b hbb).2 j y h1 hjb⟩⟩
 ·obtain ⟨_,y,h1,_⟩:=hsub hj; exact h.mem.rig q b y hX h1
theorem zmf {k b : Nat} (hb : E.β k=some b) (x : AV) : (x.fz k b).real E=x.real E:=by
 cases x with
 | p j off =>
  simp only [AV.fz]
  cases h : Nat.beq j k with
  | false=>rfl
  | true=>have:=zxj h; subst this; simp [AV.real,hb]
 | s j off n c =>
  simp only [AV.fz]
  cases h : Nat.beq j k with
  | false=>rfl
  | true=>have:=zxj h; subst this; simp [AV.real,hb]
 | _=>rfl
theorem zmT {k : Nat} {v : Value} (hv : (AV.w k).real E=v) (x : AV) : (x.fzO k v).real E=x.real E:=by
 cases x with
 | w j =>
  simp only [AV.fzO]
  cases h : Nat.beq j k with
  | false=>rfl
  | true=>have:=zxj h; subst this; exact hv.symm
 | _=>rfl
theorem zi5 {A : Option Addr} {xs : List Value} {b : Nat} (h : b∈(zai A xs).bs) : ∃ a,A=some a/\b=a.block:=by
 have h2 : b∈SlB A xs:=h
 cases xs with
 | nil=>simp [SlB] at h2
 | cons x r =>
  cases A with
  | none=>simp [SlB] at h2
  | some a=>exact ⟨a,rfl,by simpa [SlB] using h2⟩
theorem WPS.freezeO (k : Nat) {t es n : Nat} {xs : List Value} {c : Code} {Q : Exit->SS->Prop} (hx : lk k st.me=some (.own t es n xs)) (h : ∀ A cp,n<=cp->WPS P C c (st.fz k (AV.fzO k (.slice A n cp)) (zai A xs)) Q) : WPS P C c st Q:=⟨fun a w hr=>by
 obtain ⟨E,hE⟩:=hr;obtain ⟨A,cp,hr2,hn,hs⟩:=zzU hx E w (fun k' mm _ hk'=>hE.mem.ent k' mm hk') (fun R hR=>(hE.mem.res R hR).2.1);refine (h A cp hn).wp a w ⟨E,hE.fz hx (zmT hr2) (zzk _ _) hs (fun b' hb'=>?_)⟩;obtain ⟨a',h1,h2⟩:=zi5 hb';subst h1;have h4 : Value.slice ((E.β k).map fun b=>⟨b,0,none⟩) (E.ω k).1 (E.ω k).2=.slice (some a') n cp:=hr2;injection h4 with h5
 cases hβ : E.β k with
 | none=>rw [hβ] at h5; cases h5
 | some d=>rw [hβ] at h5; simp only [zxp,zxq] at h5; rw [h2,<-h5]⟩
def SLX (C : Cx) (s : SS) (p : SS->Prop) : Prop:=∀ a w,SR C s a w->∃ t,p t/\SR C t a w
theorem SLX.of {s t : SS} {p : SS->Prop} (h : SLe C s t) (hp : p t) : SLX C s p:=fun a w hr=>⟨t,hp,h a w hr⟩
end
end Go.Sx
end
section
namespace Go.Sx
open Go Go.Proofs
abbrev ptM (p : Pt) : List AV:=[.v (.bool p.x.neg),.v (.string (bs p.x.num)),.v (.string (bs p.x.den)),.v (.bool p.y.neg),.v (.string (bs p.y.num)),.v (.string (bs p.y.den))]
abbrev sgM (e : Pt×Pt) : List AV:=[.v (.bool e.1.x.neg),.v (.string (bs e.1.x.num)),.v (.string (bs e.1.x.den)),.v (.bool e.1.y.neg),.v (.string (bs e.1.y.num)),.v (.string (bs e.1.y.den)),.v (.bool e.2.x.neg),.v (.string (bs e.2.x.num)),.v (.string (bs e.2.x.den)),.v (.bool e.2.y.neg),.v (.string (bs e.2.y.num)),.v (.string (bs e.2.y.den))]
theorem zaC.c1 {P : Program} {st : SS} {g g0 : FuncId} {args : List SV} {R : World->Ending->World->Prop} {k : Nat} {xs : List Value} {re : List Res} (mk : Value->List Value) (hx : boxV st k=some xs) (hm : SV.o (.clo g0 [.l k])∈args)
  (hargs : ∀ E,args.map (SV.real E)=mk ((SV.o (.clo g0 [.l k])).real E)) (hre : ∀ w,Sx.facts st.re w->Sx.facts re w) (h : ∀ a,FnM P g (mk (cloV g0 [ptrV a])) (Sx.facts (zai (some a) xs::re)) R) : zaC P g args st R:=by
 intro E w he hw;have hb : ∃ b ty,E.β k=some b/\w.heap[b]?=some (.cells xs.toArray ty (0,0)):=by
  have hk : (SV.o (.clo g0 [.l k])).has k=true:=by simp [SV.has,AV.has,CP.has]
  unfold boxV at hx;split at hx
  ·rename_i cs' ty hl;obtain ⟨b,hb,hcells⟩:=he k _ (zid hm hk) hl;rw [zbq E hx] at hcells;exact ⟨b,ty,hb,hcells⟩
  ·rename_i cs' ty hl
   cases hx
   obtain ⟨b,hb,hcells⟩:=he k _ (zid hm hk) hl;exact ⟨b,ty,hb,hcells⟩
  ·cases hx
 obtain ⟨b,ty,hb,hcells⟩:=hb;have hp : (SV.o (.clo g0 [.l k])).real E=cloV g0 [ptrV ⟨b,0,none⟩]:=by simp [SV.real,AV.real,CP.real,hb,ptrV]
 rw [hargs,hp];refine (h ⟨b,0,none⟩).calls w (fun R hR=>?_);rcases zy1.1 hR with rfl | hR
 ·exact .inr ⟨b,0,rfl,fun j v hj=>by rw [zcg hcells,zyo]; simpa using hj⟩
 ·exact hre w hw R hR

theorem zbJ (b o : Nat) : (some ⟨b,o+0,none⟩ : Option Addr)=Option.map (fun x : Addr=>x.add 0) (some ⟨b,o,none⟩):=rfl
abbrev sgB (s : Sg) : ME:=.box (sgM (s.A,s.B)) za8
abbrev ptB (p : Pt) : ME:=.box (ptM p) zaw
theorem WPS.pure {P : Program} {C : Cx} {st : SS} {c : Code} {Q : Exit->SS->Prop} {p : Prop} (hp : ∀ w,(∀ R∈st.re,R.φ w)->p) (h : p->WPS P C c st Q) : WPS P C c st Q:=⟨fun a w hr=>by
 obtain ⟨E,hE⟩:=hr;exact (h (hp w (fun R hR=>(hE.mem.res R hR).2.1))).wp a w ⟨E,hE⟩⟩
theorem ze1.empty {st : SS} {A : Option Addr} {n : Nat} {K : List Value->Prop} (hn : n=0) (hk : K []) : ze1 st A n K:=⟨[],hn.symm,fun v h=>(by cases h),fun w hw=>by
 cases A with
 | none=>exact .inl ⟨rfl,hn⟩
 | some a=>exact .inr ⟨a,rfl,fun j v h=>by simp at h⟩,hk⟩
theorem znP {α : Type} {f : α->List Value} {p : Value->Prop} (hf : ∀ x,∀ v∈f x,p v) : ∀ (l : List α),∀ v∈rowV f l,p v
 | [],v,h=>by cases h
 | x::l,v,h=>by
  rcases zyK.1 (show v∈f x++rowV f l from h) with h | h
  ·exact hf x v h
  ·exact znP hf l v h
theorem zlL : rawV (Q 0)=.agg ⟨[.bool false,.string ⟨#[]⟩,.string ⟨#[]⟩]⟩:=by rw [zd8]; rfl
end Go.Sx
end
section
namespace Go.Sx
abbrev zBH:=@List.pairwise_mergeSort
abbrev zBG:=@List.pairwise_cons
def insU (x : Rat) : List Rat->List Rat
 | []=>[x]
 | y::l=>if x<y then x::y::l else if x=y then y::l else y::insU x l
def ascL (l : List Rat) : List Rat:=l.foldr insU []
abbrev Asc (l : List Rat) : Prop:=l.Pairwise (· < ·)
theorem zct {x z : Rat} : ∀ {l : List Rat},z∈insU x l↔z=x\/z∈l
 | []=>by simp [insU]
 | y::l=>by
  unfold insU;split
  ·simp
  ·split
   ·rename_i h; subst h; simp
   ·rw [zy1,zct (l:=l),zy1];constructor
    ·rintro (h | h | h); exact .inr (.inl h); exact .inl h; exact .inr (.inr h)
    ·rintro (h | h | h); exact .inr (.inl h); exact .inl h; exact .inr (.inr h)
theorem zcb {x : Rat} : ∀ {l : List Rat},Asc l->Asc (insU x l)
 | [],_=>by simp [insU]
 | y::l,h=>by
  have h1:=zBG.1 h;unfold insU;split
  ·rename_i hx;refine zBG.2 ⟨fun z hz=>?_,h⟩;rcases zy1.1 hz with rfl | hz
   ·exact hx
   ·have:=h1.1 z hz; grind
  ·split
   ·exact h
   ·rename_i h2 h3;refine zBG.2 ⟨fun z hz=>?_,zcb h1.2⟩;rcases zct.1 hz with rfl | hz
    ·grind
    ·exact h1.1 z hz
theorem zbv {z : Rat} : ∀ {l : List Rat},z∈ascL l↔z∈l
 | []=>by simp [ascL]
 | x::l=>by
  show z∈insU x (ascL l)↔_;rw [zct,zbv,zy1]
theorem zdt : ∀ (l : List Rat),Asc (ascL l)
 | []=>List.Pairwise.nil
 | x::l=>zcb (zdt l)
theorem znA : ∀ {a b : List Rat},Asc a->Asc b->(∀ z,z∈a↔z∈b)->a=b
 | [],[],_,_,_=>rfl
 | [],y::b,_,_,h=>by have:=(h y).2 (zxA ..); cases this
 | x::a,[],_,_,h=>by have:=(h x).1 (zxA ..); cases this
 | x::a,y::b,ha,hb,h=>by
  have h1:=zBG.1 ha;have h2:=zBG.1 hb;have hxy : x=y:=by
   rcases zy1.1 ((h x).1 (zxA ..)) with e | hx
   ·exact e
   rcases zy1.1 ((h y).2 (zxA ..)) with e | hy
   ·exact e.symm
   have:=h2.1 x hx;have:=h1.1 y hy;grind
  subst hxy
  congr 1
  refine znA h1.2 h2.2 fun z=>⟨fun hz=>?_,fun hz=>?_⟩
  ·rcases zy1.1 ((h z).1 (zxB _ hz)) with e | h3
   ·have:=h1.1 z hz; grind
   ·exact h3
  ·rcases zy1.1 ((h z).2 (zxB _ hz)) with e | h3
   ·have:=h2.1 z hz; grind
   ·exact h3
section
variable {α : Type} [DecidableEq α]
def ddpG : α->List α->List α
 | _,[]=>[]
 | p,x::r=>if x=p then ddpG x r else x::ddpG x r
def ddp : List α->List α
 | []=>[]
 | x::r=>x::ddpG x r
theorem zlG : ∀ (p : α) (l : List α) (x : α),ddpG p (l++[x])=ddpG p l++(if x=(p::l).getLast (by simp) then [] else [x])
 | p,[],x=>by by_cases h : x=p <;> simp [ddpG,h]
 | p,y::l,x=>by
  simp only [zyw,ddpG];rw [zlG y l x];have e : (p::y::l).getLast (by simp)=(y::l).getLast (by simp):=List.getLast_cons _;rw [e];by_cases h : y=p <;> simp [h]
theorem zrb {l : List α} (h : l≠[]) (x : α) : ddp (l++[x])=if x=l.getLast h then ddp l else ddp l++[x]:=by
 cases l with
 | nil=>exact absurd rfl h
 | cons y r =>
  show y::ddpG y (r++[x])=_;rw [zlG];split
  ·simp [ddp]
  ·simp [ddp]
theorem zm1 {z : α} : ∀ {p : α} {l : List α},(z∈ddpG p l\/z=p)↔(z∈l\/z=p)
 | p,[]=>by simp [ddpG]
 | p,x::r=>by
  have ih:=zm1 (z:=z) (p:=x) (l:=r);simp only [ddpG];split
  ·rename_i e; subst e;rw [ih,zy1];constructor
   ·rintro (h | h); exact .inl (.inr h); exact .inr h
   ·rintro ((h | h) | h); exact .inr h; exact .inl h; exact .inr h
  ·rw [zy1,zy1];constructor
   ·rintro ((h | h) | h)
    ·exact .inl (.inl h)
    ·rcases ih.1 (.inl h) with h | h; exact .inl (.inr h); exact .inl (.inl h)
    ·exact .inr h
   ·rintro ((h | h) | h)
    ·exact .inl (.inl h)
    ·rcases ih.2 (.inl h) with h | h; exact .inl (.inr h); exact .inl (.inl h)
    ·exact .inr h
theorem zlR {z : α} {l : List α} : z∈ddp l↔z∈l:=by
 cases l with
 | nil=>exact Iff.rfl
 | cons x r =>
  have:=zm1 (z:=z) (p:=x) (l:=r);simp only [ddp,zy1];constructor
  ·rintro (h | h)
   ·exact .inl h
   ·rcases this.1 (.inl h) with h | h; exact .inr h; exact .inl h
  ·rintro (h | h)
   ·exact .inl h
   ·rcases this.2 (.inl h) with h | h; exact .inr h; exact .inl h
theorem zjj {β : Type} [DecidableEq β] {f : α->β} (hf : ∀ x y,f x=f y->x=y) : ∀ (p : α) (l : List α),ddpG (f p) (l.map f)=(ddpG p l).map f
 | p,[]=>rfl
 | p,x::r=>by
  simp only [zxT,ddpG];by_cases h : x=p
  ·rw [zxJ h,zxJ (by rw [h]),zjj hf]
  ·rw [zxI h,zxI (fun e=>h (hf _ _ e)),zjj hf]; rfl
theorem ztP {β : Type} [DecidableEq β] {f : α->β} (hf : ∀ x y,f x=f y->x=y) (l : List α) : ddp (l.map f)=(ddp l).map f:=by
 cases l with
 | nil=>rfl
 | cons x r=>simp only [zxT,ddp,zjj hf]
theorem zhJ (l : List α) : (ddp l).length<=l.length:=by
 have : ∀ (p : α) (l : List α),(ddpG p l).length<=l.length:=fun p l=>by
  induction l generalizing p with
  | nil=>exact zxr _
  | cons x r ih =>
   simp only [ddpG];split
   ·exact Nat.le_succ_of_le (ih x)
   ·exact zz6 (ih x)
 cases l with
 | nil=>exact zxr _
 | cons x r=>exact zz6 (this x r)
end
theorem ztU {l : List Rat} (h : l.Pairwise (·<=·)) : Asc (ddp l):=by
 have key : ∀ (l : List Rat) (p : Rat),(p::l).Pairwise (·<=·)->Asc (p::ddpG p l):=fun l=>by
  induction l with
  | nil=>intro p _; simp [ddpG]
  | cons x r ih =>
   intro p hp;have h1:=zBG.1 hp;have h2:=ih x h1.2;have hpx:=h1.1 x (zxA ..);simp only [ddpG];split
   ·rename_i e; rw [<-e]; exact h2
   ·rename_i e;refine zBG.2 ⟨fun z hz=>?_,h2⟩;rcases zy1.1 hz with rfl | hz
    ·grind
    ·have:=(zBG.1 h2).1 z hz; grind
 cases l with
 | nil=>exact List.Pairwise.nil
 | cons x r=>exact key r x h
def zlT (l : List Rat) : List Rat:=l.mergeSort fun x y=>decide (x<=y)
theorem zcK (l : List Rat) : (zlT l).Perm l:=List.mergeSort_perm _ _
theorem zkc (l : List Rat) : (zlT l).Pairwise (·<=·):=by
 have:=zBH (le:=fun x y : Rat=>decide (x<=y)) (fun a b c h1 h2=>by simp at *; grind) (fun a b=>by simp; grind) l;exact this.imp (by intro a b h; simpa using h)
theorem zd0 (l : List Rat) : ddp (zlT l)=ascL l :=
 znA (ztU (zkc l)) (zdt l) fun z=>by rw [zlR,zbv,(zcK l).mem_iff]
end Go.Sx
end
