/- A part of the proof of a law: the symbolic executor, contracts of functions of the program, plain laws. No conditions. -/
import Derived.Test.YtcmekchbdbakgaaGreatM4
import Derived.Test.YtcmekchbdbakgaaGreatM3
set_option linter.unusedVariables false
set_option linter.unusedSimpArgs false
set_option linter.unusedSectionVars false
section
set_option maxRecDepth 10000
set_option maxHeartbeats 2000000
namespace Go.Sx
open Go Go.Proofs
abbrev Raw.little (r : Raw) : Prop:=r.num.length≤3∧r.den.length≤3
theorem Raw.little_n {r : Raw} (h : r.little) : r.n.natAbs<16777216:=by rw [Raw.n,za4]; exact za2 h.1
theorem Raw.little_d {r : Raw} (h : r.little) : r.d<16777216:=Raw.d_bound (by decide) h.2
theorem zeQ {a b : Int} (ha : a.natAbs<16777216) (hb : b.natAbs<16777216) : (a*b).natAbs<281474976710656:=by
 rw [Int.natAbs_mul]; exact Nat.mul_lt_mul'' ha hb
theorem ztL {a b c d : Int} (h : a=c) (k : b=d) : [SV.o (.v (.int .i64 a)),SV.o (.v (.int .i64 b))]=vsv [.int .i64 c,.int .i64 d]:=by rw [h,k]; rfl
theorem zBe (r s : Raw) (hr : r.little) (hs : s.little) : Fn PP zdT [.int .i64 r.n,.int .i64 r.d,.int .i64 s.n,.int .i64 s.d] (qV (r.v+s.v)):=by
 refine Fn.of zab mixed zmR rfl rfl (Nat.le_of_ble_eq_true rfl) ?_
 intro w
 have b1:=zeQ (Raw.little_n hr) (show ((s.d : Nat) : Int).natAbs<16777216 by rw [Int.natAbs_natCast]; exact Raw.little_d hs)
 have b2:=zeQ (Raw.little_n hs) (show ((r.d : Nat) : Int).natAbs<16777216 by rw [Int.natAbs_natCast]; exact Raw.little_d hr)
 have b3:=zeQ (show ((r.d : Nat) : Int).natAbs<16777216 by rw [Int.natAbs_natCast]; exact Raw.little_d hr) (show ((s.d : Nat) : Int).natAbs<16777216 by rw [Int.natAbs_natCast]; exact Raw.little_d hs)
 have hp:=dpos r s
 have h1 : IntKind.i64.wrap (IntKind.i64.wrap (r.n*(s.d : Int))+IntKind.i64.wrap (s.n*(r.d : Int)))=r.n*s.d+s.n*r.d:=by
  rw [wrap_i64 (n:=r.n*(s.d : Int)) (by omega) (by omega),wrap_i64 (n:=s.n*(r.d : Int)) (by omega) (by omega),wrap_i64 (by omega) (by omega)]
 have h2 : IntKind.i64.wrap ((r.d : Int)*(s.d : Int))=(r.d : Int)*s.d:=wrap_i64 (by omega) (by omega)
 conv=>whnf
 refine zac.fn (zwN (r.n*s.d+s.n*r.d) ((r.d : Int)*s.d) (by omega) hp (by omega)) (ztL h1 h2) ?_
 conv=>whnf
 refine zaa ?_
 rw [dnat,Raw.v,Raw.v,Rat.mkRat_add_mkRat _ _ r.d_ne s.d_ne]
theorem zA5 (r s : Raw) (hr : r.little) (hs : s.little) : Fn PP zdQ [.int .i64 r.n,.int .i64 r.d,.int .i64 s.n,.int .i64 s.d] (qV (r.v*s.v)):=by
 refine Fn.of zab mixed zmF rfl rfl (Nat.le_of_ble_eq_true rfl) ?_
 intro w
 have b1:=zeQ (Raw.little_n hr) (Raw.little_n hs)
 have b3:=zeQ (show ((r.d : Nat) : Int).natAbs<16777216 by rw [Int.natAbs_natCast]; exact Raw.little_d hr) (show ((s.d : Nat) : Int).natAbs<16777216 by rw [Int.natAbs_natCast]; exact Raw.little_d hs)
 have hp:=dpos r s
 have h1 : IntKind.i64.wrap (r.n*s.n)=r.n*s.n:=wrap_i64 (by omega) (by omega)
 have h2 : IntKind.i64.wrap ((r.d : Int)*(s.d : Int))=(r.d : Int)*s.d:=wrap_i64 (by omega) (by omega)
 conv=>whnf
 refine zac.fn (zwN (r.n*s.n) ((r.d : Int)*s.d) (by omega) hp (by omega)) (ztL h1 h2) ?_
 conv=>whnf
 refine zaa ?_
 rw [dnat,Raw.v,Raw.v,Rat.mkRat_mul_mkRat]
theorem zvu (r s : Raw) (hr : r.little) (hs : s.little) : Fn PP zcs [.int .i64 r.n,.int .i64 r.d,.int .i64 s.n,.int .i64 s.d] (.int .i64 (cmpQ r.v s.v)):=by
 refine Fn.of zab mixed ziO rfl rfl (Nat.le_of_ble_eq_true rfl) ?_
 intro w
 have b1:=zeQ (Raw.little_n hr) (show ((s.d : Nat) : Int).natAbs<16777216 by rw [Int.natAbs_natCast]; exact Raw.little_d hs)
 have b2:=zeQ (Raw.little_n hs) (show ((r.d : Nat) : Int).natAbs<16777216 by rw [Int.natAbs_natCast]; exact Raw.little_d hr)
 have h1 : IntKind.i64.wrap (r.n*(s.d : Int))=r.n*s.d:=wrap_i64 (by omega) (by omega)
 have h2 : IntKind.i64.wrap (s.n*(r.d : Int))=s.n*r.d:=wrap_i64 (by omega) (by omega)
 rw [zkZ]
 conv=>whnf
 refine zah ?_ ?_
 ·intro h
  have h3 : IntKind.i64.wrap (r.n*(s.d : Int))<IntKind.i64.wrap (s.n*(r.d : Int)):=of_decide_eq_true h
  rw [h1,h2] at h3
  conv=>whnf
  refine zaa ?_
  rw [zma h3]
 ·intro h
  have h3 : ¬IntKind.i64.wrap (r.n*(s.d : Int))<IntKind.i64.wrap (s.n*(r.d : Int)):=of_decide_eq_false h
  rw [h1,h2] at h3
  conv=>whnf
  refine zah ?_ ?_
  ·intro h
   have h4 : IntKind.i64.wrap (r.n*(s.d : Int))>IntKind.i64.wrap (s.n*(r.d : Int)):=of_decide_eq_true h
   rw [h1,h2] at h4
   conv=>whnf
   refine zaa ?_
   rw [zlv h4]
  ·intro h
   have h4 : ¬IntKind.i64.wrap (r.n*(s.d : Int))>IntKind.i64.wrap (s.n*(r.d : Int)):=of_decide_eq_false h
   rw [h1,h2] at h4
   conv=>whnf
   refine zaa ?_
   rw [cmpZ,if_neg h3,if_neg h4]
theorem zwj (r s : Raw) (f g : FuncId) (t : Raw) (hr : r.sm KK) (hs : s.sm KK) (hf : r.little→s.little→Fn PP f [.int .i64 r.n,.int .i64 r.d,.int .i64 s.n,.int .i64 s.d] (rawV t))
  (hg : Fn PP g [zkh r.neg (bs r.num) false (bs r.den1),zkh s.neg (bs s.num) false (bs s.den1)] (rawV t)) : Fn PP zcX [rawV r,rawV s,fnV f,fnV g] (rawV t):=by
 refine Fn.of zab mixed zf9 rfl rfl (Nat.le_of_ble_eq_true rfl) ?_
 intro w
 have big : r.sm 10000000000:=⟨Nat.le_trans hr.1 (by decide),Nat.le_trans hr.2 (by decide)⟩
 have big' : s.sm 10000000000:=⟨Nat.le_trans hs.1 (by decide),Nat.le_trans hs.2 (by decide)⟩
 conv=>whnf
 refine zac.fn (zfD r) rfl ?_
 by_cases h1 : r.little
 ·rw [mach,if_pos h1]
  conv=>whnf
  refine zac.fn (zfD s) rfl ?_
  by_cases h2 : s.little
  ·rw [mach,if_pos h2]
   conv=>whnf
   refine zac.fn (hf h1 h2) rfl ?_
   conv=>whnf
   exact zaa rfl
  ·rw [mach,if_neg h2]
   conv=>whnf
   refine zaj.quiet (by kernel_rfl) ?_
   conv=>whnf
   refine zad.fn (c_of r big) rfl ?_
   conv=>whnf
   refine zad.fn (c_of s big') rfl ?_
   conv=>whnf
   refine zad.fn hg rfl ?_
   conv=>whnf
   exact zaa rfl
 ·rw [mach,if_neg h1]
  conv=>whnf
  refine zac.fn (zfD s) rfl ?_
  by_cases h2 : s.little
  ·rw [mach,if_pos h2]
   conv=>whnf
   refine zaj.quiet (by kernel_rfl) ?_
   conv=>whnf
   refine zad.fn (c_of r big) rfl ?_
   conv=>whnf
   refine zad.fn (c_of s big') rfl ?_
   conv=>whnf
   refine zad.fn hg rfl ?_
   conv=>whnf
   exact zaa rfl
  ·rw [mach,if_neg h2]
   conv=>whnf
   refine zaj.quiet (by kernel_rfl) ?_
   conv=>whnf
   refine zad.fn (c_of r big) rfl ?_
   conv=>whnf
   refine zad.fn (c_of s big') rfl ?_
   conv=>whnf
   refine zad.fn hg rfl ?_
   conv=>whnf
   exact zaa rfl
theorem zzE (r s : Raw) (f g : FuncId) (t : Int) (hr : r.sm KK) (hs : s.sm KK) (hf : r.little→s.little→Fn PP f [.int .i64 r.n,.int .i64 r.d,.int .i64 s.n,.int .i64 s.d] (.int .i64 t))
  (hg : Fn PP g [zkh r.neg (bs r.num) false (bs r.den1),zkh s.neg (bs s.num) false (bs s.den1)] (.int .i64 t)) : Fn PP zeA [rawV r,rawV s,fnV f,fnV g] (.int .i64 t):=by
 refine Fn.of zab mixed zjI rfl rfl (Nat.le_of_ble_eq_true rfl) ?_
 intro w
 have big : r.sm 10000000000:=⟨Nat.le_trans hr.1 (by decide),Nat.le_trans hr.2 (by decide)⟩
 have big' : s.sm 10000000000:=⟨Nat.le_trans hs.1 (by decide),Nat.le_trans hs.2 (by decide)⟩
 conv=>whnf
 refine zac.fn (zfD r) rfl ?_
 by_cases h1 : r.little
 ·rw [mach,if_pos h1]
  conv=>whnf
  refine zac.fn (zfD s) rfl ?_
  by_cases h2 : s.little
  ·rw [mach,if_pos h2]
   conv=>whnf
   refine zac.fn (hf h1 h2) rfl ?_
   conv=>whnf
   exact zaa rfl
  ·rw [mach,if_neg h2]
   conv=>whnf
   refine zaj.quiet (by kernel_rfl) ?_
   conv=>whnf
   refine zad.fn (c_of r big) rfl ?_
   conv=>whnf
   refine zad.fn (c_of s big') rfl ?_
   conv=>whnf
   refine zad.fn hg rfl ?_
   conv=>whnf
   exact zaa rfl
 ·rw [mach,if_neg h1]
  conv=>whnf
  refine zac.fn (zfD s) rfl ?_
  by_cases h2 : s.little
  ·rw [mach,if_pos h2]
   conv=>whnf
   refine zaj.quiet (by kernel_rfl) ?_
   conv=>whnf
   refine zad.fn (c_of r big) rfl ?_
   conv=>whnf
   refine zad.fn (c_of s big') rfl ?_
   conv=>whnf
   refine zad.fn hg rfl ?_
   conv=>whnf
   exact zaa rfl
  ·rw [mach,if_neg h2]
   conv=>whnf
   refine zaj.quiet (by kernel_rfl) ?_
   conv=>whnf
   refine zad.fn (c_of r big) rfl ?_
   conv=>whnf
   refine zad.fn (c_of s big') rfl ?_
   conv=>whnf
   refine zad.fn hg rfl ?_
   conv=>whnf
   exact zaa rfl
theorem zrI (r s : Raw) (hr : r.sm KK) (hs : s.sm KK) : Fn PP zfk [rawV r,rawV s] (qV (r.v+s.v)):=by
 refine Fn.of zab mixed zoR rfl rfl (Nat.le_of_ble_eq_true rfl) ?_
 intro w
 conv=>whnf
 refine zac.fn (zwj r s zdT zdS (Q (r.v+s.v)) hr hs (zBe r s) (zBz r s hr hs)) rfl ?_
 conv=>whnf
 exact zaa rfl
theorem zrM (r s : Raw) (hr : r.sm KK) (hs : s.sm KK) : Fn PP zdr [rawV r,rawV s] (qV (r.v*s.v)):=by
 refine Fn.of zab mixed zpm rfl rfl (Nat.le_of_ble_eq_true rfl) ?_
 intro w
 conv=>whnf
 refine zac.fn (zwj r s zdQ zdR (Q (r.v*s.v)) hr hs (zA5 r s) (zB9 r s hr hs)) rfl ?_
 conv=>whnf
 exact zaa rfl
theorem zbp (r s : Raw) (hr : r.sm KK) (hs : s.sm KK) : Fn PP zb1 [rawV r,rawV s] (.int .i64 (cmpQ r.v s.v)):=by
 refine Fn.of zab mixed zkn rfl rfl (Nat.le_of_ble_eq_true rfl) ?_
 intro w
 conv=>whnf
 refine zac.fn (zzE r s zcs zct (cmpQ r.v s.v) hr hs (zvu r s) (zu6 r s hr hs)) rfl ?_
 conv=>whnf
 exact zaa rfl
end Go.Sx
end
section
set_option maxRecDepth 10000
set_option maxHeartbeats 2000000
namespace Go.Sx
open Go Go.Proofs
def Raw.opp (r : Raw) : Raw:=⟨!r.neg,r.num,r.den⟩
theorem Raw.opp_v (r : Raw) : r.opp.v=-r.v:=by
 have h1 : r.opp.n=-r.n:=zvU r.neg (nat r.num)
 have h2 : r.opp.d=r.d:=rfl
 rw [Raw.v,Raw.v,Rat.neg_mkRat,h1,h2]
theorem Raw.opp_sm {r : Raw} {k : Nat} (h : r.sm k) : r.opp.sm k:=h
theorem Raw.big {r : Raw} (hr : r.sm KK) : r.sm 10000000000:=⟨Nat.le_trans hr.1 (by decide),Nat.le_trans hr.2 (by decide)⟩
theorem zBJ (r : Raw) (hr : r.sm KK) : Fn PP za3 [zkh r.neg (bs r.num) false (bs r.den1)] (qV r.v):=by
 have:=ztD r.neg r.num r.den1 (Nat.le_trans hr.1 (by decide)) (Nat.le_trans (Raw.den1_len (by decide) hr.2) (by decide)) (by rw [Raw.nat_den1]; exact r.d_pos)
 rw [Raw.nat_den1] at this
 exact this
theorem zBo (r : Raw) (hr : r.sm KK) : Fn PP zi3 [rawV r] (qV (-r.v)):=by
 refine Fn.of zab mixed zpy rfl rfl (Nat.le_of_ble_eq_true rfl) ?_
 intro w
 conv=>whnf
 refine zac.fn (c_of r.opp (Raw.big (Raw.opp_sm hr))) rfl ?_
 conv=>whnf
 refine zac.fn (zBJ r.opp (Raw.opp_sm hr)) rfl ?_
 conv=>whnf
 refine zaa ?_
 rw [Raw.opp_v]
theorem zj9 (r s : Raw) (hr : r.sm KK) (hs : s.sm KK) : Fn PP zfq [rawV r,rawV s] (qV (r.v-s.v)):=by
 refine Fn.of zab mixed zo0 rfl rfl (Nat.le_of_ble_eq_true rfl) ?_
 intro w
 conv=>whnf
 refine zac.fn (zrI r s.opp hr (Raw.opp_sm hs)) rfl ?_
 conv=>whnf
 refine zaa ?_
 rw [Raw.opp_v,Rat.sub_eq_add_neg]
theorem zwG (r : Raw) : cmpQ r.v 0=cmpZ r.n 0:=by
 have h:=zkZ r ⟨false,[],[]⟩
 rw [Raw.zero_v] at h
 rw [h]
 have e1 : ((⟨false,[],[]⟩ : Raw).d : Int)=1:=rfl
 have e2 : (⟨false,[],[]⟩ : Raw).n=0:=rfl
 rw [e1,e2,Int.mul_one,Int.zero_mul]
theorem zjZ (r : Raw) (hr : r.sm KK) : Fn PP zg1 [rawV r] (.int .i64 (cmpQ r.v 0)):=by
 refine Fn.of zab mixed zou rfl rfl (Nat.le_of_ble_eq_true rfl) ?_
 intro w
 conv=>whnf
 refine zac.fn (c_of r (Raw.big hr)) rfl ?_
 conv=>whnf
 refine zac.fn (zkm r.neg false r.num [] (Nat.le_trans hr.1 (by decide)) (by decide)) rfl ?_
 conv=>whnf
 refine zaa ?_
 rw [zwG]; rfl
theorem zy9 (n : Int) : mkRat n 1=(n : Rat):=Rat.mkRat_self (n : Rat)
theorem zwI (n : Int) (h1 : -9223372036854775808≤n) (h2 : n≤9223372036854775807) : Fn PP zli [.int .i64 n] (qV (n : Rat)):=by
 refine Fn.of zab mixed zqR rfl rfl (Nat.le_of_ble_eq_true rfl) ?_
 intro w
 conv=>whnf
 refine zac.fn (c_Of n h1 h2) rfl ?_
 conv=>whnf
 refine zac.fn (c_Of 1 (by decide) (by decide)) rfl ?_
 conv=>whnf
 refine zac.fn (zhv n 1 (Nat.le_trans (za8 (k:=8) (by omega)) (by decide)) (Nat.le_trans (za8 (k:=1) (by decide)) (by decide)) (by decide)) rfl ?_
 conv=>whnf
 refine zaa ?_
 rw [show ((1 : Int)).natAbs=1 from rfl,zy9]
theorem zzn (x : Int) (hx : (bytes x.natAbs).length≤10000000000) : Fn PP zhq [zV x] (zV (-x)):=by
 have:=zCR (decide (x<0)) (bytes x.natAbs) hx
 rw [zal,sg_z] at this
 exact this
def newV (x y : Int) : Value:=if y=0 then .tuple #[qV 0,.int .i64 10] else .tuple #[qV (Rat.divInt x y),.int .i64 0]
theorem q0 : qV 0=.agg ⟨[.bool false,.string ⟨#[]⟩,.string ⟨#[]⟩]⟩:=by rw [qV,zhg]; rfl
theorem zBY (x y : Int) (hx : (bytes x.natAbs).length≤1000000000) (hy : (bytes y.natAbs).length≤1000000000) : Fn PP zi9 [zV x,zV y] (newV x y):=by
 refine Fn.of zab mixed zo6 rfl rfl (Nat.le_of_ble_eq_true rfl) ?_
 intro w
 have hc:=zkm (decide (y<0)) false (bytes y.natAbs) [] (by omega) (by decide)
 rw [zal,sg_z] at hc
 conv=>whnf
 refine zac.fn hc rfl ?_
 have e0 : sg false (nat [])=0:=rfl
 rw [e0]
 rcases Int.lt_trichotomy y 0 with h | h | h
 ·rw [zma h]
  conv=>whnf
  refine zaj.late [(4,2,[2,3])] (by kernel_rfl) ?_
  conv=>whnf
  refine zad.fn (zzn x (by omega)) rfl ?_
  conv=>whnf
  refine zad.fn (zzn y (by omega)) rfl ?_
  conv=>whnf
  refine zac.fn (zhv (-x) (-y) (by rw [Int.natAbs_neg]; exact hx) (by rw [Int.natAbs_neg]; exact hy) (by omega)) rfl ?_
  conv=>whnf
  refine zas ?_
  rw [newV,if_neg (by omega)]
  have : Rat.divInt x y=mkRat (-x) (-y).natAbs:=by
   rw [←Rat.neg_divInt_neg,←Rat.divInt_ofNat]; congr 1; omega
  rw [this]
 ·subst h
  conv=>whnf
  refine zas ?_
  rw [newV,if_pos rfl,q0]
 ·rw [zlv h]
  conv=>whnf
  refine zac.fn (zhv x y hx hy h) rfl ?_
  conv=>whnf
  refine zas ?_
  rw [newV,if_neg (by omega)]
  have : Rat.divInt x y=mkRat x y.natAbs:=by
   rw [←Rat.divInt_ofNat]; congr 1; omega
  rw [this]
def quoV (x y : Rat) : Value:=if y=0 then .tuple #[qV 0,.int .i64 10] else .tuple #[qV (x/y),.int .i64 0]
theorem zqz (s : Raw) : s.v=0↔s.n=0:=Rat.mkRat_eq_zero s.d_ne
theorem zzP (r s : Raw) : Rat.divInt (r.n*s.d) ((r.d : Int)*s.n)=r.v/s.v:=by
 rw [Rat.div_def,Raw.v,Raw.v,←Rat.divInt_ofNat,←Rat.divInt_ofNat,Rat.inv_divInt,Rat.divInt_mul_divInt]
theorem zsK (r s : Raw) (hr : r.sm KK) (hs : s.sm KK) : Fn PP zjh [rawV r,rawV s] (quoV r.v s.v):=by
 refine Fn.of zab mixed zpi rfl rfl (Nat.le_of_ble_eq_true rfl) ?_
 intro w
 have b1:=zc8 (zda hr) (zdK hs)
 have b2:=zc8 (zdK hr) (zda hs)
 conv=>whnf
 refine zaj.late [(6,6,[2,3])] (by kernel_rfl) ?_
 conv=>whnf
 refine zad.fn (c_of r (Raw.big hr)) rfl ?_
 conv=>whnf
 refine zad.fn (c_of s (Raw.big hs)) rfl ?_
 conv=>whnf
 refine zaj.quiet (by kernel_rfl) ?_
 conv=>whnf
 refine zad.fn (zxv hr hs) rfl ?_
 conv=>whnf
 refine zad.fn (zCz hr hs) rfl ?_
 conv=>whnf
 refine zad.fn (zBY (r.n*s.d) ((r.d : Int)*s.n) (Nat.le_trans (zit b1) (by decide)) (Nat.le_trans (zit b2) (by decide))) rfl ?_
 have hz : ((r.d : Int)*s.n=0)↔s.v=0:=by
  rw [zqz,Int.mul_eq_zero]
  have:=r.d_pos
  constructor
  ·rintro (h | h)
   ·omega
   ·exact h
  ·exact .inr
 by_cases h : s.v=0
 ·rw [newV,if_pos (hz.2 h)]
  conv=>whnf
  refine zas ?_
  rw [quoV,if_pos h]
 ·rw [newV,if_neg (fun h2=>h (hz.1 h2)),zzP]
  conv=>whnf
  refine zas ?_
  rw [quoV,if_neg h]
theorem eqR (r s : Raw) : (r.neg==s.neg&&((bs r.num).toList==(bs s.num).toList&&((bs r.den).toList==(bs s.den).toList&&true)))=decide (r=s):=by
 rw [Bool.eq_iff_iff]
 simp only [Bool.and_eq_true,beq_iff_eq,decide_eq_true_eq,zbn]
 constructor
 ·rintro ⟨h1,h2,h3,_⟩
  cases r; cases s; simp_all
 ·rintro rfl; exact ⟨rfl,rfl,rfl,trivial⟩
def zgp (r : Raw) : Value:=.int .i64 (if r.ok then 0 else 1)
theorem zyB (r : Raw) (hr : r.sm KK) : Fn PP zgt [rawV r] (zgp r):=by
 refine Fn.of zab mixed zmJ rfl rfl (Nat.le_of_ble_eq_true rfl) ?_
 intro w
 conv=>whnf
 refine zaj.quiet (by kernel_rfl) ?_
 conv=>whnf
 refine zad.fn (c_of r (Raw.big hr)) rfl ?_
 conv=>whnf
 refine zad.fn (zBJ r hr) rfl ?_
 conv=>whnf
 refine zah ?_ ?_
 ·intro h
  have h1 : ¬r.ok:=by
   intro h2
   have h3 : (!(r.neg==(Q r.v).neg&&((bs r.num).toList==(bs (Q r.v).num).toList&&((bs r.den).toList==(bs (Q r.v).den).toList&&true))))=true:=h
   rw [eqR,decide_eq_true (show r=Q r.v from h2)] at h3; cases h3
  conv=>whnf
  refine zaa ?_
  rw [zgp,if_neg h1]
 ·intro h
  have h1 : r.ok:=by
   have h3 : (!(r.neg==(Q r.v).neg&&((bs r.num).toList==(bs (Q r.v).num).toList&&((bs r.den).toList==(bs (Q r.v).den).toList&&true))))=false:=h
   rw [eqR] at h3
   have : decide (r=Q r.v)=true:=by cases hd : decide (r=Q r.v) with | true=>rfl | false=>rw [hd] at h3; cases h3
   exact of_decide_eq_true this
  conv=>whnf
  refine zaa ?_
  rw [zgp,if_pos h1]
end Go.Sx
end
section
set_option maxRecDepth 10000
set_option maxHeartbeats 2000000
namespace Go.Sx
open Go Go.Proofs
structure Pt where
 x : Raw
 y : Raw
deriving DecidableEq
def Pt.v (p : Pt) : V:=⟨p.x.v,p.y.v⟩
def Pt.sm (k : Nat) (p : Pt) : Prop:=p.x.sm k∧p.y.sm k
def PQ (a : V) : Pt:=⟨Q a.x,Q a.y⟩
@[simp] theorem PQ_v (a : V) : (PQ a).v=a:=by simp [Pt.v,PQ]
abbrev pV (p : Pt) : Value:=.agg ⟨[.bool p.x.neg,.string (bs p.x.num),.string (bs p.x.den),.bool p.y.neg,.string (bs p.y.num),.string (bs p.y.den)]⟩
def SzV (k : Nat) (a : V) : Prop:=Sz k a.x∧Sz k a.y
theorem Raw.sm.le {r : Raw} {k m : Nat} (h : r.sm k) (hm : k≤m) : r.sm m:=⟨Nat.le_trans h.1 hm,Nat.le_trans h.2 hm⟩
theorem Pt.sm.le {p : Pt} {k m : Nat} (h : p.sm k) (hm : k≤m) : p.sm m:=⟨h.1.le hm,h.2.le hm⟩
theorem Pt.sm.sz {p : Pt} {k : Nat} (hk : 0<k) (h : p.sm k) : SzV k p.v:=⟨Raw.sz hk h.1.1 h.1.2,Raw.sz hk h.2.1 h.2.2⟩
theorem SzV.q {k : Nat} {a : V} (h : SzV k a) : (PQ a).sm k:=⟨h.1.q,h.2.q⟩
theorem SzV.le {k m : Nat} {a : V} (h : SzV k a) (hm : k≤m) : SzV m a:=⟨h.1.le hm,h.2.le hm⟩
theorem SzV.add {k m : Nat} {a b : V} (h : SzV k a) (h' : SzV m b) : SzV (k+m+1) (a+b):=⟨h.1.add h'.1,h.2.add h'.2⟩
theorem SzV.sub {k m : Nat} {a b : V} (h : SzV k a) (h' : SzV m b) : SzV (k+m+1) (a-b):=⟨h.1.sub h'.1,h.2.sub h'.2⟩
theorem SzV.scale {k m : Nat} {a : V} {t : Rat} (h : SzV k a) (h' : Sz m t) : SzV (k+m) (a.scale t):=⟨h.1.mul h',h.2.mul h'⟩
theorem SzV.cross {k m : Nat} {a b : V} (h : SzV k a) (h' : SzV m b) : Sz ((k+m)+(k+m)+1) (a.cross b):=(h.1.mul h'.2).sub (h.2.mul h'.1)
theorem SzV.at {k m n : Nat} {a b : V} {t : Rat} (h : SzV k a) (h' : SzV m b) (ht : Sz n t) : SzV (k+((m+k+1)+n)+1) (a.at b t):=h.add ((h'.sub h).scale ht)
abbrev KV : Nat:=1000000
theorem zub (p q : Pt) (f : FuncId) (a b : Raw) (h1 : Fn PP f [rawV p.x,rawV q.x] (rawV a)) (h2 : Fn PP f [rawV p.y,rawV q.y] (rawV b)) : Fn PP zko [pV p,pV q,fnV f] (pV ⟨a,b⟩):=by
 refine Fn.of zab mixed zqy rfl rfl (Nat.le_of_ble_eq_true rfl) ?_
 intro w
 conv=>whnf
 refine zaj.quiet (by kernel_rfl) ?_
 conv=>whnf
 refine zad.fn h1 rfl ?_
 conv=>whnf
 refine zad.fn h2 rfl ?_
 conv=>whnf
 exact zaa rfl
theorem zzf (p q : Pt) (hp : p.sm KK) (hq : q.sm KK) : Fn PP zmu [pV p,pV q] (pV (PQ (p.v+q.v))):=by
 refine Fn.of zab mixed zsT rfl rfl (Nat.le_of_ble_eq_true rfl) ?_
 intro w
 conv=>whnf
 refine zac.fn (zub p q zfk (Q (p.x.v+q.x.v)) (Q (p.y.v+q.y.v)) (zrI _ _ hp.1 hq.1) (zrI _ _ hp.2 hq.2)) rfl ?_
 conv=>whnf
 exact zaa rfl
theorem zwL (p q : Pt) (hp : p.sm KK) (hq : q.sm KK) : Fn PP zmv [pV p,pV q] (pV (PQ (p.v-q.v))):=by
 refine Fn.of zab mixed zrK rfl rfl (Nat.le_of_ble_eq_true rfl) ?_
 intro w
 conv=>whnf
 refine zac.fn (zub p q zfq (Q (p.x.v-q.x.v)) (Q (p.y.v-q.y.v)) (zj9 _ _ hp.1 hq.1) (zj9 _ _ hp.2 hq.2)) rfl ?_
 conv=>whnf
 exact zaa rfl
theorem zyC (p : Pt) (t : Raw) (hp : p.sm KK) (ht : t.sm KK) : Fn PP zjf [pV p,rawV t] (pV (PQ (p.v.scale t.v))):=by
 refine Fn.of zab mixed zpk rfl rfl (Nat.le_of_ble_eq_true rfl) ?_
 intro w
 conv=>whnf
 refine zac.fn (zub p ⟨t,t⟩ zdr (Q (p.x.v*t.v)) (Q (p.y.v*t.v)) (zrM _ _ hp.1 ht) (zrM _ _ hp.2 ht)) rfl ?_
 conv=>whnf
 exact zaa rfl
theorem znj (p q : Pt) (hp : p.sm (10*KV)) (hq : q.sm (10*KV)) : Fn PP zi5 [pV p,pV q] (qV (p.v.cross q.v)):=by
 have zp:=hp.sz (by decide)
 have zq:=hq.sz (by decide)
 refine Fn.of zab mixed zpe rfl rfl (Nat.le_of_ble_eq_true rfl) ?_
 intro w
 conv=>whnf
 refine zac.fn (zub p ⟨q.y,q.x⟩ zdr (Q (p.x.v*q.y.v)) (Q (p.y.v*q.x.v)) (zrM _ _ (hp.1.le (by decide)) (hq.2.le (by decide))) (zrM _ _ (hp.2.le (by decide)) (hq.1.le (by decide)))) rfl ?_
 conv=>whnf
 refine zac.fn (zj9 (Q (p.x.v*q.y.v)) (Q (p.y.v*q.x.v)) ((zp.1.mul zq.2).q.le (by decide)) ((zp.2.mul zq.1).q.le (by decide))) rfl ?_
 conv=>whnf
 refine zaa ?_
 rw [Q_v,Q_v]; rfl
theorem zfI (p q : Pt) (hp : p.sm KK) (hq : q.sm KK) : Fn PP zgo [pV p,pV q] (.int .i64 (cmpV p.v q.v)):=by
 refine Fn.of zab mixed zmM rfl rfl (Nat.le_of_ble_eq_true rfl) ?_
 intro w
 conv=>whnf
 refine zac.fn (zbp p.x q.x hp.1 hq.1) rfl ?_
 conv=>whnf
 refine zah ?_ ?_
 ·intro h
  have h1 : cmpQ p.x.v q.x.v≠0:=by intro h2; rw [h2] at h; exact absurd h (by decide)
  conv=>whnf
  refine zaa ?_
  rw [cmpV,if_pos (show cmpQ p.v.x q.v.x≠0 from h1)]; rfl
 ·intro h
  have h1 : cmpQ p.x.v q.x.v=0:=by simpa using h
  conv=>whnf
  refine zac.fn (zbp p.y q.y hp.2 hq.2) rfl ?_
  conv=>whnf
  refine zaa ?_
  rw [cmpV,if_neg (show ¬cmpQ p.v.x q.v.x≠0 from fun h=>h h1)]; rfl
theorem zAJ (p q : Pt) (t : Raw) (hp : p.sm (10*KV)) (hq : q.sm (10*KV)) (ht : t.sm (30*KV)) : Fn PP zow [pV p,pV q,rawV t] (pV (PQ (p.v.at q.v t.v))):=by
 have zp:=hp.sz (by decide)
 have zq:=hq.sz (by decide)
 have zt:=Raw.sz (r:=t) (k:=30*KV) (by decide) ht.1 ht.2
 refine Fn.of zab mixed ztp rfl rfl (Nat.le_of_ble_eq_true rfl) ?_
 intro w
 conv=>whnf
 refine zaj.quiet (by kernel_rfl) ?_
 conv=>whnf
 refine zad.fn (zwL q p (hq.le (by decide)) (hp.le (by decide))) rfl ?_
 conv=>whnf
 refine zad.fn (zyC (PQ (q.v-p.v)) t ((zq.sub zp).q.le (by decide)) (ht.le (by decide))) rfl ?_
 rw [PQ_v]
 conv=>whnf
 refine zad.fn (zzf p (PQ ((q.v-p.v).scale t.v)) (hp.le (by decide)) (((zq.sub zp).scale zt).q.le (by decide))) rfl ?_
 rw [PQ_v]
 conv=>whnf
 exact zaa rfl
theorem zCL (x y : Int) (h1 : -9223372036854775808≤x) (h2 : x≤9223372036854775807) (h3 : -9223372036854775808≤y) (h4 : y≤9223372036854775807) : Fn PP zjo [.int .i64 x,.int .i64 y] (pV (PQ ⟨x,y⟩)):=by
 refine Fn.of zab mixed ztd rfl rfl (Nat.le_of_ble_eq_true rfl) ?_
 intro w
 conv=>whnf
 refine zac.fn (zwI x h1 h2) rfl ?_
 conv=>whnf
 refine zac.fn (zwI y h3 h4) rfl ?_
 conv=>whnf
 exact zaa rfl
end Go.Sx
end
section
set_option maxRecDepth 10000
set_option maxHeartbeats 2000000
namespace Go.Sx
open Go Go.Proofs
theorem zid {l : List UInt8} : ((bs l).toList==ByteArray.toList ⟨#[]⟩)=decide (l=[]):=by
 rw [zbn,show ByteArray.toList ⟨#[]⟩=[] from zbn []]
 cases l <;> simp
theorem zkF (l : List UInt8) : Fn PP zeG [.string (bs l)] (.string (bs (zcp l))):=by
 refine Fn.of zab mixed zjA rfl rfl (Nat.le_of_ble_eq_true rfl) ?_
 intro w
 conv=>whnf
 refine zak (ι:=List UInt8) (fun k=>⟨[(0,.o (.v (.string (bs k))))],[],[]⟩) (fun k=>zcp k=zcp l) (fun k=>k.length) l rfl (SLe.id ⟨rfl,trivial⟩ trivial (by simp)) ?_
 intro k hk
 conv=>whnf
 refine zah ?_ ?_
 ·intro h
  rcases k with _ | ⟨x,r⟩
  ·exact absurd (of_decide_eq_true h) (by decide)
  conv=>whnf
  refine ⟨by simp [zfr],?_⟩
  conv=>whnf
  refine zah ?_ ?_
  ·intro h2
   conv=>whnf
   refine ⟨by simp [zfr]; omega,?_⟩
   conv=>whnf
   refine ⟨r,?_,by simp,?_⟩
   ·rw [←hk,zcp,if_pos]
    have h3 : x.toNat=0:=by simpa [zm9] using h2
    exact UInt8.toNat_inj.1 h3
   ·refine SLe.id ⟨?_,trivial⟩ trivial (by simp)
    show some _=some _
    simp [SV.ren,AV.ren,zlL,zfr]
  ·intro h2
   conv=>whnf
   refine zaa ?_
   show Value.string (bs (x::r))=_
   rw [←hk,zcp,if_neg]
   intro h3
   subst h3
   simp [zm9] at h2
 ·intro h
  conv=>whnf
  refine zaa ?_
  have : k=[]:=by
   have h2 : ¬((k.length : Nat) : Int)>0:=of_decide_eq_false h
   exact List.length_eq_zero_iff.1 (by omega)
  subst this
  show Value.string (bs [])=_
  rw [←hk]; rfl
theorem zus {b : Bool} {m : Nat} (h : 0<m) : decide (sg b m<0)=b:=by
 unfold sg; cases b <;> simp <;> omega
theorem zrz {x : UInt8} {r : List UInt8} (h : x≠0) : 0<nat (x::r):=by
 rw [zcK]
 have h1 : 0<x.toNat:=by
  rcases Nat.eq_zero_or_pos x.toNat with h2 | h2
  ·exact absurd (UInt8.toNat_inj.1 h2) h
  ·exact h2
 have:=Nat.mul_pos h1 (Nat.pow_pos (n:=r.length) (show 0<256 by decide))
 omega
theorem zbK (b : Bool) (l : List UInt8) : Fn PP zcV [intV b (bs l)] (zV (sg b (nat l))):=by
 refine Fn.of zab mixed zfX rfl rfl (Nat.le_of_ble_eq_true rfl) ?_
 intro w
 have hz : zV (sg b (nat l))=intV (decide (sg b (nat l)<0)) (bs (bytes (nat l))):=by rw [zV,za4]
 have slow : zcp l=bytes (nat l):=zdL l
 conv=>whnf
 refine zah ?_ ?_
 ·intro h
  rcases l with _ | ⟨x,r⟩
  ·exact absurd (of_decide_eq_true h) (by decide)
  conv=>whnf
  refine ⟨by simp [zfr],?_⟩
  conv=>whnf
  refine zah ?_ ?_
  ·intro h2
   have hx : x≠0:=by
    intro h3
    subst h3
    simp [zm9] at h2
   conv=>whnf
   refine zaa ?_
   rw [hz,zus (zrz hx),zr8 (by simpa using hx)]
  ·intro h2
   conv=>whnf
   refine zac.fn (zkF (x::r)) rfl ?_
   rw [slow]
   cases b with
   | false =>
    conv=>whnf
    refine zaa ?_
    rw [hz,show decide (sg false (nat (x::r))<0)=false from decide_eq_false (by unfold sg; simp)]
   | true =>
    conv=>whnf
    refine zaa ?_
    rw [hz]
    show intV (!((bs (bytes (nat (x::r)))).toList==ByteArray.toList ⟨#[]⟩)) _=_
    rw [zid]
    rcases Nat.eq_zero_or_pos (nat (x::r)) with h0 | h0
    ·rw [h0,zaL]; rfl
    ·rw [zus h0,decide_eq_false (fun h=>by have:=zeH.1 h; omega)]; rfl
 ·intro h
  have hl : l=[]:=by
   have h2 : ¬((l.length : Nat) : Int)>0:=of_decide_eq_false h
   exact List.length_eq_zero_iff.1 (by omega)
  conv=>whnf
  refine zac.fn (zkF l) rfl ?_
  rw [slow]
  cases b with
  | false =>
   conv=>whnf
   refine zaa ?_
   rw [hz,show decide (sg false (nat l)<0)=false from decide_eq_false (by unfold sg; simp)]
  | true =>
   conv=>whnf
   refine zaa ?_
   rw [hz]
   show intV (!((bs (bytes (nat l))).toList==ByteArray.toList ⟨#[]⟩)) _=_
   rw [zid]
   rcases Nat.eq_zero_or_pos (nat l) with h0 | h0
   ·rw [h0,zaL]; rfl
   ·rw [zus h0,decide_eq_false (fun h=>by have:=zeH.1 h; omega)]; rfl
theorem zme (l : List UInt8) (h1 : l.length≤7) : Fn PP zek [.string (bs l)] (.int .i64 (nat l)):=by
 refine Fn.of zab mixed zir rfl rfl (Nat.le_of_ble_eq_true rfl) ?_
 intro w
 conv=>whnf
 refine zak (ι:=Nat) (fun i=>⟨[(0,.o (.v (.string (bs l)))),(3,.o (.v (.int .i64 (nat (l.take i))))),(4,.o (.v (.int .i64 i)))],[],[]⟩)
  (fun i=>i≤l.length) (fun i=>l.length-i) 0 (Nat.zero_le _) (SLe.id ⟨rfl,rfl,rfl,trivial⟩ trivial (fun R hR=>hR)) ?_
 intro i hi
 conv=>whnf
 refine zah ?_ ?_
 ·intro h2
  have hi2 : i<l.length:=by
   have : (i : Int)<(l.length : Int):=of_decide_eq_true h2
   omega
  conv=>whnf
  refine ⟨by decide,?_⟩
  conv=>whnf
  refine ⟨⟨by omega,by show (i : Int)<(l.length : Int); omega⟩,?_⟩
  conv=>whnf
  obtain ⟨x,hx⟩ : ∃ x,x=l[i]:=⟨_,rfl⟩
  have hg : l.getD i 0=x:=by rw [hx,List.getD_eq_getElem?_getD,List.getElem?_eq_getElem hi2]; rfl
  have htk : l.take (i+1)=l.take i++[x]:=by rw [List.take_succ_eq_append_getElem hi2,hx]
  have hnat : nat (l.take (i+1))=x.toNat+256*nat (l.take i):=by rw [htk,zgg]
  have hnb : nat (l.take i)<256 ^ 6:=za2 (by rw [List.length_take]; omega)
  have hxb : x.toNat<256:=x.toBitVec.isLt
  have hor : IntKind.i64.wrap (BitVec.toNat (w:=64) (BitVec.ofInt 64 (IntKind.i64.wrap ((nat (l.take i) : Int)*2 ^ min (8 : Int).toNat IntKind.i64.bits)) ||| BitVec.ofInt 64 (IntKind.i64.wrap (sb (bs l) (i : Int)))) : Int)=(nat (l.take (i+1)) : Int):=by
   have e1 : IntKind.i64.wrap ((nat (l.take i) : Int)*2 ^ min (8 : Int).toNat IntKind.i64.bits)=((nat (l.take i)*2 ^ 8 : Nat) : Int):=by
    rw [show min (8 : Int).toNat IntKind.i64.bits=8 from rfl,wrap_i64 (by omega) (by omega)]; omega
   have e2 : IntKind.i64.wrap (sb (bs l) (i : Int))=(x.toNat : Int):=by
    rw [zm9,Int.toNat_natCast,hg,wrap_i64 (by omega) (by omega)]
   rw [e1,e2,BitVec.toNat_or,zaM (by omega),zaM (by omega),Nat.mul_comm,←Nat.two_pow_add_eq_or_of_lt (show x.toNat<2 ^ 8 by omega),hnat]
   rw [wrap_i64 (by omega) (by omega)]; omega
  refine ⟨i+1,by omega,by omega,SLe.id ⟨rfl,?_,?_,trivial⟩ trivial (fun R hR=>hR)⟩
  ·show some (SV.o (.v (.int .i64 (IntKind.i64.wrap (BitVec.toNat (w:=64) (BitVec.ofInt 64 _ ||| BitVec.ofInt 64 _) : Int)))))=some (SV.o (.v (.int .i64 (nat (l.take (i+1)) : Int))))
   rw [hor]
  ·show some (SV.o (.v (.int _ (IntKind.i64.wrap ((i : Int)+1)))))=some (SV.o (.v (.int _ ((i+1 : Nat) : Int))))
   rw [wrap_i64 (by omega) (by omega)]; rfl
 ·intro h2
  have hi2 : i=l.length:=by
   have : ¬(i : Int)<(l.length : Int):=of_decide_eq_false h2
   omega
  subst hi2
  rw [List.take_length]
  conv=>whnf
  exact zaa rfl
theorem zxX {n : Nat} (h : n<9223372036854775808) : IntKind.i64.wrap (0-(n : Int))=-(n : Int):=by rw [wrap_i64 (by omega) (by omega)]; omega
theorem nat7 {l : List UInt8} (h : l.length≤7) : nat l<72057594037927936:=by
 have:=za2 h
 simpa using this
theorem zAB (b : Bool) (l : List UInt8) (h1 : l.length≤7) : Fn PP zcv [intV b (bs l)] (.int .i64 (sg b (nat l))):=by
 refine Fn.of zab mixed ziH rfl rfl (Nat.le_of_ble_eq_true rfl) ?_
 intro w
 have hn:=nat7 h1
 cases b with
 | true =>
  conv=>whnf
  refine zac.fn (zme l h1) rfl ?_
  conv=>whnf
  refine zaa ?_
  rw [zxX (by omega)]; rfl
 | false =>
  conv=>whnf
  refine zac.fn (zme l h1) rfl ?_
  conv=>whnf
  exact zaa rfl
theorem zyL {n : Nat} (h0 : 0<n) (h : n<256) : bytes n=[UInt8.ofNat n]:=by
 rw [zh2 h0,show n/256=0 by omega,zaL,Nat.mod_eq_of_lt h]; rfl
theorem zBd (n : Nat) (hn : n<9223372036854775808) : Fn PP ze5 [.int .i64 n] (.string (bs (bytes n))):=by
 refine Fn.of zab mixed zlf rfl rfl (Nat.le_of_ble_eq_true rfl) ?_
 intro w
 conv=>whnf
 refine zah ?_ ?_
 ·intro h
  have hn2 : n<256:=by
   have : (n : Int)<256:=of_decide_eq_true h
   omega
  conv=>whnf
  refine zah ?_ ?_
  ·intro h0
   have hn0 : n=0:=by
    have : (n : Int)=0:=eq_of_beq h0
    omega
   subst hn0
   conv=>whnf
   refine zaa ?_
   rw [zaL]; rfl
  ·intro h0
   have hn0 : 0<n:=by
    have : ¬(n : Int)=0:=ne_of_beq_false h0
    omega
   conv=>whnf
   have hw : IntKind.u8.wrap (n : Int)=((UInt8.ofNat n).toNat : Int):=by
    rw [IntKind.wrap_u8]
    have : (UInt8.ofNat n).toNat=n:=by simp; omega
    rw [this]; omega
   refine ⟨[UInt8.ofNat n],rfl,?_,?_⟩
   ·show [Value.int .u8 (IntKind.u8.wrap (n : Int))]=_
    rw [hw]; rfl
   conv=>whnf
   refine zaa ?_
   rw [zyL hn0 hn2]; rfl
 intro hbig
 conv=>whnf
 refine zak (ι:=Nat×Nat×List UInt8) (fun ⟨i,c,L⟩=>⟨[(0,.o (.v (.int .i64 c))),(3,.o (.p 3 0)),(4,.o (.v (.int .i64 i)))],[(3,.sym (rowV u8c (List.replicate i 0++L)) zoc)],[]⟩)
  (fun ⟨i,c,L⟩=>i+L.length=8∧c<256 ^ i∧bytes n=bytes c++L) (fun ⟨i,c,L⟩=>c) (8,n,[]) ⟨rfl,by omega,by simp⟩ (SLe.id ⟨rfl,rfl,rfl,trivial⟩ ⟨⟨_,rfl,.sym _ rfl⟩,trivial⟩ (fun R hR=>hR)) ?_
 rintro ⟨i,c,L⟩ ⟨hL,hc,hb⟩
 conv=>whnf
 refine zah ?_ ?_
 ·intro h
  have hc0 : 0<c:=by
   have : (c : Int)>0:=of_decide_eq_true h
   omega
  conv=>whnf
  have hi0 : 0<i:=by
   rcases Nat.eq_zero_or_pos i with h2 | h2
   ·rw [h2] at hc; omega
   ·exact h2
  obtain ⟨j,rfl⟩ : ∃ j,i=j+1:=⟨i-1,by omega⟩
  have hij : IntKind.i64.wrap (((j+1 : Nat) : Int)-1)=(j : Int):=by rw [wrap_i64 (by omega) (by omega)]; omega
  refine ⟨by rw [hij]; show 0≤(j : Int)∧(j : Int)<((8 : Nat) : Int); omega,?_⟩
  conv=>whnf
  refine ⟨by rw [hij,zag zbA]; show 0+j*1+1≤_; simp,?_⟩
  conv=>whnf
  refine ⟨by decide,?_⟩
  conv=>whnf
  have hcn : c≤n∨n<c:=by omega
  have hcb : c<9223372036854775808:=by
   have h8 : (256 : Nat) ^ (j+1)≤256 ^ 8:=Nat.pow_le_pow_right (by decide) (by omega)
   have hcm : nat (bytes c)≤nat (bytes n):=by
    rw [hb,zmc]
    have : nat (bytes c)*1≤nat (bytes c)*256 ^ L.length:=Nat.mul_le_mul_left _ (Nat.pow_pos (by decide))
    omega
   rw [zal,zal] at hcm
   omega
  refine ⟨(j,c/256,UInt8.ofNat (c%256)::L),⟨by simp; omega,?_,?_⟩,by show c/256<c; omega,SLe.id ⟨?_,rfl,?_,trivial⟩ ⟨⟨_,rfl,?_⟩,trivial⟩ (fun R hR=>hR)⟩
  ·show c/256<256 ^ j
   rw [Nat.pow_succ] at hc; omega
  ·rw [hb,zh2 hc0]; simp
  ·show some (SV.o (.v (.int .i64 (Int.fdiv (c : Int) (2 ^ min (8 : Int).toNat IntKind.i64.bits)))))=some (SV.o (.v (.int .i64 ((c/256 : Nat) : Int))))
   rw [show min (8 : Int).toNat IntKind.i64.bits=8 from rfl,Int.fdiv_eq_ediv_of_nonneg _ (by decide)]; rfl
  ·show some (SV.o (.v (.int .i64 (IntKind.i64.wrap (((j+1 : Nat) : Int)-1)))))=some (SV.o (.v (.int .i64 (j : Int))))
   rw [hij]
  ·show MEle (ME.sym (putN (0+(IntKind.i64.wrap (((j+1 : Nat) : Int)-1)).toNat*1) [Value.int .u8 (IntKind.u8.wrap (c : Int))] (rowV u8c (List.replicate (j+1) 0++L))) _) (ME.sym (rowV u8c (List.replicate j 0++(UInt8.ofNat (c%256)::L))) _)
   have hw : IntKind.u8.wrap (c : Int)=((UInt8.ofNat (c%256)).toNat : Int):=by
    rw [IntKind.wrap_u8]
    have : (UInt8.ofNat (c%256)).toNat=c%256:=by simp
    rw [this]; omega
   have hput:=zci (f:=u8c) zbA (k:=j) (l:=List.replicate (j+1) 0++L) (UInt8.ofNat (c%256)) (by simp; omega)
   have hset : (List.replicate (j+1) 0++L).set j (UInt8.ofNat (c%256))=List.replicate j 0++(UInt8.ofNat (c%256)::L):=by
    rw [List.replicate_succ',List.append_assoc,List.set_append_right _ _ (by simp)]
    simp
   rw [hset] at hput
   rw [hij,hw,Int.toNat_natCast,Nat.zero_add,←hput]
   exact .refl _
 ·intro h
  have hc0 : c=0:=by
   have : ¬(c : Int)>0:=of_decide_eq_false h
   omega
  subst hc0
  rw [zaL,List.nil_append] at hb
  conv=>whnf
  refine ⟨by show 0≤(i : Int)∧(i : Int)≤((8 : Nat) : Int)∧((8 : Nat) : Int)≤((8 : Nat) : Int); omega,?_⟩
  conv=>whnf
  have hdrop : ((rowV u8c (List.replicate i 0++L)).drop (bif Nat.beq 8 ((i : Int).toNat) then 0 else 0+(i : Int).toNat*1)).take (((8 : Nat) : Int).toNat-(i : Int).toNat)=bytV L:=by
   rw [Int.toNat_natCast,Int.toNat_natCast]
   cases hb8 : Nat.beq 8 i with
   | true =>
    have h8:=Nat.eq_of_beq_eq_true hb8
    have hL0 : L=[]:=List.length_eq_zero_iff.1 (by omega)
    rw [hL0,←h8]; rfl
   | false =>
    rw [cond_false,Nat.zero_add,zfR zbA]
    have : (List.replicate i 0++L).drop i=L:=by
     have:=List.drop_left (l₁:=List.replicate i (0 : UInt8)) (l₂:=L)
     rwa [List.length_replicate] at this
    rw [this,zf5,show 8-i=L.length by omega]
    have : (bytV L).length=L.length:=by simp [bytV]
    rw [←this,List.take_length]
  refine ⟨L,by rw [Int.toNat_natCast,Int.toNat_natCast]; omega,hdrop,?_⟩
  conv=>whnf
  refine zaa ?_
  rw [hb]; rfl
theorem r_Of (n : Int) (h1 : -9223372036854775808≤n) (h2 : n≤9223372036854775807) : Fn PP zdm [.int .i64 n] (zV n):=by
 refine Fn.of zab mixed zlZ rfl rfl (Nat.le_of_ble_eq_true rfl) ?_
 intro w
 conv=>whnf
 refine zah ?_ ?_
 ·intro h
  have h0 : 0≤n:=of_decide_eq_true h
  obtain ⟨m,rfl⟩:=Int.eq_ofNat_of_zero_le h0
  conv=>whnf
  refine zac.fn (zBd m (by omega)) rfl ?_
  conv=>whnf
  refine zaa ?_
  rw [zV,decide_eq_false (by omega),Int.natAbs_natCast]
 ·intro h
  have h0 : ¬0≤n:=of_decide_eq_false h
  conv=>whnf
  refine zah ?_ ?_
  ·intro he
   have he2 : n=IntKind.i64.wrap (0-n):=eq_of_beq he
   have hm : n=-9223372036854775808:=by
    by_cases hm : n=-9223372036854775808
    ·exact hm
    ·rw [wrap_i64 (by omega) (by omega)] at he2; omega
   subst hm
   conv=>whnf
   refine zaa ?_
   show intV true ⟨#[128,0,0,0,0,0,0,0]⟩=zV (-9223372036854775808)
   rw [zV,decide_eq_true (by decide)]
   have : bytes (-9223372036854775808 : Int).natAbs=[128,0,0,0,0,0,0,0]:=by decide +kernel
   rw [this]; rfl
  ·intro he
   have hm : ¬n=-9223372036854775808:=fun hm=>by
    subst hm
    exact absurd he (by decide)
   obtain ⟨m,rfl⟩ : ∃ m : Nat,n=-(m : Int):=⟨n.natAbs,by omega⟩
   conv=>whnf
   have hw : IntKind.i64.wrap (0 - -(m : Int))=(m : Int):=by rw [wrap_i64 (by omega) (by omega)]; omega
   refine zac.fn (zBd m (by omega)) (by show [SV.o (.v (.int .i64 (IntKind.i64.wrap (0 - -(m : Int)))))]=_; rw [hw]; rfl) ?_
   conv=>whnf
   refine zaa ?_
   rw [zV,decide_eq_true (by omega),Int.natAbs_neg,Int.natAbs_natCast]
end Go.Sx
end
section
set_option maxRecDepth 10000
set_option maxHeartbeats 2000000
namespace Go.Sx
open Go Go.Proofs
structure Sg where
 A : Pt
 B : Pt
deriving DecidableEq
def Sg.sm (k : Nat) (s : Sg) : Prop:=s.A.sm k∧s.B.sm k
theorem Sg.sm.le {s : Sg} {k m : Nat} (h : s.sm k) (hm : k≤m) : s.sm m:=⟨h.1.le hm,h.2.le hm⟩
abbrev sV (s : Sg) : Value:=.agg ⟨[.bool s.A.x.neg,.string (bs s.A.x.num),.string (bs s.A.x.den),.bool s.A.y.neg,.string (bs s.A.y.num),.string (bs s.A.y.den),.bool s.B.x.neg,.string (bs s.B.x.num),.string (bs s.B.x.den),.bool s.B.y.neg,.string (bs s.B.y.num),.string (bs s.B.y.den)]⟩
abbrev KS : Nat:=10000
def zb5 (s : Sg) : Prop:=cmpV s.A.v s.B.v=0
instance (s : Sg) : Decidable (zb5 s):=inferInstanceAs (Decidable (_=_))
def zdc (s : Sg) : Int:=if zb5 s then 12 else 0
theorem zno (s : Sg) (hs : s.sm KS) : Fn PP zhR [sV s] (.int .i64 (zdc s)):=by
 refine Fn.of zab mixed zon rfl rfl (Nat.le_of_ble_eq_true rfl) ?_
 intro w
 conv=>whnf
 refine zac.fn (zfI s.A s.B (hs.1.le (by decide)) (hs.2.le (by decide))) rfl ?_
 conv=>whnf
 refine zah ?_ ?_
 ·intro h
  have h1 : zb5 s:=by have : cmpV s.A.v s.B.v=0:=by simpa using h
                      exact this
  conv=>whnf
  refine zaa ?_
  rw [zdc,if_pos h1]
 ·intro h
  have h1 : ¬zb5 s:=by have : ¬cmpV s.A.v s.B.v=0:=by simpa using h
                       exact this
  conv=>whnf
  refine zaa ?_
  rw [zdc,if_neg h1]
def V0 : V:=⟨0,0⟩
theorem V.add_zero (a : V) : a+V0=a:=by
 cases a; simp only [V0,HAdd.hAdd,Add.add]; congr 1 <;> exact Rat.add_zero _
def P0 : Pt:=⟨⟨false,[],[]⟩,⟨false,[],[]⟩⟩
theorem P0_v : P0.v=V0:=by simp only [Pt.v,P0,V0,Raw.zero_v]
theorem zA8 (k : Nat) : P0.sm k:=⟨⟨Nat.zero_le _,Nat.zero_le _⟩,⟨Nat.zero_le _,Nat.zero_le _⟩⟩
theorem zmz (p : Pt) (hp : p.sm KK) : Fn PP zeN [pV p] (pV (PQ p.v)):=by
 refine Fn.of zab mixed zjw rfl rfl (Nat.le_of_ble_eq_true rfl) ?_
 intro w
 conv=>whnf
 refine zac.fn (zzf p P0 hp (zA8 _)) rfl ?_
 conv=>whnf
 refine zaa ?_
 rw [P0_v,V.add_zero]
theorem zjn (s : Sg) (hs : s.sm KK) : Fn PP zeI [sV s] (pV (PQ (s.B.v-s.A.v))):=by
 refine Fn.of zab mixed zjQ rfl rfl (Nat.le_of_ble_eq_true rfl) ?_
 intro w
 conv=>whnf
 refine zac.fn (zwL s.B s.A hs.2 hs.1) rfl ?_
 conv=>whnf
 exact zaa rfl
end Go.Sx
end
section
set_option maxRecDepth 10000
set_option maxHeartbeats 2000000
namespace Go.Sx
open Go Go.Proofs
theorem zBw : ((1 : Int) : Rat)=1:=rfl
theorem zCs : (Q 1).sm KK:=(show Sz 1 (1 : Rat) from ⟨by decide,by decide⟩).q.le (by decide)
theorem zAu (s t : Sg) (hs : s.sm KS) (ht : t.sm KS) : Fn PP zhM [sV s,sV t] (.bool (decide (zb5 s)||decide (zb5 t))):=by
 refine Fn.of zab mixed znI rfl rfl (Nat.le_of_ble_eq_true rfl) ?_
 intro w
 conv=>whnf
 refine zac.fn (zno s hs) rfl ?_
 by_cases h1 : zb5 s
 ·rw [zdc,if_pos h1]
  conv=>whnf
  refine zaa ?_
  rw [decide_eq_true h1]; rfl
 ·rw [zdc,if_neg h1]
  conv=>whnf
  refine zac.fn (zno t ht) rfl ?_
  by_cases h2 : zb5 t
  ·rw [zdc,if_pos h2]
   conv=>whnf
   refine zaa ?_
   rw [decide_eq_true h2,Bool.or_true]; rfl
  ·rw [zdc,if_neg h2]
   conv=>whnf
   refine zaa ?_
   rw [decide_eq_false h2,decide_eq_false h1]; rfl
theorem zvM (t : Raw) (ht : t.sm KK) : Fn PP zi6 [rawV t] (.bool (zgb t.v)):=by
 refine Fn.of zab mixed zo2 rfl rfl (Nat.le_of_ble_eq_true rfl) ?_
 intro w
 conv=>whnf
 refine zaj.quiet (by kernel_rfl) ?_
 conv=>whnf
 refine zad.fn (zjZ t ht) rfl ?_
 conv=>whnf
 refine zah ?_ ?_
 ·intro h
  have h1 : 0≤cmpQ t.v 0:=of_decide_eq_true h
  conv=>whnf
  refine zad.fn (zwI 1 (by decide) (by decide)) rfl ?_
  rw [zBw]
  conv=>whnf
  refine zad.fn (zbp t (Q 1) ht zCs) rfl ?_
  rw [Q_v]
  conv=>whnf
  refine zaa ?_
  rw [zgb,decide_eq_true h1]; rfl
 ·intro h
  have h1 : ¬0≤cmpQ t.v 0:=of_decide_eq_false h
  conv=>whnf
  refine zaa ?_
  rw [zgb,decide_eq_false h1]; rfl
theorem ztm (s : Sg) (hs : s.sm KV) : Fn PP zhj [sV s] (sV ⟨PQ (ordV s.A.v s.B.v).1,PQ (ordV s.A.v s.B.v).2⟩):=by
 have za:=hs.1.sz (by decide)
 have zb:=hs.2.sz (by decide)
 refine Fn.of zab mixed zn4 rfl rfl (Nat.le_of_ble_eq_true rfl) ?_
 intro w
 conv=>whnf
 refine zaj.quiet (by kernel_rfl) ?_
 conv=>whnf
 refine zad.fn (zmz s.A (hs.1.le (by decide))) rfl ?_
 conv=>whnf
 refine zad.fn (zmz s.B (hs.2.le (by decide))) rfl ?_
 conv=>whnf
 refine zac.fn (zfI (PQ s.A.v) (PQ s.B.v) (za.q.le (by decide)) (zb.q.le (by decide))) rfl ?_
 rw [PQ_v,PQ_v]
 conv=>whnf
 refine zah ?_ ?_
 ·intro h
  have h1 : cmpV s.A.v s.B.v>0:=of_decide_eq_true h
  conv=>whnf
  refine zaa ?_
  rw [ordV,if_pos h1]
 ·intro h
  have h1 : ¬cmpV s.A.v s.B.v>0:=of_decide_eq_false h
  conv=>whnf
  refine zaa ?_
  rw [ordV,if_neg h1]
def gtP (p q : Pt) : Pt:=if cmpV p.v q.v<0 then q else p
def ltP (p q : Pt) : Pt:=if cmpV p.v q.v<0 then p else q
theorem zws (p q : Pt) (hp : p.sm KK) (hq : q.sm KK) : Fn PP zfM [pV p,pV q] (pV (gtP p q)):=by
 refine Fn.of zab mixed zl4 rfl rfl (Nat.le_of_ble_eq_true rfl) ?_
 intro w
 conv=>whnf
 refine zac.fn (zfI p q hp hq) rfl ?_
 conv=>whnf
 refine zah ?_ ?_
 ·intro h
  have h1 : cmpV p.v q.v<0:=of_decide_eq_true h
  conv=>whnf
  refine zaa ?_
  rw [gtP,if_pos h1]
 ·intro h
  have h1 : ¬cmpV p.v q.v<0:=of_decide_eq_false h
  conv=>whnf
  refine zaa ?_
  rw [gtP,if_neg h1]
theorem zy7 (p q : Pt) (hp : p.sm KK) (hq : q.sm KK) : Fn PP zgr [pV p,pV q] (pV (ltP p q)):=by
 refine Fn.of zab mixed zmT rfl rfl (Nat.le_of_ble_eq_true rfl) ?_
 intro w
 conv=>whnf
 refine zac.fn (zfI p q hp hq) rfl ?_
 conv=>whnf
 refine zah ?_ ?_
 ·intro h
  have h1 : cmpV p.v q.v<0:=of_decide_eq_true h
  conv=>whnf
  refine zaa ?_
  rw [ltP,if_pos h1]
 ·intro h
  have h1 : ¬cmpV p.v q.v<0:=of_decide_eq_false h
  conv=>whnf
  refine zaa ?_
  rw [ltP,if_neg h1]
theorem zB6 (p q : V) : gtP (PQ p) (PQ q)=PQ (gtV p q):=by unfold gtP gtV; rw [PQ_v,PQ_v]; split <;> rfl
theorem zBF (p q : V) : ltP (PQ p) (PQ q)=PQ (ltV p q):=by unfold ltP ltV; rw [PQ_v,PQ_v]; split <;> rfl
def S0 : Sg:=⟨P0,P0⟩
def mtS (o : Option (V×V)) : Sg:=match o with
 | some (a,b)=>⟨PQ a,PQ b⟩
 | none=>S0
theorem zmp {k : Nat} {a b : V} (ha : SzV k a) (hb : SzV k b) : SzV k (ordV a b).1∧SzV k (ordV a b).2:=by
 unfold ordV; split
 ·exact ⟨hb,ha⟩
 ·exact ⟨ha,hb⟩
theorem zz5 {k : Nat} {a b : V} (ha : SzV k a) (hb : SzV k b) : SzV k (gtV a b):=by
 unfold gtV; split
 ·exact hb
 ·exact ha
theorem zAO {k : Nat} {a b : V} (ha : SzV k a) (hb : SzV k b) : SzV k (ltV a b):=by
 unfold ltV; split
 ·exact ha
 ·exact hb
theorem zBK (s t : Sg) (hs : s.sm KS) (ht : t.sm KS) : Fn PP zi8 [sV s,sV t] (.tuple #[sV (mtS (zbX s.A.v s.B.v t.A.v t.B.v)),.bool (zbX s.A.v s.B.v t.A.v t.B.v).isSome]):=by
 have za:=hs.1.sz (by decide)
 have zb:=hs.2.sz (by decide)
 have zc:=ht.1.sz (by decide)
 have zd:=ht.2.sz (by decide)
 have zu:=zb.sub za
 have zv:=zd.sub zc
 have zw:=zc.sub za
 have zx:=(zu.cross zv)
 refine Fn.of zab mixed zpB rfl rfl (Nat.le_of_ble_eq_true rfl) ?_
 intro w
 conv=>whnf
 refine zaj.quiet (by kernel_rfl) ?_
 conv=>whnf
 refine zad.fn (zjn s (hs.le (by decide))) rfl ?_
 conv=>whnf
 refine zad.fn (zjn t (ht.le (by decide))) rfl ?_
 conv=>whnf
 refine zad.fn (zwL t.A s.A (ht.1.le (by decide)) (hs.1.le (by decide))) rfl ?_
 conv=>whnf
 refine zac.fn (znj (PQ (s.B.v-s.A.v)) (PQ (t.B.v-t.A.v)) (zu.q.le (by decide)) (zv.q.le (by decide))) rfl ?_
 rw [PQ_v,PQ_v]
 conv=>whnf
 refine zac.fn (zjZ (Q ((s.B.v-s.A.v).cross (t.B.v-t.A.v))) (zx.q.le (by decide))) rfl ?_
 rw [Q_v]
 conv=>whnf
 refine zah ?_ ?_
 ·intro h
  have h1 : cmpQ ((s.B.v-s.A.v).cross (t.B.v-t.A.v)) 0≠0:=by simpa using h
  have h2 : (s.B.v-s.A.v).cross (t.B.v-t.A.v)≠0:=by
   intro h3; rw [h3] at h1; exact h1 (by rw [cmpQ,if_neg Rat.lt_irrefl,if_neg Rat.lt_irrefl])
  have zt1:=(zw.cross zv).div zx
  have zt2:=(zw.cross zu).div zx
  conv=>whnf
  refine zaj.late [(9,10,[7])] (by kernel_rfl) ?_
  conv=>whnf
  refine zad.fn (znj (PQ (t.A.v-s.A.v)) (PQ (t.B.v-t.A.v)) (zw.q.le (by decide)) (zv.q.le (by decide))) rfl ?_
  rw [PQ_v,PQ_v]
  conv=>whnf
  refine zad.fn (zsK (Q ((t.A.v-s.A.v).cross (t.B.v-t.A.v))) (Q ((s.B.v-s.A.v).cross (t.B.v-t.A.v))) ((zw.cross zv).q.le (by decide)) (zx.q.le (by decide))) rfl ?_
  rw [Q_v,Q_v,quoV,if_neg h2]
  conv=>whnf
  refine zaj.late [(9,12,[7])] (by kernel_rfl) ?_
  conv=>whnf
  refine zad.fn (znj (PQ (t.A.v-s.A.v)) (PQ (s.B.v-s.A.v)) (zw.q.le (by decide)) (zu.q.le (by decide))) rfl ?_
  rw [PQ_v,PQ_v]
  conv=>whnf
  refine zad.fn (zsK (Q ((t.A.v-s.A.v).cross (s.B.v-s.A.v))) (Q ((s.B.v-s.A.v).cross (t.B.v-t.A.v))) ((zw.cross zu).q.le (by decide)) (zx.q.le (by decide))) rfl ?_
  rw [Q_v,Q_v,quoV,if_neg h2]
  conv=>whnf
  refine zac.fn (zvM (Q ((t.A.v-s.A.v).cross (t.B.v-t.A.v)/(s.B.v-s.A.v).cross (t.B.v-t.A.v))) (zt1.q.le (by decide))) rfl ?_
  rw [Q_v]
  have hnone : (!zgb ((t.A.v-s.A.v).cross (t.B.v-t.A.v)/(s.B.v-s.A.v).cross (t.B.v-t.A.v))||!zgb ((t.A.v-s.A.v).cross (s.B.v-s.A.v)/(s.B.v-s.A.v).cross (t.B.v-t.A.v)))=true→zbX s.A.v s.B.v t.A.v t.B.v=none:=fun h=>by rw [zbX,if_pos h1,if_pos h]
  cases hu1 : zgb ((t.A.v-s.A.v).cross (t.B.v-t.A.v)/(s.B.v-s.A.v).cross (t.B.v-t.A.v)) with
  | false =>
   conv=>whnf
   refine zas ?_
   rw [hnone (by rw [hu1]; rfl)]; rfl
  | true =>
   conv=>whnf
   refine zac.fn (zvM (Q ((t.A.v-s.A.v).cross (s.B.v-s.A.v)/(s.B.v-s.A.v).cross (t.B.v-t.A.v))) (zt2.q.le (by decide))) rfl ?_
   rw [Q_v]
   cases hu2 : zgb ((t.A.v-s.A.v).cross (s.B.v-s.A.v)/(s.B.v-s.A.v).cross (t.B.v-t.A.v)) with
   | false =>
    conv=>whnf
    refine zas ?_
    rw [hnone (by rw [hu1,hu2]; rfl)]; rfl
   | true =>
    conv=>whnf
    refine zac.fn (zAJ s.A s.B (Q ((t.A.v-s.A.v).cross (t.B.v-t.A.v)/(s.B.v-s.A.v).cross (t.B.v-t.A.v))) (hs.1.le (by decide)) (hs.2.le (by decide)) (zt1.q.le (by decide))) rfl ?_
    rw [Q_v]
    conv=>whnf
    refine zas ?_
    rw [zbX,if_pos h1,if_neg (by rw [hu1,hu2]; decide)]; rfl
 ·intro h
  have h1 : ¬cmpQ ((s.B.v-s.A.v).cross (t.B.v-t.A.v)) 0≠0:=by simpa using h
  conv=>whnf
  refine zac.fn (znj (PQ (s.B.v-s.A.v)) (PQ (t.A.v-s.A.v)) (zu.q.le (by decide)) (zw.q.le (by decide))) rfl ?_
  rw [PQ_v,PQ_v]
  conv=>whnf
  refine zac.fn (zjZ (Q ((s.B.v-s.A.v).cross (t.A.v-s.A.v))) ((zu.cross zw).q.le (by decide))) rfl ?_
  rw [Q_v]
  conv=>whnf
  refine zah ?_ ?_
  ·intro h
   have h2 : cmpQ ((s.B.v-s.A.v).cross (t.A.v-s.A.v)) 0≠0:=by simpa using h
   conv=>whnf
   refine zas ?_
   rw [zbX,if_neg h1,if_pos h2]; rfl
  ·intro h
   have h2 : ¬cmpQ ((s.B.v-s.A.v).cross (t.A.v-s.A.v)) 0≠0:=by simpa using h
   have zo:=zmp za zb
   have zp:=zmp zc zd
   conv=>whnf
   refine zaj.quiet (by kernel_rfl) ?_
   conv=>whnf
   refine zad.fn (ztm s (hs.le (by decide))) rfl ?_
   conv=>whnf
   refine zad.fn (ztm t (ht.le (by decide))) rfl ?_
   conv=>whnf
   refine zaj.quiet (by kernel_rfl) ?_
   conv=>whnf
   refine zad.fn (zws (PQ (ordV s.A.v s.B.v).1) (PQ (ordV t.A.v t.B.v).1) (zo.1.q.le (by decide)) (zp.1.q.le (by decide))) rfl ?_
   rw [zB6]
   conv=>whnf
   refine zad.fn (zy7 (PQ (ordV s.A.v s.B.v).2) (PQ (ordV t.A.v t.B.v).2) (zo.2.q.le (by decide)) (zp.2.q.le (by decide))) rfl ?_
   rw [zBF]
   conv=>whnf
   refine zac.fn (zfI (PQ (gtV (ordV s.A.v s.B.v).1 (ordV t.A.v t.B.v).1)) (PQ (ltV (ordV s.A.v s.B.v).2 (ordV t.A.v t.B.v).2)) ((zz5 zo.1 zp.1).q.le (by decide)) ((zAO zo.2 zp.2).q.le (by decide))) rfl ?_
   rw [PQ_v,PQ_v]
   conv=>whnf
   refine zah ?_ ?_
   ·intro h
    have h3 : cmpV (gtV (ordV s.A.v s.B.v).1 (ordV t.A.v t.B.v).1) (ltV (ordV s.A.v s.B.v).2 (ordV t.A.v t.B.v).2)>0:=of_decide_eq_true h
    conv=>whnf
    refine zas ?_
    rw [zbX,if_neg h1,if_neg h2,if_pos h3]; rfl
   ·intro h
    have h3 : ¬cmpV (gtV (ordV s.A.v s.B.v).1 (ordV t.A.v t.B.v).1) (ltV (ordV s.A.v s.B.v).2 (ordV t.A.v t.B.v).2)>0:=of_decide_eq_false h
    conv=>whnf
    refine zas ?_
    rw [zbX,if_neg h1,if_neg h2,if_neg h3]; rfl
def zrb (s t : Sg) : Value:=if zb5 s∨zb5 t then .tuple #[sV S0,.bool false,.int .i64 12] else .tuple #[sV (mtS (zbX s.A.v s.B.v t.A.v t.B.v)),.bool (zbX s.A.v s.B.v t.A.v t.B.v).isSome,.int .i64 0]
theorem zBV (s t : Sg) (hs : s.sm KS) (ht : t.sm KS) : Fn PP zje [sV s,sV t] (zrb s t):=by
 refine Fn.of zab mixed zo3 rfl rfl (Nat.le_of_ble_eq_true rfl) ?_
 intro w
 conv=>whnf
 refine zac.fn (zAu s t hs ht) rfl ?_
 by_cases h : zb5 s∨zb5 t
 ·rw [show (decide (zb5 s)||decide (zb5 t))=true by simpa using h,zrb,if_pos h]
  conv=>whnf
  exact zam rfl
 ·rw [show (decide (zb5 s)||decide (zb5 t))=false by simpa using h,zrb,if_neg h]
  conv=>whnf
  refine zac.fn (zBK s t hs ht) rfl ?_
  conv=>whnf
  exact zam rfl
end Go.Sx
end
section
set_option maxRecDepth 10000
set_option maxHeartbeats 2000000
namespace Go.Sx
open Go Go.Proofs
def ratC (r : Raw) : List Value:=[.bool r.neg,.string (bs r.num),.string (bs r.den)]
theorem zbf (r : Raw) : (ratC r).length=3:=rfl
end Go.Sx
end
section
set_option maxRecDepth 10000
set_option maxHeartbeats 2000000
namespace Go.Sx
open Go Go.Proofs
def Pt.ok (p : Pt) : Prop:=p.x.ok∧p.y.ok
instance (p : Pt) : Decidable p.ok:=inferInstanceAs (Decidable (_∧_))
theorem Pt.ok_eq {p : Pt} (h : p.ok) : p=PQ p.v:=by
 obtain ⟨h1,h2⟩:=h
 cases p
 simp only [PQ,Pt.v,Raw.ok] at *
 rw [←h1,←h2]
theorem zu8 (a : V) : (PQ a).ok:=⟨Q_ok _,Q_ok _⟩
theorem zh6 (p : Pt) (hp : p.sm KK) : Fn PP zi7 [pV p] (.int .i64 (if p.ok then 0 else 1)):=by
 refine Fn.of zab mixed zoX rfl rfl (Nat.le_of_ble_eq_true rfl) ?_
 intro w
 conv=>whnf
 refine zak (ι:=Nat) (fun i=>⟨[(9,.o (.s 9 0 2 2)),(10,.o (.v (.int .i64 2))),(11,.o (.v (.int .i64 i)))],[(9,.sym (rowV ratC [p.x,p.y]) zaq)],[]⟩)
  (fun i=>i≤2∧∀ j,j<i→∀ r,[p.x,p.y][j]?=some r→r.ok) (fun i=>2-i) 0 ⟨Nat.zero_le _,fun j hj=>by omega⟩
  (SLe.id ⟨rfl,rfl,rfl,trivial⟩ ⟨⟨_,rfl,.sym _ rfl⟩,trivial⟩ (fun R hR=>hR)) ?_
 rintro i ⟨hi,hok⟩
 conv=>whnf
 refine zah ?_ ?_
 ·intro h
  have hi2 : i<2:=by
   have : (i : Int)<(2 : Int):=of_decide_eq_true h
   omega
  conv=>whnf
  refine ⟨by show 0≤(i : Int)∧(i : Int)<((2 : Nat) : Int); omega,?_⟩
  conv=>whnf
  refine zbU.elem ratC zbf (k:=i) (by show 0+(i : Int).toNat*3=i*3; rw [Int.toNat_natCast]; omega) (by simp; omega) (by decide) (fun h=>by cases h) ?_
  intro r hr
  have hrs : r.sm KK:=by
   rcases List.mem_cons.1 (List.mem_of_getElem? hr) with rfl | h
   ·exact hp.1
   ·rw [List.mem_singleton.1 h]; exact hp.2
  conv=>whnf
  refine zac.fn (zyB r hrs) rfl ?_
  by_cases hro : r.ok
  ·rw [zgp,if_pos hro]
   conv=>whnf
   refine ⟨i+1,⟨by omega,fun j hj r' hr'=>?_⟩,by omega,SLe.id ⟨rfl,rfl,?_,trivial⟩ ⟨⟨_,rfl,.refl _⟩,trivial⟩ (fun R hR=>hR)⟩
   ·by_cases hji : j=i
    ·rw [hji,hr] at hr'; cases hr'; exact hro
    ·exact hok j (by omega) r' hr'
   ·show some (SV.o (.v (.int .i64 (IntKind.i64.wrap ((i : Int)+1)))))=some (SV.o (.v (.int .i64 ((i+1 : Nat) : Int))))
    rw [wrap_i64 (by omega) (by omega)]; rfl
  ·rw [zgp,if_neg hro]
   conv=>whnf
   refine zaa ?_
   have : ¬p.ok:=by
    rintro ⟨h1,h2⟩
    rcases List.mem_cons.1 (List.mem_of_getElem? hr) with rfl | h
    ·exact hro h1
    ·rw [List.mem_singleton.1 h] at hro; exact hro h2
   rw [if_neg this]
 ·intro h
  have hi2 : i=2:=by
   have : ¬(i : Int)<(2 : Int):=of_decide_eq_false h
   omega
  subst hi2
  have : p.ok:=⟨hok 0 (by decide) _ rfl,hok 1 (by decide) _ rfl⟩
  rw [if_pos this]
  conv=>whnf
  exact zaa rfl
end Go.Sx
end
section
set_option maxRecDepth 10000
set_option maxHeartbeats 2000000
namespace Go.Sx
open Go Go.Proofs
def ptC (p : Pt) : List Value:=[.bool p.x.neg,.string (bs p.x.num),.string (bs p.x.den),.bool p.y.neg,.string (bs p.y.num),.string (bs p.y.den)]
theorem zru {g : FuncId} {c : List Value} {k : Nat} {st : SS} (h : boxV st k=some c) : zzU g [c] [.o (.clo g [CP.l k])] st:=by
 refine ⟨[k],rfl,rfl,fun i k' c' h1 h2=>?_⟩
 match i with
 | 0=>cases h1; cases h2; exact h
 | i+1=>cases h1
theorem zzD {N k v j : Nat} (h : k<N) : (bif Nat.beq (N+j) k then v else N+j)=N+j:=by
 have : Nat.beq (N+j) k=false:=by
  cases hb : Nat.beq (N+j) k with
  | false=>rfl
  | true=>have:=Nat.eq_of_beq_eq_true hb; omega
 rw [this]; rfl
def sgC (e : Pt×Pt) : List Value:=ptC e.1++ptC e.2
theorem zdW (e : Pt×Pt) : (sgC e).length=12:=rfl
end Go.Sx
end
section
set_option maxRecDepth 10000
set_option maxHeartbeats 2000000
namespace Go.Sx
open Go Go.Proofs
abbrev Lsm (k : Nat) (l : List Pt) : Prop:=∀ p∈l,p.sm k
abbrev ratM (r : Raw) : ME:=.box [.v (.bool r.neg),.v (.string (bs r.num)),.v (.string (bs r.den))] zaq
theorem zaB.p1 {P : Program} {st : SS} {g : FuncId} {args : List SV} {R : World→Ending→World→Prop} {k : Nat} {xs : List Value} (mk : Value→List Value) (hx : boxV st k=some xs) (hm : SV.o (.p k 0)∈args)
  (hargs : ∀ E,args.map (SV.real E)=mk ((SV.o (.p k 0)).real E)) (h : ∀ a,FnM P g (mk (ptrV a)) (Sx.facts [zaf (some a) xs]) R) : zaB P g args st R:=by
 intro E w he hw
 obtain ⟨A,c,hr,hn,hs⟩:=RdA.box (n:=0) (c:=0) hx (Nat.le_refl _) E w (fun k' mm hk hl=>he k' mm (zdq hm (by simpa [SV.has,AV.has] using hk)) hl) hw
 have hb : ∃ b,E.β k=some b:=by
  unfold boxV at hx
  split at hx
  ·rename_i cs' ty hl
   obtain ⟨b,hb,_⟩:=he k _ (zdq hm (by simp [SV.has,AV.has])) hl
   exact ⟨b,hb⟩
  ·rename_i cs' ty hl
   obtain ⟨b,hb,_⟩:=he k _ (zdq hm (by simp [SV.has,AV.has])) hl
   exact ⟨b,hb⟩
  ·cases hx
 obtain ⟨b,hb⟩:=hb
 have hA : A=some ⟨b,0,none⟩:=by
  have h4 : Value.slice ((E.β k).map fun b=>⟨b,0,none⟩) 0 0=.slice A 0 c:=hr
  injection h4 with h5
  rw [←h5,hb]; rfl
 subst hA
 have hp : (SV.o (.p k 0)).real E=ptrV ⟨b,0,none⟩:=by simp [SV.real,AV.real,hb,ptrV]
 rw [hargs,hp]
 exact (h ⟨b,0,none⟩).calls w (fun R hR=>by rw [List.mem_singleton] at hR; subst hR; exact hs)
theorem zck {a : Addr} {xs : List Value} {w : World} (h : SlF (some a) xs w) (hx : xs≠[]) : ∃ b o,a=⟨b,o,none⟩:=by
 rcases h with h | ⟨b,o,hA,_⟩
 ·exact absurd h hx
 ·exact ⟨b,o,Option.some.inj hA⟩
end Go.Sx
end
section
set_option maxRecDepth 10000
set_option maxHeartbeats 2000000
namespace Go.Sx
open Go Go.Proofs
theorem zkv {i n : Nat} (h : i<n) (hn : n≤1000000000) : IntKind.i64.wrap ((i : Int)+1)=((i+1 : Nat) : Int):=by rw [wrap_i64 (by omega) (by omega)]; rfl
theorem zan {i n : Nat} (h : i<n) (hn : n≤1000000000) : some (SV.o (.v (.int .i64 (IntKind.i64.wrap ((i : Int)+1)))))=some (SV.o (.v (.int .i64 ((i+1 : Nat) : Int)))):=by rw [zkv h hn]
theorem zbV {α : Type} {l : List α} {j : Nat} {x y : α} (h : l[((j : Nat) : Int).toNat]?=some x) (hy : l[j]?=some y) : x=y:=by rw [Int.toNat_natCast,hy] at h; exact (Option.some.inj h).symm
theorem zvL {α : Type} {l : List α} {i : Nat} {x : α} (h : l[i]?=some x) : l.drop i=x::l.drop (i+1):=by
 obtain ⟨h1,h2⟩:=List.getElem?_eq_some_iff.1 h
 rw [←h2]; exact List.drop_eq_getElem_cons h1
theorem zaE {α : Type} {l : List α} {i : Nat} {x : α} (h : l[i]?=some x) : l.take (i+1)=l.take i++[x]:=by rw [List.take_add_one,h]; rfl
end Go.Sx
end
section
set_option maxRecDepth 10000
set_option maxHeartbeats 2000000
namespace Go.Sx
open Go Go.Proofs
theorem zkp : ∀ (a b : List UInt8),a.length=b.length→Op.bytesLess a b=decide (nat a<nat b)
 | [],[],_=>rfl
 | x::a,[],h=>by cases h
 | [],y::b,h=>by cases h
 | x::a,y::b,h=>by
  have hl : a.length=b.length:=by simpa using h
  have ih:=zkp a b hl
  have ha:=zdx a
  have hb:=zdx b
  rw [Op.bytesLess,ih,zcK,zcK,←hl]
  rw [←hl] at hb
  rw [Bool.eq_iff_iff]
  simp only [Bool.or_eq_true,Bool.and_eq_true,decide_eq_true_eq,beq_iff_eq,UInt8.lt_iff_toNat_lt]
  generalize 256 ^ a.length=B at *
  constructor
  ·rintro (h1 | ⟨rfl,h1⟩)
   ·have : (x.toNat+1)*B≤y.toNat*B:=Nat.mul_le_mul_right _ h1
    rw [Nat.add_mul] at this; omega
   ·omega
  ·intro h1
   rcases Nat.lt_trichotomy x.toNat y.toNat with h2 | h2 | h2
   ·exact .inl h2
   ·right; exact ⟨UInt8.toNat_inj.1 h2,by rw [h2] at h1; omega⟩
   ·exfalso
    have : (y.toNat+1)*B≤x.toNat*B:=Nat.mul_le_mul_right _ h2
    rw [Nat.add_mul] at this; omega
theorem zeP {m n : Nat} (h : (bytes m).length<(bytes n).length) : m<n:=by
 have h1:=zdx (bytes m)
 rw [zal] at h1
 have h2 : ¬n<256 ^ (bytes m).length:=fun h2=>by have:=za8 h2; omega
 omega
theorem zdu (m n : Nat) : Fn PP zcC [.string (bs (bytes m)),.string (bs (bytes n))] (.int .i64 (cmpN m n)):=by
 refine Fn.of zab mixed zfo rfl rfl (Nat.le_of_ble_eq_true rfl) ?_
 intro w
 conv=>whnf
 refine zah ?_ ?_
 ·intro h
  have hne : (bytes m).length≠(bytes n).length:=by
   intro he
   have h2 : (((bytes m).length : Int) != ((bytes n).length : Int))=true:=h
   rw [he] at h2
   simp at h2
  conv=>whnf
  refine zah ?_ ?_
  ·intro h2
   have h3 : (bytes m).length<(bytes n).length:=by
    have : ((bytes m).length : Int)<((bytes n).length : Int):=of_decide_eq_true h2
    omega
   conv=>whnf
   refine zaa ?_
   rw [cmpN,if_pos (zeP h3)]
  ·intro h2
   have h3 : (bytes n).length<(bytes m).length:=by
    have : ¬((bytes m).length : Int)<((bytes n).length : Int):=of_decide_eq_false h2
    omega
   have h4:=zeP h3
   conv=>whnf
   refine zaa ?_
   rw [cmpN,if_neg (by omega),if_pos h4]
 ·intro h
  have he : (bytes m).length=(bytes n).length:=by
   have h2 : (((bytes m).length : Int) != ((bytes n).length : Int))=false:=h
   simp at h2; omega
  conv=>whnf
  have hb1:=zkp (bytes m) (bytes n) he
  rw [zal,zal] at hb1
  rcases Nat.lt_trichotomy m n with h1 | h1 | h1
  ·refine zai (by rw [zbn,zbn,hb1]; exact decide_eq_true h1) ?_
   conv=>whnf
   refine zaa ?_
   rw [cmpN,if_pos h1]
  ·refine zae (by rw [zbn,zbn,hb1]; exact decide_eq_false (by omega)) ?_
   conv=>whnf
   refine zae (by rw [zbn,zbn,hb1,h1]; simp) ?_
   conv=>whnf
   refine zaa ?_
   rw [cmpN,if_neg (by omega),if_neg (by omega)]
  ·refine zae (by rw [zbn,zbn,hb1]; exact decide_eq_false (by omega)) ?_
   conv=>whnf
   refine zai (by
    rw [zbn,zbn,hb1,decide_eq_false (show ¬m<n by omega)]
    have : bytes m≠bytes n:=fun h=>by have:=zsz h; omega
    simp [this]) ?_
   conv=>whnf
   refine zaa ?_
   rw [cmpN,if_neg (by omega),if_pos h1]
def dgt (l : List UInt8) (j : Nat) : Nat:=if j<l.length then (l.getD (l.length-1-j) 0).toNat else 0
def low (l : List UInt8) (j : Nat) : Nat:=nat (l.drop (l.length-j))
theorem znz (l : List UInt8) : low l 0=0:=by unfold low; rw [Nat.sub_zero,List.drop_length]; rfl
theorem zp7 {l : List UInt8} {j : Nat} (h : l.length≤j) : low l j=nat l:=by unfold low; rw [show l.length-j=0 by omega,List.drop_zero]
theorem zds (l : List UInt8) (j : Nat) : low l (j+1)=dgt l j*256 ^ j+low l j:=by
 unfold low dgt
 by_cases h : j<l.length
 ·rw [if_pos h]
  have e : l.length-(j+1)=l.length-1-j:=by omega
  have hlt : l.length-1-j<l.length:=by omega
  rw [e,List.drop_eq_getElem_cons hlt,zcK,show l.length-1-j+1=l.length-j by omega]
  have : (l.drop (l.length-j)).length=j:=by rw [List.length_drop]; omega
  rw [this,List.getD_eq_getElem?_getD,List.getElem?_eq_getElem hlt]; rfl
 ·rw [if_neg h,show l.length-(j+1)=l.length-j by omega]; omega
theorem zpW (l : List UInt8) (j : Nat) : dgt l j<256:=by
 unfold dgt; split
 ·exact (l.getD (l.length-1-j) 0).toBitVec.isLt
 ·decide
theorem zwD {k : Nat} {L : List UInt8} (x : UInt8) : (List.replicate (k+1) 0++L).set k x=List.replicate k 0++(x::L):=by
 rw [List.replicate_succ',List.append_assoc,List.set_append_right _ _ (by simp)]
 simp
theorem zzv (l : List UInt8) {j : Nat} (h : j<l.length) {z : Int} (hz : z=(l.length : Int)-((j+1 : Nat) : Int)) : sb (bs l) z=(dgt l j : Int):=by
 rw [zm9,hz]
 unfold dgt
 rw [if_pos h,show ((l.length : Int)-((j+1 : Nat) : Int)).toNat=l.length-1-j by omega]
theorem zbJ {x : Nat} (hx : x<256) (L : List UInt8) : nat (UInt8.ofNat x::L)=x*256 ^ L.length+nat L:=by
 rw [zcK,UInt8.toNat_ofNat',Nat.mod_eq_of_lt hx]
theorem zB7 (a b : Nat) : (if (b : Int)>(a : Int) then (b : Int) else (a : Int))=((max a b : Nat) : Int):=by
 by_cases h : (b : Int)>(a : Int)
 ·rw [if_pos h]; omega
 ·rw [if_neg h]; omega
theorem zkb (n : Nat) : repl n [Value.int .u8 0]=rowV u8c (List.replicate n 0):=by rw [zb7]; rfl
theorem zyz {P c da db nL A B : Nat} (h : nL+c*P=A+B) : (c+da+db)%256*P+nL+(c+da+db)/256*(P*256)=(da*P+A)+(db*P+B):=by
 have h1 : (c+da+db)*P=(c+da+db)%256*P+(c+da+db)/256*(P*256):=by
  have:=Nat.mod_add_div (c+da+db) 256
  rw [Nat.mul_comm P 256,←Nat.mul_assoc,←Nat.add_mul,Nat.mul_comm _ 256,this]
 rw [Nat.add_mul,Nat.add_mul] at h1
 omega
theorem zuS {x : Nat} : IntKind.u8.wrap (x : Int)=((UInt8.ofNat (x%256)).toNat : Int):=by
 rw [IntKind.wrap_u8,UInt8.toNat_ofNat']; omega
theorem zdG {N k : Nat} {L : List UInt8} {x : Nat} {z : Int} {v : Value} (hk : N=k+1) (hz : z=(k : Int)) (hv : v=.int .u8 (x : Int)) :
  putN (z.toNat*1) [Value.int .u8 (IntKind.u8.wrap (x : Int))] (rowV u8c (List.replicate N 0++L))=rowV u8c (List.replicate k 0++(UInt8.ofNat (x%256)::L)):=by
 have hput:=zci (f:=u8c) zbA (k:=k) (l:=List.replicate (k+1) 0++L) (UInt8.ofNat (x%256)) (by simp; omega)
 rw [zwD] at hput
 rw [hz,hk,Int.toNat_natCast,←hput,zuS]; rfl
theorem zwA (x : Nat) : Int.fdiv (x : Int) (2 ^ min (8 : Int).toNat IntKind.i64.bits)=((x/256 : Nat) : Int):=by
 rw [show min (8 : Int).toNat IntKind.i64.bits=8 from rfl,Int.fdiv_eq_ediv_of_nonneg _ (by decide)]; rfl
theorem zrc (a b : List UInt8) (ha : a.length≤500000000) (hb : b.length≤500000000) : Fn PP zdB [.string (bs a),.string (bs b)] (.string (bs (bytes (nat a+nat b)))):=by
 refine Fn.of zab mixed zht rfl rfl (Nat.le_of_ble_eq_true rfl) ?_
 intro w
 obtain ⟨m,hm⟩ : ∃ m,m=max a.length b.length:=⟨_,rfl⟩
 have hmx : (if ((b.length : Nat) : Int)>((a.length : Nat) : Int) then ((b.length : Nat) : Int) else ((a.length : Nat) : Int))=(m : Int):=by rw [hm]; exact zB7 _ _
 obtain ⟨N,hN⟩ : ∃ N,N=m+1:=⟨_,rfl⟩
 have hw1 : IntKind.i64.wrap ((if ((b.length : Nat) : Int)>((a.length : Nat) : Int) then ((b.length : Nat) : Int) else ((a.length : Nat) : Int))+1)=(N : Int):=by rw [hmx,wrap_i64 (by omega) (by omega)]; omega
 conv=>whnf
 refine ⟨?_,?_⟩
 ·show 0≤IntKind.i64.wrap ((if ((b.length : Nat) : Int)>((a.length : Nat) : Int) then ((b.length : Nat) : Int) else ((a.length : Nat) : Int))+1)∧IntKind.i64.wrap ((if ((b.length : Nat) : Int)>((a.length : Nat) : Int) then ((b.length : Nat) : Int) else ((a.length : Nat) : Int))+1)≤IntKind.i64.wrap ((if ((b.length : Nat) : Int)>((a.length : Nat) : Int) then ((b.length : Nat) : Int) else ((a.length : Nat) : Int))+1)∧((1 : Nat) : Int)*IntKind.i64.wrap ((if ((b.length : Nat) : Int)>((a.length : Nat) : Int) then ((b.length : Nat) : Int) else ((a.length : Nat) : Int))+1)≤281474976710656∧IntKind.i64.wrap ((if ((b.length : Nat) : Int)>((a.length : Nat) : Int) then ((b.length : Nat) : Int) else ((a.length : Nat) : Int))+1)≤9223372036854775807
  rw [hw1]; omega
 conv=>whnf
 refine zak (ι:=Nat×Nat×List UInt8) (fun ⟨j,c,L⟩=>⟨[(0,.o (.v (.string (bs a)))),(1,.o (.v (.string (bs b)))),(5,.o (.v (.int .i64 N))),(6,.o (.w 16)),(7,.o (.v (.int .i64 c))),(8,.o (.v (.int .i64 (j+1 : Nat))))],[(16,.own zaI 1 N (rowV u8c (List.replicate (N-j) 0++L)))],[]⟩)
  (fun ⟨j,c,L⟩=>j≤N∧L.length=j∧c≤1∧nat L+c*256 ^ j=low a j+low b j) (fun ⟨j,c,L⟩=>N-j) (0,0,[]) ⟨Nat.zero_le _,rfl,by decide,by rw [znz,znz]; rfl⟩ (SLe.id ⟨rfl,rfl,?_,rfl,rfl,rfl,trivial⟩ ⟨⟨_,rfl,?_⟩,trivial⟩ (fun R hR=>hR)) ?_
 ·show some (SV.o (.v (.int .i64 (IntKind.i64.wrap ((if ((b.length : Nat) : Int)>((a.length : Nat) : Int) then ((b.length : Nat) : Int) else ((a.length : Nat) : Int))+1)))))=_
  rw [hw1]; rfl
 ·show MEle (ME.own zaI 1 (IntKind.i64.wrap ((if ((b.length : Nat) : Int)>((a.length : Nat) : Int) then ((b.length : Nat) : Int) else ((a.length : Nat) : Int))+1)).toNat (repl (IntKind.i64.wrap ((if ((b.length : Nat) : Int)>((a.length : Nat) : Int) then ((b.length : Nat) : Int) else ((a.length : Nat) : Int))+1)).toNat [Value.int .u8 0])) (ME.own zaI 1 N (rowV u8c (List.replicate (N-0) 0++[])))
  rw [hw1,Int.toNat_natCast,zkb,List.append_nil]; exact .refl _
 rintro ⟨j,c,L⟩ ⟨hj,hL,hc,hinv⟩
 conv=>whnf
 refine zah ?_ ?_
 ·intro h
  have hj2 : j<N:=by
   have : ((j+1 : Nat) : Int)≤(N : Int):=of_decide_eq_true h
   omega
  obtain ⟨k,hk⟩ : ∃ k,N-j=k+1:=⟨N-j-1,by omega⟩
  have hwk : IntKind.i64.wrap ((N : Int)-((j+1 : Nat) : Int))=(k : Int):=by rw [wrap_i64 (by omega) (by omega)]; omega
  have hwa : ∀ x : List UInt8,x.length≤500000000→IntKind.i64.wrap ((x.length : Int)-((j+1 : Nat) : Int))=(x.length : Int)-((j+1 : Nat) : Int):=fun x hx=>wrap_i64 (by omega) (by omega)
  have hda:=zpW a j
  have hdb:=zpW b j
  have hcv : ∀ x : List UInt8,x.length≤500000000→j<x.length→IntKind.i64.wrap (sb (bs x) (IntKind.i64.wrap ((x.length : Int)-((j+1 : Nat) : Int))))=(dgt x j : Int):=fun x hx hlt=>by
   rw [hwa x hx,zzv x hlt rfl]
   have:=zpW x j
   exact wrap_i64 (by omega) (by omega)
  have hidx : ∀ x : List UInt8,x.length≤500000000→j<x.length→0≤IntKind.i64.wrap ((x.length : Int)-((j+1 : Nat) : Int))∧IntKind.i64.wrap ((x.length : Int)-((j+1 : Nat) : Int))<(((bs x).size : Nat) : Int):=fun x hx hlt=>by
   rw [hwa x hx]; show _∧_<((x.length : Nat) : Int); omega
  have d0 : ∀ x : List UInt8,¬j<x.length→dgt x j=0:=fun x hx=>by unfold dgt; rw [if_neg hx]
  have hstep:=zyz (da:=dgt a j) (db:=dgt b j) hinv
  rw [←zds,←zds] at hstep
  conv=>whnf
  refine zah ?_ ?_
  ·intro h1
   have la : j<a.length:=by
    have : ((j+1 : Nat) : Int)≤((a.length : Nat) : Int):=of_decide_eq_true h1
    omega
   conv=>whnf
   refine ⟨hidx a ha la,?_⟩
   conv=>whnf
   refine zah ?_ ?_
   ·intro h2
    have lb : j<b.length:=by
     have : ((j+1 : Nat) : Int)≤((b.length : Nat) : Int):=of_decide_eq_true h2
     omega
    conv=>whnf
    refine ⟨hidx b hb lb,?_⟩
    have hE : IntKind.i64.wrap (IntKind.i64.wrap ((c : Int)+IntKind.i64.wrap (sb (bs a) (IntKind.i64.wrap ((a.length : Int)-((j+1 : Nat) : Int)))))+IntKind.i64.wrap (sb (bs b) (IntKind.i64.wrap ((b.length : Int)-((j+1 : Nat) : Int)))))=((c+dgt a j+dgt b j : Nat) : Int):=by
     rw [hcv a ha la,hcv b hb lb,wrap_i64 (n:=(c : Int)+_) (by omega) (by omega),wrap_i64 (by omega) (by omega)]; omega
    conv=>whnf
    refine ⟨by rw [hwk]; show 0≤(k : Int)∧(k : Int)<(N : Int); omega,?_⟩
    conv=>whnf
    refine ⟨⟨by rw [hwk,zag zbA]; show (k : Int).toNat*1+1≤_; simp; omega,by decide⟩,?_⟩
    conv=>whnf
    refine ⟨by decide,?_⟩
    conv=>whnf
    refine ⟨(j+1,(c+dgt a j+dgt b j)/256,UInt8.ofNat ((c+dgt a j+dgt b j)%256)::L),⟨by omega,by simp [hL],by omega,?_⟩,by show N-(j+1)<N-j; omega,SLe.id ⟨rfl,rfl,rfl,rfl,?_,zan (i:=j+1) (n:=N+1) (by omega) (by omega),trivial⟩ ⟨⟨_,rfl,?_⟩,trivial⟩ (fun R hR=>hR)⟩
    ·rw [zbJ (Nat.mod_lt _ (by decide)),hL,Nat.pow_succ]; exact hstep
    ·show some (SV.o (.v (.int .i64 (Int.fdiv (IntKind.i64.wrap (IntKind.i64.wrap ((c : Int)+IntKind.i64.wrap (sb (bs a) (IntKind.i64.wrap ((a.length : Int)-((j+1 : Nat) : Int)))))+IntKind.i64.wrap (sb (bs b) (IntKind.i64.wrap ((b.length : Int)-((j+1 : Nat) : Int)))))) (2 ^ min (8 : Int).toNat IntKind.i64.bits)))))=_
     rw [hE,zwA]; rfl
    ·show MEle (ME.own zaI 1 N (putN ((IntKind.i64.wrap ((N : Int)-((j+1 : Nat) : Int))).toNat*1) [Value.int .u8 (IntKind.u8.wrap (IntKind.i64.wrap (IntKind.i64.wrap ((c : Int)+IntKind.i64.wrap (sb (bs a) (IntKind.i64.wrap ((a.length : Int)-((j+1 : Nat) : Int)))))+IntKind.i64.wrap (sb (bs b) (IntKind.i64.wrap ((b.length : Int)-((j+1 : Nat) : Int)))))))] (rowV u8c (List.replicate (N-j) 0++L)))) (ME.own zaI 1 N (rowV u8c (List.replicate (N-(j+1)) 0++(UInt8.ofNat ((c+dgt a j+dgt b j)%256)::L))))
     rw [hE,zdG hk hwk rfl,show N-(j+1)=k by omega]; exact .refl _
   ·intro h2
    have lb : ¬j<b.length:=by
     have : ¬((j+1 : Nat) : Int)≤((b.length : Nat) : Int):=of_decide_eq_false h2
     omega
    have z:=d0 b lb
    have hE : IntKind.i64.wrap ((c : Int)+IntKind.i64.wrap (sb (bs a) (IntKind.i64.wrap ((a.length : Int)-((j+1 : Nat) : Int)))))=((c+dgt a j+dgt b j : Nat) : Int):=by
     rw [hcv a ha la,wrap_i64 (by omega) (by omega)]; omega
    conv=>whnf
    refine ⟨by rw [hwk]; show 0≤(k : Int)∧(k : Int)<(N : Int); omega,?_⟩
    conv=>whnf
    refine ⟨⟨by rw [hwk,zag zbA]; show (k : Int).toNat*1+1≤_; simp; omega,by decide⟩,?_⟩
    conv=>whnf
    refine ⟨by decide,?_⟩
    conv=>whnf
    refine ⟨(j+1,(c+dgt a j+dgt b j)/256,UInt8.ofNat ((c+dgt a j+dgt b j)%256)::L),⟨by omega,by simp [hL],by omega,?_⟩,by show N-(j+1)<N-j; omega,SLe.id ⟨rfl,rfl,rfl,rfl,?_,zan (i:=j+1) (n:=N+1) (by omega) (by omega),trivial⟩ ⟨⟨_,rfl,?_⟩,trivial⟩ (fun R hR=>hR)⟩
    ·rw [zbJ (Nat.mod_lt _ (by decide)),hL,Nat.pow_succ]; exact hstep
    ·show some (SV.o (.v (.int .i64 (Int.fdiv (IntKind.i64.wrap ((c : Int)+IntKind.i64.wrap (sb (bs a) (IntKind.i64.wrap ((a.length : Int)-((j+1 : Nat) : Int)))))) (2 ^ min (8 : Int).toNat IntKind.i64.bits)))))=_
     rw [hE,zwA]; rfl
    ·show MEle (ME.own zaI 1 N (putN ((IntKind.i64.wrap ((N : Int)-((j+1 : Nat) : Int))).toNat*1) [Value.int .u8 (IntKind.u8.wrap (IntKind.i64.wrap ((c : Int)+IntKind.i64.wrap (sb (bs a) (IntKind.i64.wrap ((a.length : Int)-((j+1 : Nat) : Int)))))))] (rowV u8c (List.replicate (N-j) 0++L)))) (ME.own zaI 1 N (rowV u8c (List.replicate (N-(j+1)) 0++(UInt8.ofNat ((c+dgt a j+dgt b j)%256)::L))))
     rw [hE,zdG hk hwk rfl,show N-(j+1)=k by omega]; exact .refl _
  ·intro h1
   have la : ¬j<a.length:=by
    have : ¬((j+1 : Nat) : Int)≤((a.length : Nat) : Int):=of_decide_eq_false h1
    omega
   have z:=d0 a la
   conv=>whnf
   refine zah ?_ ?_
   ·intro h2
    have lb : j<b.length:=by
     have : ((j+1 : Nat) : Int)≤((b.length : Nat) : Int):=of_decide_eq_true h2
     omega
    conv=>whnf
    refine ⟨hidx b hb lb,?_⟩
    have hE : IntKind.i64.wrap ((c : Int)+IntKind.i64.wrap (sb (bs b) (IntKind.i64.wrap ((b.length : Int)-((j+1 : Nat) : Int)))))=((c+dgt a j+dgt b j : Nat) : Int):=by
     rw [hcv b hb lb,wrap_i64 (by omega) (by omega)]; omega
    conv=>whnf
    refine ⟨by rw [hwk]; show 0≤(k : Int)∧(k : Int)<(N : Int); omega,?_⟩
    conv=>whnf
    refine ⟨⟨by rw [hwk,zag zbA]; show (k : Int).toNat*1+1≤_; simp; omega,by decide⟩,?_⟩
    conv=>whnf
    refine ⟨by decide,?_⟩
    conv=>whnf
    refine ⟨(j+1,(c+dgt a j+dgt b j)/256,UInt8.ofNat ((c+dgt a j+dgt b j)%256)::L),⟨by omega,by simp [hL],by omega,?_⟩,by show N-(j+1)<N-j; omega,SLe.id ⟨rfl,rfl,rfl,rfl,?_,zan (i:=j+1) (n:=N+1) (by omega) (by omega),trivial⟩ ⟨⟨_,rfl,?_⟩,trivial⟩ (fun R hR=>hR)⟩
    ·rw [zbJ (Nat.mod_lt _ (by decide)),hL,Nat.pow_succ]; exact hstep
    ·show some (SV.o (.v (.int .i64 (Int.fdiv (IntKind.i64.wrap ((c : Int)+IntKind.i64.wrap (sb (bs b) (IntKind.i64.wrap ((b.length : Int)-((j+1 : Nat) : Int)))))) (2 ^ min (8 : Int).toNat IntKind.i64.bits)))))=_
     rw [hE,zwA]; rfl
    ·show MEle (ME.own zaI 1 N (putN ((IntKind.i64.wrap ((N : Int)-((j+1 : Nat) : Int))).toNat*1) [Value.int .u8 (IntKind.u8.wrap (IntKind.i64.wrap ((c : Int)+IntKind.i64.wrap (sb (bs b) (IntKind.i64.wrap ((b.length : Int)-((j+1 : Nat) : Int)))))))] (rowV u8c (List.replicate (N-j) 0++L)))) (ME.own zaI 1 N (rowV u8c (List.replicate (N-(j+1)) 0++(UInt8.ofNat ((c+dgt a j+dgt b j)%256)::L))))
     rw [hE,zdG hk hwk rfl,show N-(j+1)=k by omega]; exact .refl _
   ·intro h2
    have lb : ¬j<b.length:=by
     have : ¬((j+1 : Nat) : Int)≤((b.length : Nat) : Int):=of_decide_eq_false h2
     omega
    have z2:=d0 b lb
    have hE : (c : Int)=((c+dgt a j+dgt b j : Nat) : Int):=by
     omega
    conv=>whnf
    refine ⟨by rw [hwk]; show 0≤(k : Int)∧(k : Int)<(N : Int); omega,?_⟩
    conv=>whnf
    refine ⟨⟨by rw [hwk,zag zbA]; show (k : Int).toNat*1+1≤_; simp; omega,by decide⟩,?_⟩
    conv=>whnf
    refine ⟨by decide,?_⟩
    conv=>whnf
    refine ⟨(j+1,(c+dgt a j+dgt b j)/256,UInt8.ofNat ((c+dgt a j+dgt b j)%256)::L),⟨by omega,by simp [hL],by omega,?_⟩,by show N-(j+1)<N-j; omega,SLe.id ⟨rfl,rfl,rfl,rfl,?_,zan (i:=j+1) (n:=N+1) (by omega) (by omega),trivial⟩ ⟨⟨_,rfl,?_⟩,trivial⟩ (fun R hR=>hR)⟩
    ·rw [zbJ (Nat.mod_lt _ (by decide)),hL,Nat.pow_succ]; exact hstep
    ·show some (SV.o (.v (.int .i64 (Int.fdiv ((c : Int)) (2 ^ min (8 : Int).toNat IntKind.i64.bits)))))=_
     rw [hE,zwA]; rfl
    ·show MEle (ME.own zaI 1 N (putN ((IntKind.i64.wrap ((N : Int)-((j+1 : Nat) : Int))).toNat*1) [Value.int .u8 (IntKind.u8.wrap ((c : Int)))] (rowV u8c (List.replicate (N-j) 0++L)))) (ME.own zaI 1 N (rowV u8c (List.replicate (N-(j+1)) 0++(UInt8.ofNat ((c+dgt a j+dgt b j)%256)::L))))
     rw [hE,zdG hk hwk rfl,show N-(j+1)=k by omega]; exact .refl _
 ·intro h
  have hj2 : j=N:=by
   have : ¬((j+1 : Nat) : Int)≤(N : Int):=of_decide_eq_false h
   omega
  subst hj2
  rw [zp7 (by omega),zp7 (by omega)] at hinv
  have hc0 : c=0:=by
   have h1:=za2 (l:=a) (k:=j-1) (by omega)
   have h2:=za2 (l:=b) (k:=j-1) (by omega)
   rcases Nat.eq_zero_or_pos c with h3 | h3
   ·exact h3
   ·exfalso
    have h4 : 256 ^ j=256 ^ (j-1)*256:=by rw [←Nat.pow_succ,show (j-1).succ=j by omega]
    have : 1*256 ^ j≤c*256 ^ j:=Nat.mul_le_mul_right _ h3
    omega
  rw [hc0,Nat.zero_mul,Nat.add_zero] at hinv
  conv=>whnf
  refine ⟨L,hL,by show (rowV u8c (List.replicate (j-j) 0++L)).take j=bytV L; rw [Nat.sub_self,List.replicate_zero,List.nil_append,zf5]; exact List.take_of_length_le (by simp [bytV,hL]),?_⟩
  conv=>whnf
  refine zac.fn (zkF L) rfl ?_
  rw [zdL,hinv]
  conv=>whnf
  exact zaa rfl
end Go.Sx
end
section
set_option maxRecDepth 10000
set_option maxHeartbeats 2000000
namespace Go.Sx
open Go Go.Proofs
theorem znq {P d da db bw bw' nL A B : Nat} (h : nL+B=A+bw*P) (hd : d+db+bw=da+256*bw') : d*P+nL+(db*P+B)=(da*P+A)+bw'*(P*256):=by
 have h1 : (d+db+bw)*P=(da+256*bw')*P:=by rw [hd]
 rw [Nat.add_mul,Nat.add_mul,Nat.add_mul,Nat.mul_comm 256 bw',Nat.mul_assoc,Nat.mul_comm 256 P] at h1
 omega
theorem zkQ (a b : List UInt8) (ha : a.length≤500000000) (hb : b.length≤a.length) (hle : nat b≤nat a) : Fn PP zdw [.string (bs a),.string (bs b)] (.string (bs (bytes (nat a-nat b)))):=by
 refine Fn.of zab mixed zhu rfl rfl (Nat.le_of_ble_eq_true rfl) ?_
 intro w
 obtain ⟨N,hN⟩ : ∃ N,N=a.length:=⟨_,rfl⟩
 conv=>whnf
 refine ⟨by show 0≤((a.length : Nat) : Int)∧((a.length : Nat) : Int)≤((a.length : Nat) : Int)∧((1 : Nat) : Int)*((a.length : Nat) : Int)≤281474976710656∧((a.length : Nat) : Int)≤9223372036854775807; omega,?_⟩
 conv=>whnf
 refine zak (ι:=Nat×Nat×List UInt8) (fun ⟨j,c,L⟩=>⟨[(0,.o (.v (.string (bs a)))),(1,.o (.v (.string (bs b)))),(5,.o (.w 11)),(6,.o (.v (.int .i64 c))),(7,.o (.v (.int .i64 (j+1 : Nat))))],[(11,.own zaI 1 N (rowV u8c (List.replicate (N-j) 0++L)))],[]⟩)
  (fun ⟨j,c,L⟩=>j≤N∧L.length=j∧c≤1∧nat L+low b j=low a j+c*256 ^ j) (fun ⟨j,c,L⟩=>N-j) (0,0,[]) ⟨Nat.zero_le _,rfl,by decide,by rw [znz,znz]; rfl⟩ (SLe.id ⟨rfl,rfl,rfl,rfl,rfl,trivial⟩ ⟨⟨_,rfl,?_⟩,trivial⟩ (fun R hR=>hR)) ?_
 ·show MEle (ME.own zaI 1 ((a.length : Nat) : Int).toNat (repl ((a.length : Nat) : Int).toNat [Value.int .u8 0])) (ME.own zaI 1 N (rowV u8c (List.replicate (N-0) 0++[])))
  rw [←hN,Int.toNat_natCast,zkb,List.append_nil]; exact .refl _
 rintro ⟨j,c,L⟩ ⟨hj,hL,hc,hinv⟩
 conv=>whnf
 refine zah ?_ ?_
 ·intro h
  have hj2 : j<N:=by
   have : ((j+1 : Nat) : Int)≤((a.length : Nat) : Int):=of_decide_eq_true h
   omega
  obtain ⟨k,hk⟩ : ∃ k,N-j=k+1:=⟨N-j-1,by omega⟩
  have hwk : IntKind.i64.wrap ((a.length : Int)-((j+1 : Nat) : Int))=(k : Int):=by rw [wrap_i64 (by omega) (by omega)]; omega
  have hwk2 : IntKind.i64.wrap ((((bs a).size : Nat) : Int)-((j+1 : Nat) : Int))=(k : Int):=hwk
  have hwa : ∀ x : List UInt8,x.length≤500000000→IntKind.i64.wrap ((x.length : Int)-((j+1 : Nat) : Int))=(x.length : Int)-((j+1 : Nat) : Int):=fun x hx=>wrap_i64 (by omega) (by omega)
  have hda:=zpW a j
  have hdb:=zpW b j
  have hcv : ∀ x : List UInt8,x.length≤500000000→j<x.length→IntKind.i64.wrap (sb (bs x) (IntKind.i64.wrap ((x.length : Int)-((j+1 : Nat) : Int))))=(dgt x j : Int):=fun x hx hlt=>by
   rw [hwa x hx,zzv x hlt rfl]
   have:=zpW x j
   exact wrap_i64 (by omega) (by omega)
  have hidx : ∀ x : List UInt8,x.length≤500000000→j<x.length→0≤IntKind.i64.wrap ((x.length : Int)-((j+1 : Nat) : Int))∧IntKind.i64.wrap ((x.length : Int)-((j+1 : Nat) : Int))<(((bs x).size : Nat) : Int):=fun x hx hlt=>by
   rw [hwa x hx]; show _∧_<((x.length : Nat) : Int); omega
  have d0 : ¬j<b.length→dgt b j=0:=fun hx=>by unfold dgt; rw [if_neg hx]
  have la : j<a.length:=by omega
  conv=>whnf
  refine ⟨hidx a ha la,?_⟩
  conv=>whnf
  refine zah ?_ ?_
  ·intro h2
   have lb : j<b.length:=by
    have : ((j+1 : Nat) : Int)≤((b.length : Nat) : Int):=of_decide_eq_true h2
    omega
   conv=>whnf
   refine ⟨hidx b (by omega) lb,?_⟩
   have hE : IntKind.i64.wrap (IntKind.i64.wrap (IntKind.i64.wrap (sb (bs a) (IntKind.i64.wrap ((a.length : Int)-((j+1 : Nat) : Int))))-(c : Int))-IntKind.i64.wrap (sb (bs b) (IntKind.i64.wrap ((b.length : Int)-((j+1 : Nat) : Int)))))=(dgt a j : Int)-(c : Int)-(dgt b j : Int):=by
    rw [hcv a ha la,hcv b (by omega) lb,wrap_i64 (n:=(dgt a j : Int)-(c : Int)) (by omega) (by omega),wrap_i64 (by omega) (by omega)]
   conv=>whnf
   refine zah ?_ ?_
   ·intro h3
    have h4 : IntKind.i64.wrap (IntKind.i64.wrap (IntKind.i64.wrap (sb (bs a) (IntKind.i64.wrap ((a.length : Int)-((j+1 : Nat) : Int))))-(c : Int))-IntKind.i64.wrap (sb (bs b) (IntKind.i64.wrap ((b.length : Int)-((j+1 : Nat) : Int)))))<0:=of_decide_eq_true h3
    rw [hE] at h4
    obtain ⟨d,hd⟩ : ∃ d : Nat,(d : Int)=(dgt a j : Int)-(c : Int)-(dgt b j : Int)+256:=⟨((dgt a j : Int)-(c : Int)-(dgt b j : Int)+256).toNat,by omega⟩
    have hD : IntKind.i64.wrap (IntKind.i64.wrap (IntKind.i64.wrap (IntKind.i64.wrap (sb (bs a) (IntKind.i64.wrap ((a.length : Int)-((j+1 : Nat) : Int))))-(c : Int))-IntKind.i64.wrap (sb (bs b) (IntKind.i64.wrap ((b.length : Int)-((j+1 : Nat) : Int)))))+256)=(d : Int):=by
     rw [hE,wrap_i64 (by omega) (by omega)]; omega
    conv=>whnf
    refine ⟨by rw [hwk2]; show 0≤(k : Int)∧(k : Int)<(N : Int); omega,?_⟩
    conv=>whnf
    refine ⟨⟨by rw [hwk2,zag zbA]; show (k : Int).toNat*1+1≤_; simp; omega,by decide⟩,?_⟩
    conv=>whnf
    refine ⟨(j+1,1,UInt8.ofNat (d%256)::L),⟨by omega,by simp [hL],by decide,?_⟩,by show N-(j+1)<N-j; omega,SLe.id ⟨rfl,rfl,rfl,rfl,zan (i:=j+1) (n:=N+1) (by omega) (by omega),trivial⟩ ⟨⟨_,rfl,?_⟩,trivial⟩ (fun R hR=>hR)⟩
    ·rw [Nat.mod_eq_of_lt (by omega),zbJ (by omega),hL,Nat.pow_succ,zds,zds]
     exact znq hinv (by omega)
    ·show MEle (ME.own zaI 1 N (putN ((IntKind.i64.wrap ((a.length : Int)-((j+1 : Nat) : Int))).toNat*1) [Value.int .u8 (IntKind.u8.wrap (IntKind.i64.wrap (IntKind.i64.wrap (IntKind.i64.wrap (IntKind.i64.wrap (sb (bs a) (IntKind.i64.wrap ((a.length : Int)-((j+1 : Nat) : Int))))-(c : Int))-IntKind.i64.wrap (sb (bs b) (IntKind.i64.wrap ((b.length : Int)-((j+1 : Nat) : Int)))))+256)))] (rowV u8c (List.replicate (N-j) 0++L)))) (ME.own zaI 1 N (rowV u8c (List.replicate (N-(j+1)) 0++(UInt8.ofNat (d%256)::L))))
     rw [hD,zdG hk hwk rfl,show N-(j+1)=k by omega]; exact .refl _
   ·intro h3
    have h4 : ¬IntKind.i64.wrap (IntKind.i64.wrap (IntKind.i64.wrap (sb (bs a) (IntKind.i64.wrap ((a.length : Int)-((j+1 : Nat) : Int))))-(c : Int))-IntKind.i64.wrap (sb (bs b) (IntKind.i64.wrap ((b.length : Int)-((j+1 : Nat) : Int)))))<0:=of_decide_eq_false h3
    rw [hE] at h4
    obtain ⟨d,hd⟩ : ∃ d : Nat,(d : Int)=(dgt a j : Int)-(c : Int)-(dgt b j : Int):=⟨((dgt a j : Int)-(c : Int)-(dgt b j : Int)).toNat,by omega⟩
    have hD : IntKind.i64.wrap (IntKind.i64.wrap (IntKind.i64.wrap (sb (bs a) (IntKind.i64.wrap ((a.length : Int)-((j+1 : Nat) : Int))))-(c : Int))-IntKind.i64.wrap (sb (bs b) (IntKind.i64.wrap ((b.length : Int)-((j+1 : Nat) : Int)))))=(d : Int):=by
     rw [hE,hd]
    conv=>whnf
    refine ⟨by rw [hwk2]; show 0≤(k : Int)∧(k : Int)<(N : Int); omega,?_⟩
    conv=>whnf
    refine ⟨⟨by rw [hwk2,zag zbA]; show (k : Int).toNat*1+1≤_; simp; omega,by decide⟩,?_⟩
    conv=>whnf
    refine ⟨(j+1,0,UInt8.ofNat (d%256)::L),⟨by omega,by simp [hL],by decide,?_⟩,by show N-(j+1)<N-j; omega,SLe.id ⟨rfl,rfl,rfl,rfl,zan (i:=j+1) (n:=N+1) (by omega) (by omega),trivial⟩ ⟨⟨_,rfl,?_⟩,trivial⟩ (fun R hR=>hR)⟩
    ·rw [Nat.mod_eq_of_lt (by omega),zbJ (by omega),hL,Nat.pow_succ,zds,zds]
     exact znq hinv (by omega)
    ·show MEle (ME.own zaI 1 N (putN ((IntKind.i64.wrap ((a.length : Int)-((j+1 : Nat) : Int))).toNat*1) [Value.int .u8 (IntKind.u8.wrap (IntKind.i64.wrap (IntKind.i64.wrap (IntKind.i64.wrap (sb (bs a) (IntKind.i64.wrap ((a.length : Int)-((j+1 : Nat) : Int))))-(c : Int))-IntKind.i64.wrap (sb (bs b) (IntKind.i64.wrap ((b.length : Int)-((j+1 : Nat) : Int)))))))] (rowV u8c (List.replicate (N-j) 0++L)))) (ME.own zaI 1 N (rowV u8c (List.replicate (N-(j+1)) 0++(UInt8.ofNat (d%256)::L))))
     rw [hD,zdG hk hwk rfl,show N-(j+1)=k by omega]; exact .refl _
  ·intro h2
   have lb : ¬j<b.length:=by
    have : ¬((j+1 : Nat) : Int)≤((b.length : Nat) : Int):=of_decide_eq_false h2
    omega
   have z:=d0 lb
   have hE : IntKind.i64.wrap (IntKind.i64.wrap (sb (bs a) (IntKind.i64.wrap ((a.length : Int)-((j+1 : Nat) : Int))))-(c : Int))=(dgt a j : Int)-(c : Int)-(dgt b j : Int):=by
    rw [hcv a ha la,wrap_i64 (by omega) (by omega)]; omega
   conv=>whnf
   refine zah ?_ ?_
   ·intro h3
    have h4 : IntKind.i64.wrap (IntKind.i64.wrap (sb (bs a) (IntKind.i64.wrap ((a.length : Int)-((j+1 : Nat) : Int))))-(c : Int))<0:=of_decide_eq_true h3
    rw [hE] at h4
    obtain ⟨d,hd⟩ : ∃ d : Nat,(d : Int)=(dgt a j : Int)-(c : Int)-(dgt b j : Int)+256:=⟨((dgt a j : Int)-(c : Int)-(dgt b j : Int)+256).toNat,by omega⟩
    have hD : IntKind.i64.wrap (IntKind.i64.wrap (IntKind.i64.wrap (sb (bs a) (IntKind.i64.wrap ((a.length : Int)-((j+1 : Nat) : Int))))-(c : Int))+256)=(d : Int):=by
     rw [hE,wrap_i64 (by omega) (by omega)]; omega
    conv=>whnf
    refine ⟨by rw [hwk2]; show 0≤(k : Int)∧(k : Int)<(N : Int); omega,?_⟩
    conv=>whnf
    refine ⟨⟨by rw [hwk2,zag zbA]; show (k : Int).toNat*1+1≤_; simp; omega,by decide⟩,?_⟩
    conv=>whnf
    refine ⟨(j+1,1,UInt8.ofNat (d%256)::L),⟨by omega,by simp [hL],by decide,?_⟩,by show N-(j+1)<N-j; omega,SLe.id ⟨rfl,rfl,rfl,rfl,zan (i:=j+1) (n:=N+1) (by omega) (by omega),trivial⟩ ⟨⟨_,rfl,?_⟩,trivial⟩ (fun R hR=>hR)⟩
    ·rw [Nat.mod_eq_of_lt (by omega),zbJ (by omega),hL,Nat.pow_succ,zds,zds]
     exact znq hinv (by omega)
    ·show MEle (ME.own zaI 1 N (putN ((IntKind.i64.wrap ((a.length : Int)-((j+1 : Nat) : Int))).toNat*1) [Value.int .u8 (IntKind.u8.wrap (IntKind.i64.wrap (IntKind.i64.wrap (IntKind.i64.wrap (sb (bs a) (IntKind.i64.wrap ((a.length : Int)-((j+1 : Nat) : Int))))-(c : Int))+256)))] (rowV u8c (List.replicate (N-j) 0++L)))) (ME.own zaI 1 N (rowV u8c (List.replicate (N-(j+1)) 0++(UInt8.ofNat (d%256)::L))))
     rw [hD,zdG hk hwk rfl,show N-(j+1)=k by omega]; exact .refl _
   ·intro h3
    have h4 : ¬IntKind.i64.wrap (IntKind.i64.wrap (sb (bs a) (IntKind.i64.wrap ((a.length : Int)-((j+1 : Nat) : Int))))-(c : Int))<0:=of_decide_eq_false h3
    rw [hE] at h4
    obtain ⟨d,hd⟩ : ∃ d : Nat,(d : Int)=(dgt a j : Int)-(c : Int)-(dgt b j : Int):=⟨((dgt a j : Int)-(c : Int)-(dgt b j : Int)).toNat,by omega⟩
    have hD : IntKind.i64.wrap (IntKind.i64.wrap (sb (bs a) (IntKind.i64.wrap ((a.length : Int)-((j+1 : Nat) : Int))))-(c : Int))=(d : Int):=by
     rw [hE,hd]
    conv=>whnf
    refine ⟨by rw [hwk2]; show 0≤(k : Int)∧(k : Int)<(N : Int); omega,?_⟩
    conv=>whnf
    refine ⟨⟨by rw [hwk2,zag zbA]; show (k : Int).toNat*1+1≤_; simp; omega,by decide⟩,?_⟩
    conv=>whnf
    refine ⟨(j+1,0,UInt8.ofNat (d%256)::L),⟨by omega,by simp [hL],by decide,?_⟩,by show N-(j+1)<N-j; omega,SLe.id ⟨rfl,rfl,rfl,rfl,zan (i:=j+1) (n:=N+1) (by omega) (by omega),trivial⟩ ⟨⟨_,rfl,?_⟩,trivial⟩ (fun R hR=>hR)⟩
    ·rw [Nat.mod_eq_of_lt (by omega),zbJ (by omega),hL,Nat.pow_succ,zds,zds]
     exact znq hinv (by omega)
    ·show MEle (ME.own zaI 1 N (putN ((IntKind.i64.wrap ((a.length : Int)-((j+1 : Nat) : Int))).toNat*1) [Value.int .u8 (IntKind.u8.wrap (IntKind.i64.wrap (IntKind.i64.wrap (sb (bs a) (IntKind.i64.wrap ((a.length : Int)-((j+1 : Nat) : Int))))-(c : Int))))] (rowV u8c (List.replicate (N-j) 0++L)))) (ME.own zaI 1 N (rowV u8c (List.replicate (N-(j+1)) 0++(UInt8.ofNat (d%256)::L))))
     rw [hD,zdG hk hwk rfl,show N-(j+1)=k by omega]; exact .refl _
 ·intro h
  have hj2 : j=N:=by
   have : ¬((j+1 : Nat) : Int)≤((a.length : Nat) : Int):=of_decide_eq_false h
   omega
  subst hj2
  rw [zp7 (show b.length≤j by omega),zp7 (show a.length≤j by omega)] at hinv
  have hc0 : c=0:=by
   have h1:=za2 (l:=L) (k:=j) (by omega)
   rcases Nat.eq_zero_or_pos c with h3 | h3
   ·exact h3
   ·exfalso
    have : 1*256 ^ j≤c*256 ^ j:=Nat.mul_le_mul_right _ h3
    omega
  rw [hc0,Nat.zero_mul,Nat.add_zero] at hinv
  have hnl : nat L=nat a-nat b:=by omega
  conv=>whnf
  refine ⟨L,hL,by show (rowV u8c (List.replicate (j-j) 0++L)).take j=bytV L; rw [Nat.sub_self,List.replicate_zero,List.nil_append,zf5]; exact List.take_of_length_le (by simp [bytV,hL]),?_⟩
  conv=>whnf
  refine zac.fn (zkF L) rfl ?_
  rw [zdL,hnl]
  conv=>whnf
  exact zaa rfl
end Go.Sx
end
section
set_option maxRecDepth 10000
set_option maxHeartbeats 2000000
namespace Go.Sx
open Go Go.Proofs
def n64c (x : Nat) : List Value:=[.int .i64 (x : Int)]
theorem zge (x : Nat) : (n64c x).length=1:=rfl
def nvB : List Nat→Nat
 | []=>0
 | x::l=>x*256 ^ l.length+nvB l
theorem zw5 (k : Nat) (l : List Nat) : nvB (List.replicate k 0++l)=nvB l:=by
 induction k with
 | zero=>rfl
 | succ k ih=>rw [List.replicate_succ,List.cons_append,nvB,ih]; omega
theorem zxL {l : List Nat} {q : Nat} (h : q<l.length) : nvB (l.drop q)=l.getD q 0*256 ^ (l.length-q-1)+nvB (l.drop (q+1)):=by
 rw [List.drop_eq_getElem_cons h,nvB,List.length_drop,List.getD_eq_getElem?_getD,List.getElem?_eq_getElem h,show l.length-(q+1)=l.length-q-1 by omega]; rfl
theorem ztU {l : List UInt8} {q : Nat} (h : q<l.length) : nat (l.drop q)=(l.getD q 0).toNat*256 ^ (l.length-q-1)+nat (l.drop (q+1)):=by
 rw [List.drop_eq_getElem_cons h,zcK,List.length_drop,List.getD_eq_getElem?_getD,List.getElem?_eq_getElem h,show l.length-(q+1)=l.length-q-1 by omega]; rfl
theorem zry : ∀ {l : List Nat},(∀ x∈l,x<256)→nat (l.map UInt8.ofNat)=nvB l
 | [],_=>rfl
 | x::l,h=>by
  rw [List.map_cons,zbJ (h x (List.mem_cons_self ..)),nvB,List.length_map,zry (fun y hy=>h y (List.mem_cons_of_mem _ hy))]
theorem zA7 {e : Nat} (h : e<9223372036854775808) : IntKind.i64.wrap (BitVec.toNat (w:=64) (BitVec.ofInt 64 (e : Int) &&& BitVec.ofInt 64 255) : Int)=((e%256 : Nat) : Int):=by
 rw [BitVec.toNat_and,zaM (by omega),show (BitVec.ofInt 64 255).toNat=2 ^ 8-1 from rfl,Nat.and_two_pow_sub_one_eq_mod,wrap_i64 (by omega) (by omega)]
theorem zyj {e c m ab nU nM nb P R S : Nat} (hP : P=R*S) (he : e=c+m+ab) (h : nU+c*P=nM+nb*R) {a b : Nat} (hab : ab=a*b) {nb' : Nat} (hn : nb=a*nb') :
  e%256*P+nU+e/256*(P*256)=(m*P+nM)+(a*(b*S+nb'))*R:=by
 have h1 : e*P=e%256*P+e/256*(P*256):=by
  have:=Nat.mod_add_div e 256
  rw [Nat.mul_comm P 256,←Nat.mul_assoc,←Nat.add_mul,Nat.mul_comm _ 256,this]
 have h2 : (a*(b*S+nb'))*R=ab*P+nb*R:=by
  rw [hab,hn,hP,Nat.mul_add,Nat.add_mul,Nat.mul_comm R S,←Nat.mul_assoc a b S,Nat.mul_assoc (a*b) S R]
 have h3 : e*P=c*P+m*P+ab*P:=by rw [he,Nat.add_mul,Nat.add_mul]
 omega
theorem zBR {k : Nat} {M : List Nat} (x y : Nat) : (List.replicate (k+1) 0++M).set k x=List.replicate k 0++(x::M):=by
 rw [List.replicate_succ',List.append_assoc,List.set_append_right _ _ (by simp)]
 simp
theorem zBm {k q : Nat} {M U : List Nat} (h : q<M.length) (x : Nat) : (List.replicate k 0++(M.take (q+1)++U)).set (k+q) x=List.replicate k 0++(M.take q++(x::U)):=by
 rw [List.set_append_right _ _ (by simp),List.length_replicate,Nat.add_sub_cancel_left,List.set_append_left _ _ (by rw [List.length_take]; omega)]
 congr 1
 rw [List.take_add_one,List.getElem?_eq_getElem h,Option.toList_some,List.set_append_right _ _ (by rw [List.length_take]; omega),List.append_assoc]
 congr 1
 rw [List.length_take,Nat.min_eq_left (by omega),Nat.sub_self]; rfl
theorem zBv {k q : Nat} {M U : List Nat} (h : q<M.length) : (List.replicate k 0++(M.take (q+1)++U))[k+q]?=some (M.getD q 0):=by
 rw [List.getElem?_append_right (by simp),List.length_replicate,Nat.add_sub_cancel_left,List.getElem?_append_left (by rw [List.length_take]; omega),List.getElem?_take,if_pos (by omega),List.getElem?_eq_getElem h,List.getD_eq_getElem?_getD,List.getElem?_eq_getElem h]; rfl
theorem zzh (l : List UInt8) (k : Nat) : sb (bs l) (k : Int)=((l.getD k 0).toNat : Int):=by rw [zm9,Int.toNat_natCast]
theorem zxM (n : Nat) : repl n [Value.int .i64 0]=rowV n64c (List.replicate n 0):=by rw [zb7]; rfl
theorem zxl {a b : Nat} (ha : a<256) (hb : b<256) : a*b≤65025:=by
 have:=Nat.mul_le_mul (show a≤255 by omega) (show b≤255 by omega); omega
theorem zxT (a b : List UInt8) (ha : a.length≤500000000) (hb : b.length≤400000000) : Fn PP zdz [.string (bs a),.string (bs b)] (.string (bs (bytes (nat a*nat b)))):=by
 refine Fn.of zab mixed zhP rfl rfl (Nat.le_of_ble_eq_true rfl) ?_
 intro w
 obtain ⟨n,hn⟩ : ∃ n,n=a.length+b.length:=⟨_,rfl⟩
 have hw0 : IntKind.i64.wrap (((bs a).size : Int)+((bs b).size : Int))=(n : Int):=by
   show IntKind.i64.wrap ((a.length : Int)+(b.length : Int))=_
   rw [wrap_i64 (by omega) (by omega)]; omega
 conv=>whnf
 refine ⟨by rw [hw0]; show 0≤(n : Int)∧(n : Int)≤(n : Int)∧((8 : Nat) : Int)*(n : Int)≤281474976710656∧(n : Int)≤9223372036854775807; omega,?_⟩
 conv=>whnf
 refine zak (ι:=Nat×List Nat×Int) (fun ⟨p,M,z⟩=>⟨[(0,.o (.v (.string (bs a)))),(1,.o (.v (.string (bs b)))),(5,.o (.w 16)),(6,.o (.v (.int .i64 z)))],[(16,.own zen 1 n (rowV n64c (List.replicate p 0++M)))],[]⟩)
   (fun ⟨p,M,z⟩=>z=(p : Int)-1∧p≤a.length∧M.length=n-p∧(∀ x∈M,x<256)∧nvB M=nat (a.drop p)*nat b) (fun ⟨p,M,z⟩=>p) (a.length,List.replicate b.length 0,(a.length : Int)-1) ⟨rfl,Nat.le_refl _,by rw [List.length_replicate]; omega,fun x hx=>by rw [List.eq_of_mem_replicate hx]; decide,by
     rw [List.drop_length,zgf,Nat.zero_mul]
     have:=zw5 b.length []
     rw [List.append_nil] at this; exact this⟩ (SLe.id ⟨rfl,rfl,rfl,?_,trivial⟩ ⟨⟨_,rfl,?_⟩,trivial⟩ (fun R hR=>hR)) ?_
 · show some (SV.o (.v (.int .i64 (IntKind.i64.wrap ((a.length : Int)-1)))))=some (SV.o (.v (.int .i64 ((a.length : Int)-1))))
   rw [wrap_i64 (by omega) (by omega)]
 · show MEle (ME.own zen 1 (IntKind.i64.wrap (((bs a).size : Int)+((bs b).size : Int))).toNat (repl (IntKind.i64.wrap (((bs a).size : Int)+((bs b).size : Int))).toNat [Value.int .i64 0])) (ME.own zen 1 n (rowV n64c (List.replicate a.length 0++List.replicate b.length 0)))
   rw [hw0,Int.toNat_natCast,zxM,List.replicate_append_replicate,←hn]; exact .refl _
 rintro ⟨p1,M,z⟩ ⟨hz,hp,hM,hMb,hv⟩
 conv=>whnf
 refine zah ?_ ?_
 · intro h
   obtain ⟨p,rfl⟩ : ∃ p,p1=p+1:=⟨p1-1,by
     have : z≥0:=of_decide_eq_true h
     omega⟩
   obtain rfl : z=(p : Int):=by omega
   have hap : (a.getD p 0).toNat<256:=(a.getD p 0).toBitVec.isLt
   obtain ⟨x,hx⟩ : ∃ x,x=(a.getD p 0).toNat:=⟨_,rfl⟩
   rw [←hx] at hap
   conv=>whnf
   refine zak (ι:=Nat×List Nat×Nat×Int) (fun ⟨q,U,c,z⟩=>⟨[(0,.o (.v (.string (bs a)))),(1,.o (.v (.string (bs b)))),(5,.o (.w 16)),(6,.o (.v (.int .i64 (p : Int)))),(7,.o (.v (.int .i64 c))),(8,.o (.v (.int .i64 z)))],[(16,.own zen 1 n (rowV n64c (List.replicate (p+1) 0++(M.take q++U))))],[]⟩)
     (fun ⟨q,U,c,z⟩=>z=(q : Int)-1∧q≤b.length∧U.length=M.length-q∧(∀ x∈U,x<256)∧c<256∧nvB U+c*256 ^ (M.length-q)=nvB (M.drop q)+x*nat (b.drop q)*256 ^ (a.length-p-1)) (fun ⟨q,U,c,z⟩=>q) (b.length,M.drop b.length,0,(b.length : Int)-1) ⟨rfl,Nat.le_refl _,by rw [List.length_drop],fun x hx=>hMb x (List.mem_of_mem_drop hx),by decide,by
       rw [List.drop_length,zgf,Nat.mul_zero,Nat.zero_mul,Nat.zero_mul]⟩ (SLe.id ⟨rfl,rfl,rfl,rfl,rfl,?_,trivial⟩ ⟨⟨_,rfl,?_⟩,trivial⟩ (fun R hR=>hR)) ?_
   · show some (SV.o (.v (.int .i64 (IntKind.i64.wrap ((b.length : Int)-1)))))=some (SV.o (.v (.int .i64 ((b.length : Int)-1))))
     rw [wrap_i64 (by omega) (by omega)]
   · show MEle (ME.own zen 1 n (rowV n64c (List.replicate (p+1) 0++M))) (ME.own zen 1 n (rowV n64c (List.replicate (p+1) 0++(M.take b.length++M.drop b.length))))
     rw [List.take_append_drop]; exact .refl _
   rintro ⟨q1,U,c,z⟩ ⟨hz,hq,hU,hUb,hc,hinv⟩
   conv=>whnf
   refine zah ?_ ?_
   · intro h
     obtain ⟨q,rfl⟩ : ∃ q,q1=q+1:=⟨q1-1,by
       have : z≥0:=of_decide_eq_true h
       omega⟩
     obtain rfl : z=(q : Int):=by omega
     have hbq : (b.getD q 0).toNat<256:=(b.getD q 0).toBitVec.isLt
     obtain ⟨y,hy⟩ : ∃ y,y=(b.getD q 0).toNat:=⟨_,rfl⟩
     rw [←hy] at hbq
     have hqM : q<M.length:=by omega
     have hpq : IntKind.i64.wrap (IntKind.i64.wrap ((p : Int)+(q : Int))+1)=((p+1+q : Nat) : Int):=by
       rw [wrap_i64 (n:=(p : Int)+(q : Int)) (by omega) (by omega),wrap_i64 (by omega) (by omega)]; omega
     have hlen : (List.replicate (p+1) 0++(M.take (q+1)++U)).length=n:=by
       simp only [List.length_append,List.length_replicate,List.length_take]; omega
     conv=>whnf
     refine zaj.quiet (by kernel_rfl) ?_
     conv=>whnf
     refine ⟨by rw [hpq]; show 0≤((p+1+q : Nat) : Int)∧((p+1+q : Nat) : Int)<(n : Int); omega,?_⟩
     conv=>whnf
     refine zbU.elem n64c zge (k:=p+1+q) (by show (IntKind.i64.wrap (IntKind.i64.wrap ((p : Int)+(q : Int))+1)).toNat*1=_; rw [hpq,Int.toNat_natCast]) (by omega) (by decide) (fun _=>rfl) ?_
     intro m hm
     rw [zBv hqM] at hm
     have hmb : m<256:=by
       rw [←Option.some.inj hm,List.getD_eq_getElem?_getD,List.getElem?_eq_getElem hqM]
       exact hMb _ (List.getElem_mem hqM)
     conv=>whnf
     refine ⟨by show 0≤(p : Int)∧(p : Int)<((a.length : Nat) : Int); omega,?_⟩
     conv=>whnf
     refine ⟨by show 0≤(q : Int)∧(q : Int)<((b.length : Nat) : Int); omega,?_⟩
     have hxy:=zxl hap hbq
     obtain ⟨e,he⟩ : ∃ e,e=c+m+x*y:=⟨_,rfl⟩
     have hE : IntKind.i64.wrap ((c : Int)+IntKind.i64.wrap ((m : Int)+IntKind.i64.wrap (IntKind.i64.wrap (sb (bs a) (p : Int))*IntKind.i64.wrap (sb (bs b) (q : Int)))))=(e : Int):=by
       rw [zzh,zzh,←hx,←hy,wrap_i64 (n:=(x : Int)) (by omega) (by omega),wrap_i64 (n:=(y : Int)) (by omega) (by omega),←Int.natCast_mul,wrap_i64 (n:=((x*y : Nat) : Int)) (by omega) (by omega),wrap_i64 (n:=(m : Int)+((x*y : Nat) : Int)) (by omega) (by omega),wrap_i64 (by omega) (by omega)]
       omega
     conv=>whnf
     refine ⟨by rw [hpq]; show 0≤((p+1+q : Nat) : Int)∧((p+1+q : Nat) : Int)<(n : Int); omega,?_⟩
     conv=>whnf
     refine ⟨⟨by rw [hpq,zag zge,hlen]; show ((p+1+q : Nat) : Int).toNat*1+1≤n*1; omega,by decide⟩,?_⟩
     conv=>whnf
     refine ⟨by decide,?_⟩
     conv=>whnf
     refine ⟨(q,e%256::U,e/256,(q : Int)-1),⟨rfl,by omega,by simp [hU]; omega,fun z hz=>?_,by omega,?_⟩,by show q<q+1; omega,SLe.id ⟨rfl,rfl,rfl,rfl,?_,?_,trivial⟩ ⟨⟨_,rfl,?_⟩,trivial⟩ (fun R hR=>hR)⟩
     · rcases List.mem_cons.1 hz with rfl | hz
       · omega
       · exact hUb z hz
     · have hPl : M.length-(q+1)=(a.length-p-1)+(b.length-q-1):=by omega
       rw [nvB,hU,zxL hqM,Option.some.inj hm,show M.length-q-1=M.length-(q+1) by omega,ztU (show q<b.length by omega),←hy,show M.length-q=M.length-(q+1)+1 by omega,Nat.pow_succ]
       exact zyj (by rw [hPl,Nat.pow_add]) he hinv rfl rfl
     · show some (SV.o (.v (.int .i64 (Int.fdiv (IntKind.i64.wrap ((c : Int)+IntKind.i64.wrap ((m : Int)+IntKind.i64.wrap (IntKind.i64.wrap (sb (bs a) (p : Int))*IntKind.i64.wrap (sb (bs b) (q : Int)))))) (2 ^ min (8 : Int).toNat IntKind.i64.bits)))))=_
       rw [hE,zwA]; rfl
     · show some (SV.o (.v (.int .i64 (IntKind.i64.wrap ((q : Int)-1)))))=_
       rw [wrap_i64 (by omega) (by omega)]; rfl
     · show MEle (ME.own zen 1 n (putN ((IntKind.i64.wrap (IntKind.i64.wrap ((p : Int)+(q : Int))+1)).toNat*1) [Value.int .i64 (IntKind.i64.wrap (BitVec.toNat (w:=64) (BitVec.ofInt 64 (IntKind.i64.wrap ((c : Int)+IntKind.i64.wrap ((m : Int)+IntKind.i64.wrap (IntKind.i64.wrap (sb (bs a) (p : Int))*IntKind.i64.wrap (sb (bs b) (q : Int)))))) &&& BitVec.ofInt 64 255) : Int))] (rowV n64c (List.replicate (p+1) 0++(M.take (q+1)++U))))) (ME.own zen 1 n (rowV n64c (List.replicate (p+1) 0++(M.take q++(e%256::U)))))
       rw [hE,zA7 (by omega),hpq,Int.toNat_natCast,←zBm hqM (e%256),←zci zge (e%256) (by omega)]; exact .refl _
   · intro h
     have hq0 : q1=0:=by
       have : ¬z≥0:=of_decide_eq_false h
       omega
     subst hq0
     rw [List.drop_zero,List.drop_zero,Nat.sub_zero] at hinv
     have hdrop:=ztU (l:=a) (q:=p) (by omega)
     rw [←hx] at hdrop
     have hval : nvB U+c*256 ^ M.length=nat (a.drop p)*nat b:=by
       rw [hinv,hv,hdrop,Nat.add_mul,Nat.mul_assoc x,Nat.mul_assoc x,Nat.mul_comm (nat b),Nat.add_comm]
     have hlen : (List.replicate (p+1) 0++([]++U)).length=n:=by
       simp only [List.length_append,List.length_replicate,List.length_nil,List.nil_append]; omega
     conv=>whnf
     refine ⟨by show 0≤(p : Int)∧(p : Int)<(n : Int); omega,?_⟩
     conv=>whnf
     refine zbU.elem n64c zge (k:=p) (by show (p : Int).toNat*1=_; rw [Int.toNat_natCast]) (by show p<(List.replicate (p+1) 0++([]++U)).length; omega) (by decide) (fun _=>rfl) ?_
     intro m hm
     have hm0 : m=0:=by
       have h2 : (List.replicate (p+1) 0++([]++U))[p]?=some m:=hm
       rw [List.getElem?_append_left (by simp)] at h2
       rw [List.getElem?_replicate,if_pos (by omega)] at h2
       exact (Option.some.inj h2).symm
     subst hm0
     conv=>whnf
     refine ⟨by show 0≤(p : Int)∧(p : Int)<(n : Int); omega,?_⟩
     conv=>whnf
     refine ⟨⟨by show (p : Int).toNat*1+1≤(rowV n64c (List.replicate (p+1) 0++([]++U))).length; rw [zag zge,hlen]; omega,by decide⟩,?_⟩
     conv=>whnf
     refine ⟨(p,c::U,(p : Int)-1),⟨rfl,by omega,by simp [hU]; omega,fun z hz=>?_,?_⟩,by show p<p+1; omega,SLe.id ⟨rfl,rfl,rfl,?_,trivial⟩ ⟨⟨_,rfl,?_⟩,trivial⟩ (fun R hR=>hR)⟩
     · rcases List.mem_cons.1 hz with rfl | hz
       · exact hc
       · exact hUb z hz
     · rw [nvB,hU,Nat.sub_zero,Nat.add_comm]; exact hval
     · show some (SV.o (.v (.int .i64 (IntKind.i64.wrap ((p : Int)-1)))))=_
       rw [wrap_i64 (by omega) (by omega)]; rfl
     · show MEle (ME.own zen 1 n (putN ((p : Int).toNat*1) [Value.int .i64 (IntKind.i64.wrap (((0 : Nat) : Int)+(c : Int)))] (rowV n64c (List.replicate (p+1) 0++([]++U))))) (ME.own zen 1 n (rowV n64c (List.replicate p 0++(c::U))))
       rw [wrap_i64 (by omega) (by omega),Int.toNat_natCast,List.nil_append,←zBR c 0,←zci zge c (by simp; omega),show ((0 : Nat) : Int)+(c : Int)=(c : Int) by omega]; exact .refl _
 · intro h
   have hp0 : p1=0:=by
     have : ¬z≥0:=of_decide_eq_false h
     omega
   subst hp0
   rw [List.drop_zero] at hv
   have hMn : M.length=n:=by omega
   conv=>whnf
   refine ⟨by show 0≤(n : Int)∧(n : Int)≤(n : Int)∧((1 : Nat) : Int)*(n : Int)≤281474976710656∧(n : Int)≤9223372036854775807; omega,?_⟩
   conv=>whnf
   refine zak (ι:=Nat) (fun i=>⟨[(5,.o (.w 16)),(9,.o (.w 69)),(10,.o (.v (.int .i64 i)))],[(16,.own zen 1 n (rowV n64c M)),(69,.own zaI 1 n (rowV u8c ((M.take i).map UInt8.ofNat++List.replicate (n-i) 0)))],[]⟩)
     (fun i=>i≤n) (fun i=>n-i) 0 (Nat.zero_le _) (SLe.id ⟨rfl,rfl,rfl,trivial⟩ ⟨⟨_,rfl,.refl _⟩,⟨_,rfl,?_⟩,trivial⟩ (fun R hR=>hR)) ?_
   · show MEle (ME.own zaI 1 (n : Int).toNat (repl (n : Int).toNat [Value.int .u8 0])) (ME.own zaI 1 n (rowV u8c (List.replicate (n-0) 0)))
     rw [Int.toNat_natCast,zkb]; exact .refl _
   intro i hi
   conv=>whnf
   refine zah ?_ ?_
   · intro h
     have hi2 : i<n:=by
       have : (i : Int)<(n : Int):=of_decide_eq_true h
       omega
     conv=>whnf
     refine ⟨by show 0≤(i : Int)∧(i : Int)<(n : Int); omega,?_⟩
     conv=>whnf
     refine zbU.elem n64c zge (k:=i) (by show (i : Int).toNat*1=_; rw [Int.toNat_natCast]) (by omega) (by decide) (fun _=>rfl) ?_
     intro m hm
     have hmb:=hMb m (List.mem_of_getElem? hm)
     conv=>whnf
     refine ⟨by show 0≤(i : Int)∧(i : Int)<(n : Int); omega,?_⟩
     conv=>whnf
     refine ⟨⟨by show (i : Int).toNat*1+1≤(rowV u8c ((M.take i).map UInt8.ofNat++List.replicate (n-i) 0)).length; rw [zag zbA]; simp; omega,by decide⟩,?_⟩
     conv=>whnf
     refine ⟨i+1,by omega,by omega,SLe.id ⟨rfl,rfl,zan hi2 (by omega),trivial⟩ ⟨⟨_,rfl,.refl _⟩,⟨_,rfl,?_⟩,trivial⟩ (fun R hR=>hR)⟩
     show MEle (ME.own zaI 1 n (putN ((i : Int).toNat*1) [Value.int .u8 (IntKind.u8.wrap (m : Int))] (rowV u8c ((M.take i).map UInt8.ofNat++List.replicate (n-i) 0)))) (ME.own zaI 1 n (rowV u8c ((M.take (i+1)).map UInt8.ofNat++List.replicate (n-(i+1)) 0)))
     have hput:=zci (f:=u8c) zbA (k:=i) (l:=(M.take i).map UInt8.ofNat++List.replicate (n-i) 0) (UInt8.ofNat (m%256)) (by simp; omega)
     have hset : ((M.take i).map UInt8.ofNat++List.replicate (n-i) 0).set i (UInt8.ofNat (m%256))=(M.take (i+1)).map UInt8.ofNat++List.replicate (n-(i+1)) 0:=by
       rw [List.set_append_right _ _ (by simp; omega),List.length_map,List.length_take,Nat.min_eq_left (by omega),Nat.sub_self,show n-i=(n-(i+1))+1 by omega,List.replicate_succ,List.set_cons_zero,zaE hm,List.map_append,List.append_assoc,Nat.mod_eq_of_lt hmb]; rfl
     rw [hset] at hput
     rw [Int.toNat_natCast,zuS,←hput]; exact .refl _
   · intro h
     have hi2 : i=n:=by
       have : ¬(i : Int)<(n : Int):=of_decide_eq_false h
       omega
     subst hi2
     conv=>whnf
     refine ⟨M.map UInt8.ofNat,by rw [List.length_map,hMn],?_,?_⟩
     · show (rowV u8c ((M.take i).map UInt8.ofNat++List.replicate (i-i) 0)).take i=_
       rw [show M.take i=M from List.take_of_length_le (by omega),Nat.sub_self,List.replicate_zero,List.append_nil,zf5]
       exact List.take_of_length_le (by simp [bytV,hMn])
     conv=>whnf
     refine zac.fn (zkF (M.map UInt8.ofNat)) rfl ?_
     rw [zdL,zry hMb,hv]
     conv=>whnf
     exact zaa rfl
end Go.Sx
end
section
set_option maxRecDepth 10000
set_option maxHeartbeats 2000000
namespace Go.Sx
open Go Go.Proofs
def strC (n : Nat) : List Value:=[.string (bs (bytes n))]
theorem zh1 (n : Nat) : (strC n).length=1:=rfl
def zeL (y i : Nat) : List Nat:=(List.range 8).map fun j=>if j<i then y*2 ^ j else 0
theorem zcj (y i : Nat) : (zeL y i).length=8:=by simp [zeL]
theorem zhV (y i j : Nat) (h : j<8) : (zeL y i)[j]?=some (if j<i then y*2 ^ j else 0):=by
 unfold zeL; rw [List.getElem?_map,List.getElem?_range h]; rfl
theorem zvy (y i : Nat) (h : i<8) : (zeL y i).set i (y*2 ^ i)=zeL y (i+1):=by
 apply List.ext_getElem?
 intro j
 rw [List.getElem?_set]
 by_cases hj : j<8
 ·rw [zhV y (i+1) j hj]
  by_cases e : i=j
  ·subst e; rw [if_pos rfl,if_pos (by rw [zcj]; exact h),if_pos (by omega)]
  ·rw [if_neg e,zhV y i j hj]
   by_cases h2 : j<i
   ·rw [if_pos h2,if_pos (by omega)]
   ·rw [if_neg h2,if_neg (by omega)]
 ·rw [List.getElem?_eq_none (by rw [zcj]; omega),List.getElem?_eq_none (by rw [zcj]; omega),if_neg (by omega)]
theorem zbi {m n : Nat} (h : m≤n) : (bytes m).length≤(bytes n).length:=by
 rcases Nat.lt_or_ge (bytes n).length (bytes m).length with h1 | h1
 ·have:=zeP h1; omega
 ·exact h1
theorem zqn {n k : Nat} : (bytes (n*256 ^ k)).length≤(bytes n).length+k:=by
 refine za8 ?_
 have:=zdx (bytes n)
 rw [zal] at this
 rw [Nat.pow_add]
 exact Nat.mul_lt_mul_of_pos_right this (Nat.pow_pos (by decide))
theorem znc (x y : Nat) (hx : (bytes x).length≤300000000) (hy : (bytes y).length≤300000000) (hy0 : 0<y) :
  Fn PP zdI [.string (bs (bytes x)),.string (bs (bytes y))] (.tuple #[.string (bs (bytes (x/y))),.string (bs (bytes (x%y)))]):=by
 refine Fn.of zab mixed zhJ rfl rfl (Nat.le_of_ble_eq_true rfl) ?_
 intro w
 obtain ⟨a,ha⟩ : ∃ a,a=bytes x:=⟨_,rfl⟩
 have hax : nat a=x:=by rw [ha,zal]
 rw [←ha] at hx ⊢
 have hty : ∀ j,j≤8→(bytes (y*2 ^ j)).length≤300000001:=fun j hj=>by
  have h1 : y*2 ^ j≤y*256 ^ 1:=Nat.mul_le_mul_left _ (Nat.le_trans (Nat.pow_le_pow_right (by decide) hj) (by decide))
  have:=zbi h1
  have:=zqn (n:=y) (k:=1)
  omega
 conv=>whnf
 refine ⟨by decide,?_⟩
 conv=>whnf
 refine zak (ι:=Nat) (fun i=>⟨[(0,.o (.v (.string (bs a)))),(6,.o (.p 6 0)),(7,.o (.v (.int .i64 i)))],[(6,.sym (rowV strC (zeL y i)) zhs)],[]⟩)
  (fun i=>1≤i∧i≤8) (fun i=>8-i) 1 ⟨Nat.le_refl _,by decide⟩ (SLe.id ⟨rfl,rfl,rfl,trivial⟩ ⟨⟨_,rfl,.sym _ ?_⟩,trivial⟩ (fun R hR=>hR)) ?_
 ·have e : zeL y 1=[y,0,0,0,0,0,0,0]:=by simp [zeL,List.range_succ]
  rw [e]
  simp only [rowV,strC,zaL]
  rfl
 rintro i ⟨hi1,hi⟩
 conv=>whnf
 refine zah ?_ ?_
 ·intro h
  have hi2 : i<8:=by
   have : (i : Int)<8:=of_decide_eq_true h
   omega
  obtain ⟨j,rfl⟩ : ∃ j,i=j+1:=⟨i-1,by omega⟩
  have hw : IntKind.i64.wrap (((j+1 : Nat) : Int)-1)=(j : Int):=by rw [wrap_i64 (by omega) (by omega)]; omega
  have hg:=zhV y (j+1) j (by omega)
  rw [if_pos (by omega)] at hg
  conv=>whnf
  refine zaj.quiet (by kernel_rfl) ?_
  conv=>whnf
  refine ⟨by rw [hw]; show 0≤(j : Int)∧(j : Int)<((8 : Nat) : Int); omega,?_⟩
  conv=>whnf
  refine zbU.elem strC zh1 (k:=j) (by show 0+(IntKind.i64.wrap (((j+1 : Nat) : Int)-1)).toNat*1=_; rw [hw,Int.toNat_natCast]; omega) (by rw [zcj]; omega) (by decide) (fun _=>rfl) ?_
  intro m hm
  obtain rfl : m=y*2 ^ j:=by rw [hg] at hm; exact (Option.some.inj hm).symm
  conv=>whnf
  refine ⟨by rw [hw]; show 0≤(j : Int)∧(j : Int)<((8 : Nat) : Int); omega,?_⟩
  conv=>whnf
  refine zbU.elem strC zh1 (k:=j) (by show 0+(IntKind.i64.wrap (((j+1 : Nat) : Int)-1)).toNat*1=_; rw [hw,Int.toNat_natCast]; omega) (by rw [zcj]; omega) (by decide) (fun _=>rfl) ?_
  intro m hm
  obtain rfl : m=y*2 ^ j:=by rw [hg] at hm; exact (Option.some.inj hm).symm
  conv=>whnf
  have hl:=hty j (by omega)
  refine zad.fn (zrc (bytes (y*2 ^ j)) (bytes (y*2 ^ j)) (by omega) (by omega)) rfl ?_
  rw [zal,show y*2 ^ j+y*2 ^ j=y*2 ^ (j+1) by rw [Nat.pow_succ,←Nat.mul_assoc]; omega]
  conv=>whnf
  refine ⟨by show 0≤((j+1 : Nat) : Int)∧((j+1 : Nat) : Int)<((8 : Nat) : Int); omega,?_⟩
  conv=>whnf
  refine ⟨by show 0+((j+1 : Nat) : Int).toNat*1+1≤(rowV strC (zeL y (j+1))).length; rw [zag zh1,zcj,Int.toNat_natCast]; omega,?_⟩
  conv=>whnf
  refine ⟨j+2,⟨by omega,by omega⟩,by omega,SLe.id ⟨rfl,rfl,zan hi2 (by omega),trivial⟩ ⟨⟨_,rfl,?_⟩,trivial⟩ (fun R hR=>hR)⟩
  show MEle (ME.sym (putN (0+((j+1 : Nat) : Int).toNat*1) (strC (y*2 ^ (j+1))) (rowV strC (zeL y (j+1)))) _) (ME.sym (rowV strC (zeL y (j+2))) _)
  rw [Int.toNat_natCast,Nat.zero_add,zci zh1 (y*2 ^ (j+1)) (by rw [zcj]; omega),zvy y (j+1) hi2]
  exact .refl _
 intro h
 have hi2 : i=8:=by
  have : ¬(i : Int)<8:=of_decide_eq_false h
  omega
 subst hi2
 have hts : ∀ k,k<8→(zeL y 8)[k]?=some (y*2 ^ k):=fun k hk=>by rw [zhV y 8 k hk,if_pos hk]
 obtain ⟨n,hn⟩ : ∃ n,n=a.length:=⟨_,rfl⟩
 conv=>whnf
 refine ⟨by show 0≤((a.length : Nat) : Int)∧((a.length : Nat) : Int)≤((a.length : Nat) : Int)∧((1 : Nat) : Int)*((a.length : Nat) : Int)≤281474976710656∧((a.length : Nat) : Int)≤9223372036854775807; omega,?_⟩
 conv=>whnf
 refine zak (ι:=Nat×List UInt8×Nat) (fun ⟨i,L,r⟩=>⟨[(0,.o (.v (.string (bs a)))),(6,.o (.p 6 0)),(8,.o (.w 32)),(9,.o (.v (.string (bs (bytes r))))),(10,.o (.v (.int .i64 i)))],[(6,.sym (rowV strC (zeL y 8)) zhs),(32,.own zaI 1 n (rowV u8c (L++List.replicate (n-i) 0)))],[]⟩)
  (fun ⟨i,L,r⟩=>i≤n∧L.length=i∧nat L=nat (a.take i)/y∧r=nat (a.take i)%y) (fun ⟨i,L,r⟩=>n-i) (0,[],0) ⟨Nat.zero_le _,rfl,by rw [List.take_zero,zgf,Nat.zero_div],by rw [List.take_zero,zgf,Nat.zero_mod]⟩ (SLe.id ⟨rfl,rfl,rfl,?_,rfl,trivial⟩ ⟨⟨_,rfl,.refl _⟩,⟨_,rfl,?_⟩,trivial⟩ (fun R hR=>hR)) ?_
 ·rw [zaL]; rfl
 ·show MEle (ME.own zaI 1 ((a.length : Nat) : Int).toNat (repl ((a.length : Nat) : Int).toNat [Value.int .u8 0])) (ME.own zaI 1 n (rowV u8c ([]++List.replicate (n-0) 0)))
  rw [←hn,Int.toNat_natCast,zkb]; exact .refl _
 rintro ⟨i,L,r⟩ ⟨hi,hL,hq,hr⟩
 conv=>whnf
 refine zah ?_ ?_
 ·intro h
  have hi2 : i<n:=by
   have : (i : Int)<((a.length : Nat) : Int):=of_decide_eq_true h
   omega
  obtain ⟨d0,hd0⟩ : ∃ d0,a[i]?=some d0:=⟨_,List.getElem?_eq_getElem (by omega)⟩
  have hwi : IntKind.i64.wrap ((i : Int)+1)=((i+1 : Nat) : Int):=zkv hi2 (by omega)
  have hry : r<y:=by rw [hr]; exact Nat.mod_lt _ hy0
  have hlr:=zbi (Nat.le_of_lt hry)
  have hd0b : d0.toNat<256:=d0.toBitVec.isLt
  have hext : (bs a).extract (i : Int).toNat (IntKind.i64.wrap ((i : Int)+1)).toNat=bs [d0]:=by
   rw [hwi,Int.toNat_natCast,Int.toNat_natCast,zlL,zaE hd0,List.drop_append_of_le_length (by rw [List.length_take]; omega),List.drop_of_length_le (by rw [List.length_take]; omega)]; rfl
  obtain ⟨V,hV⟩ : ∃ V,V=r*256+d0.toNat:=⟨_,rfl⟩
  have hnatV : nat (bytes r++[d0])=V:=by rw [zgg,zal]; omega
  conv=>whnf
  refine ⟨by rw [hwi]; show 0≤(i : Int)∧(i : Int)≤((i+1 : Nat) : Int)∧((i+1 : Nat) : Int)≤((a.length : Nat) : Int); omega,?_⟩
  rw [hext]
  conv=>whnf
  refine ⟨by show (((bytes r).length+1 : Nat) : Int)≤9223372036854775807; omega,?_⟩
  rw [zwr]
  conv=>whnf
  refine zac.fn (zkF (bytes r++[d0])) rfl ?_
  rw [zdL,hnatV]
  conv=>whnf
  refine zak (ι:=Nat×Nat×Nat×Int) (fun ⟨k,R,d,z⟩=>⟨[(0,.o (.v (.string (bs a)))),(6,.o (.p 6 0)),(8,.o (.w 32)),(9,.o (.v (.string (bs (bytes R))))),(10,.o (.v (.int .i64 i))),(11,.o (.v (.int .i64 d))),(12,.o (.v (.int .i64 z)))],[(6,.sym (rowV strC (zeL y 8)) zhs),(32,.own zaI 1 n (rowV u8c (L++List.replicate (n-i) 0)))],[]⟩)
   (fun ⟨k,R,d,z⟩=>z=(k : Int)-1∧k≤8∧R+d*y=V∧R<y*2 ^ k∧d+2 ^ k≤256) (fun ⟨k,R,d,z⟩=>k) (8,V,0,7) ⟨rfl,Nat.le_refl _,by omega,by rw [hV]; omega,by decide⟩ (SLe.id ⟨rfl,rfl,rfl,rfl,rfl,rfl,rfl,trivial⟩ ⟨⟨_,rfl,.refl _⟩,⟨_,rfl,.refl _⟩,trivial⟩ (fun R hR=>hR)) ?_
  rintro ⟨k1,R,d,z⟩ ⟨hz,hk8,hRV,hRy,hd⟩
  conv=>whnf
  refine zah ?_ ?_
  ·intro h
   obtain ⟨k,rfl⟩ : ∃ k,k1=k+1:=⟨k1-1,by
    have : z≥0:=of_decide_eq_true h
    omega⟩
   obtain rfl : z=(k : Int):=by omega
   have hR9 : (bytes R).length≤300000001:=by
    have h1 : R≤y*2 ^ 8:=Nat.le_trans (Nat.le_of_lt hRy) (Nat.mul_le_mul_left _ (Nat.pow_le_pow_right (by decide) hk8))
    have:=zbi h1
    have:=hty 8 (Nat.le_refl _)
    omega
   have hpow : 2 ^ (k+1)=2 ^ k+2 ^ k:=by rw [Nat.pow_succ]; omega
   rw [hpow] at hRy hd
   rw [Nat.mul_add] at hRy
   have hdec : IntKind.i64.wrap ((k : Int)-1)=(k : Int)-1:=wrap_i64 (by omega) (by omega)
   conv=>whnf
   refine ⟨by show 0≤(k : Int)∧(k : Int)<((8 : Nat) : Int); omega,?_⟩
   conv=>whnf
   refine zbU.elem strC zh1 (k:=k) (by show 0+(k : Int).toNat*1=_; rw [Int.toNat_natCast]; omega) (by rw [zcj]; omega) (by decide) (fun _=>rfl) ?_
   intro m hm
   obtain rfl : m=y*2 ^ k:=by rw [hts k (by omega)] at hm; exact (Option.some.inj hm).symm
   conv=>whnf
   refine zac.fn (zdu R (y*2 ^ k)) rfl ?_
   by_cases hge : y*2 ^ k≤R
   ·have hcmp : cmpN R (y*2 ^ k)=0∨cmpN R (y*2 ^ k)=1:=by
     unfold cmpN; rw [if_neg (by omega)]; split
     ·exact .inr rfl
     ·exact .inl rfl
    conv=>whnf
    refine zai (decide_eq_true (by rcases hcmp with e | e <;> rw [e] <;> decide)) ?_
    conv=>whnf
    refine ⟨by show 0≤(k : Int)∧(k : Int)<((8 : Nat) : Int); omega,?_⟩
    conv=>whnf
    refine zbU.elem strC zh1 (k:=k) (by show 0+(k : Int).toNat*1=_; rw [Int.toNat_natCast]; omega) (by rw [zcj]; omega) (by decide) (fun _=>rfl) ?_
    intro m hm
    obtain rfl : m=y*2 ^ k:=by rw [hts k (by omega)] at hm; exact (Option.some.inj hm).symm
    conv=>whnf
    refine zac.fn (zkQ (bytes R) (bytes (y*2 ^ k)) (by omega) (zbi hge) (by rw [zal,zal]; exact hge)) rfl ?_
    rw [zal,zal]
    conv=>whnf
    have hkw : IntKind.u64.wrap (k : Int)=(k : Int):=by rw [IntKind.wrap_u64]; omega
    refine ⟨by rw [hkw]; omega,?_⟩
    conv=>whnf
    have hgen : ∀ (P : Nat),d+(P+P)≤256→IntKind.i64.wrap ((d : Int)+IntKind.i64.wrap (P : Int))=((d+P : Nat) : Int):=fun P hP=>by
     rw [wrap_i64 (n:=(P : Int)) (by omega) (by omega),wrap_i64 (by omega) (by omega)]; omega
    have hsh : IntKind.i64.wrap ((d : Int)+IntKind.i64.wrap (1*2 ^ min (IntKind.u64.wrap (k : Int)).toNat IntKind.i64.bits))=((d+2 ^ k : Nat) : Int):=by
     rw [hkw,Int.toNat_natCast,Nat.min_eq_left (show k≤IntKind.i64.bits by show k≤64; omega),Int.one_mul,show ((2 : Int) ^ k)=((2 ^ k : Nat) : Int) by rw [Int.natCast_pow]; rfl,hgen _ hd]
    refine ⟨(k,R-y*2 ^ k,d+2 ^ k,(k : Int)-1),⟨rfl,by omega,?_,by omega,by omega⟩,by show k<k+1; omega,SLe.id ⟨rfl,rfl,rfl,rfl,rfl,?_,?_,trivial⟩ ⟨⟨_,rfl,.refl _⟩,⟨_,rfl,.refl _⟩,trivial⟩ (fun R hR=>hR)⟩
    ·rw [Nat.add_mul,Nat.mul_comm (2 ^ k) y]; omega
    ·show some (SV.o (.v (.int .i64 (IntKind.i64.wrap ((d : Int)+IntKind.i64.wrap (1*2 ^ min (IntKind.u64.wrap (k : Int)).toNat IntKind.i64.bits))))))=_
     rw [hsh]; rfl
    ·show some (SV.o (.v (.int .i64 (IntKind.i64.wrap ((k : Int)-1)))))=_
     rw [hdec]; rfl
   ·have hcmp : cmpN R (y*2 ^ k)=-1:=by unfold cmpN; rw [if_pos (by omega)]
    rw [hcmp]
    conv=>whnf
    refine ⟨(k,R,d,(k : Int)-1),⟨rfl,by omega,hRV,by omega,Nat.le_trans (Nat.add_le_add_left (Nat.le_add_right _ _) _) hd⟩,by show k<k+1; omega,SLe.id ⟨rfl,rfl,rfl,rfl,rfl,rfl,?_,trivial⟩ ⟨⟨_,rfl,.refl _⟩,⟨_,rfl,.refl _⟩,trivial⟩ (fun R hR=>hR)⟩
    show some (SV.o (.v (.int .i64 (IntKind.i64.wrap ((k : Int)-1)))))=_
    rw [hdec]; rfl
  ·intro h
   have hk0 : k1=0:=by
    have : ¬z≥0:=of_decide_eq_false h
    omega
   subst hk0
   rw [Nat.pow_zero,Nat.mul_one] at hRy
   have hR2 : R=V%y:=by rw [←hRV,Nat.add_mul_mod_self_right,Nat.mod_eq_of_lt hRy]
   have hd2 : d=V/y:=by rw [←hRV,Nat.add_mul_div_right _ _ hy0,Nat.div_eq_of_lt hRy,Nat.zero_add]
   have hA : nat (a.take (i+1))=nat (a.take i)/y*256*y+V:=by
    rw [zaE hd0,zgg,hV,hr]
    have:=Nat.div_add_mod (nat (a.take i)) y
    generalize nat (a.take i)/y=Q at *
    generalize nat (a.take i)%y=M at *
    rw [←this,Nat.mul_assoc Q 256 y,Nat.mul_comm 256 y,←Nat.mul_assoc,Nat.mul_comm Q y,Nat.mul_add]; omega
   have hm2 : nat (a.take (i+1))%y=R:=by rw [hA,Nat.add_comm,Nat.add_mul_mod_self_right,hR2]
   have hq2 : nat (a.take (i+1))/y=nat (a.take i)/y*256+d:=by rw [hA,Nat.add_comm,Nat.add_mul_div_right _ _ hy0,hd2,Nat.add_comm]
   have hdb : d<256:=by omega
   conv=>whnf
   refine ⟨by show 0≤(i : Int)∧(i : Int)<((n : Nat) : Int); omega,?_⟩
   conv=>whnf
   refine ⟨⟨by show (i : Int).toNat*1+1≤(rowV u8c (L++List.replicate (n-i) 0)).length; rw [zag zbA]; simp; omega,by decide⟩,?_⟩
   conv=>whnf
   refine ⟨(i+1,L++[UInt8.ofNat (d%256)],R),⟨by omega,by simp [hL],?_,hm2.symm⟩,by show n-(i+1)<n-i; omega,SLe.id ⟨rfl,rfl,rfl,rfl,zan hi2 (by omega),trivial⟩ ⟨⟨_,rfl,.refl _⟩,⟨_,rfl,?_⟩,trivial⟩ (fun R hR=>hR)⟩
   ·rw [zgg,hq,hq2,UInt8.toNat_ofNat',Nat.mod_mod,Nat.mod_eq_of_lt hdb]; omega
   ·show MEle (ME.own zaI 1 n (putN ((i : Int).toNat*1) [Value.int .u8 (IntKind.u8.wrap (d : Int))] (rowV u8c (L++List.replicate (n-i) 0)))) (ME.own zaI 1 n (rowV u8c ((L++[UInt8.ofNat (d%256)])++List.replicate (n-(i+1)) 0)))
    have hput:=zci (f:=u8c) zbA (k:=i) (l:=L++List.replicate (n-i) 0) (UInt8.ofNat (d%256)) (by simp; omega)
    have hset : (L++List.replicate (n-i) 0).set i (UInt8.ofNat (d%256))=(L++[UInt8.ofNat (d%256)])++List.replicate (n-(i+1)) 0:=by
     rw [List.set_append_right _ _ (by omega),hL,Nat.sub_self,show n-i=(n-(i+1))+1 by omega,List.replicate_succ,List.set_cons_zero,List.append_assoc]; rfl
    rw [hset] at hput
    rw [Int.toNat_natCast,zuS,←hput]; exact .refl _
 ·intro h
  have hi2 : i=n:=by
   have : ¬(i : Int)<((a.length : Nat) : Int):=of_decide_eq_false h
   omega
  subst hi2
  have hall : a.take i=a:=List.take_of_length_le (by omega)
  rw [hall,hax] at hq hr
  conv=>whnf
  refine ⟨L,hL,?_,?_⟩
  ·show (rowV u8c (L++List.replicate (i-i) 0)).take i=_
   rw [Nat.sub_self,List.replicate_zero,List.append_nil,zf5]
   exact List.take_of_length_le (by simp [bytV,hL])
  conv=>whnf
  refine zac.fn (zkF L) rfl ?_
  rw [zdL,hq]
  conv=>whnf
  subst hr
  exact zas rfl
end Go.Sx
end
section
set_option maxRecDepth 10000
set_option maxHeartbeats 2000000
namespace Go.Sx
open Go Go.Proofs
theorem lt8 {z : Int} (h : (bytes z.natAbs).length≤7) : z.natAbs<72057594037927936:=by
 have:=nat7 h
 rwa [zal] at this
theorem znd (z : Int) (h : (bytes z.natAbs).length≤7) : Fn PP zcv [zV z] (.int .i64 z):=by
 have:=zAB (decide (z<0)) (bytes z.natAbs) h
 rw [zal,sg_z] at this
 exact this
theorem zp2 {z : Int} {b : Bool} {n : Nat} (h : z=sg b n) (hb : n=0→b=false) : zV z=intV b (bs (bytes n)):=by
 subst h
 rw [zV,za4]
 rcases Nat.eq_zero_or_pos n with h0 | h0
 ·rw [hb h0,h0]; rfl
 ·rw [zus h0]
theorem beqB {x y : Bool} (h : (x==y)=true) : x=y:=by simpa using h
theorem bneB {x y : Bool} (h : (x==y)=false) : x≠y:=by simpa using h
theorem zBq (a b : Bool) (l m : List UInt8) (hl : l.length≤500000000) (hm : m.length≤500000000) : Fn PP zbr [intV a (bs l),intV b (bs m)] (zV (sg a (nat l)+sg b (nat m))):=by
 refine Fn.of zab mixed zj5 rfl rfl (Nat.le_of_ble_eq_true rfl) ?_
 intro w
 obtain ⟨X,hX⟩ : ∃ X,X=sg a (nat l):=⟨_,rfl⟩
 obtain ⟨Y,hY⟩ : ∃ Y,Y=sg b (nat m):=⟨_,rfl⟩
 have hXl : (bytes X.natAbs).length≤500000000:=by rw [hX,za4]; exact Nat.le_trans (zep _) hl
 have hYl : (bytes Y.natAbs).length≤500000000:=by rw [hY,za4]; exact Nat.le_trans (zep _) hm
 have cX:=zbK a l
 have cY:=zbK b m
 rw [←hX] at cX ⊢
 rw [←hY] at cY ⊢
 conv=>whnf
 refine zaj.quiet (by kernel_rfl) ?_
 conv=>whnf
 refine zad.fn cX rfl ?_
 conv=>whnf
 refine zad.fn cY rfl ?_
 conv=>whnf
 by_cases hs : (bytes X.natAbs).length≤7∧(bytes Y.natAbs).length≤7
 ·refine zai (decide_eq_true (show ((bytes X.natAbs).length : Int)<8 by omega)) ?_
  conv=>whnf
  refine zai (decide_eq_true (show ((bytes Y.natAbs).length : Int)<8 by omega)) ?_
  have h1:=lt8 hs.1
  have h2:=lt8 hs.2
  conv=>whnf
  refine zaj.quiet (by kernel_rfl) ?_
  conv=>whnf
  refine zad.fn (znd X hs.1) rfl ?_
  conv=>whnf
  refine zad.fn (znd Y hs.2) rfl ?_
  conv=>whnf
  have hw : IntKind.i64.wrap (X+Y)=X+Y:=wrap_i64 (by omega) (by omega)
  refine zad.fn (r:=zV (X+Y)) (r_Of (X+Y) (by omega) (by omega)) (congrArg (fun z=>[SV.o (.v (.int .i64 z))]) hw) ?_
  conv=>whnf
  exact zaa rfl
 have hc : ¬(bytes X.natAbs).length≤7∨((bytes X.natAbs).length≤7∧¬(bytes Y.natAbs).length≤7):=by omega
 have hsame : decide (X<0)=decide (Y<0)→intV (decide (X<0)) (bs (bytes (X.natAbs+Y.natAbs)))=zV (X+Y):=fun h=>by
  refine (zp2 ?_ ?_).symm
  ·have h1:=decide_eq_decide.1 h
   unfold sg
   by_cases h2 : X<0
   ·rw [decide_eq_true h2,if_pos rfl]; omega
   ·rw [decide_eq_false h2,if_neg (by decide)]; omega
  ·intro h0; exact decide_eq_false (by omega)
 have hleft : decide (X<0)≠decide (Y<0)→Y.natAbs<X.natAbs→intV (decide (X<0)) (bs (bytes (X.natAbs-Y.natAbs)))=zV (X+Y):=fun h hlt=>by
  refine (zp2 ?_ (by omega)).symm
  unfold sg
  by_cases h2 : X<0 <;> by_cases h3 : Y<0
  ·exact absurd (by rw [decide_eq_true h2,decide_eq_true h3]) h
  ·rw [decide_eq_true h2,if_pos rfl]; omega
  ·rw [decide_eq_false h2,if_neg (by decide)]; omega
  ·exact absurd (by rw [decide_eq_false h2,decide_eq_false h3]) h
 have hright : decide (X<0)≠decide (Y<0)→X.natAbs<Y.natAbs→intV (decide (Y<0)) (bs (bytes (Y.natAbs-X.natAbs)))=zV (X+Y):=fun h hlt=>by
  refine (zp2 ?_ (by omega)).symm
  unfold sg
  by_cases h2 : X<0 <;> by_cases h3 : Y<0
  ·exact absurd (by rw [decide_eq_true h2,decide_eq_true h3]) h
  ·rw [decide_eq_false h3,if_neg (by decide)]; omega
  ·rw [decide_eq_true h3,if_pos rfl]; omega
  ·exact absurd (by rw [decide_eq_false h2,decide_eq_false h3]) h
 have hz : decide (X<0)≠decide (Y<0)→X.natAbs=Y.natAbs→intV false ⟨#[]⟩=zV (X+Y):=fun h he=>by
  have : X+Y=0:=by
   by_cases h2 : X<0 <;> by_cases h3 : Y<0
   ·exact absurd (by rw [decide_eq_true h2,decide_eq_true h3]) h
   ·omega
   ·omega
   ·exact absurd (by rw [decide_eq_false h2,decide_eq_false h3]) h
  rw [this,zV,Int.natAbs_zero,zaL]; rfl
 rcases hc with h1 | ⟨h1,h2⟩
 ·refine zae (decide_eq_false (show ¬((bytes X.natAbs).length : Int)<8 by omega)) ?_
  conv=>whnf
  refine zah ?_ ?_
  ·intro h
   have hs:=beqB h
   conv=>whnf
   refine zaj.quiet (by kernel_rfl) ?_
   conv=>whnf
   refine zad.fn (zrc (bytes X.natAbs) (bytes Y.natAbs) hXl hYl) rfl ?_
   rw [zal,zal]
   conv=>whnf
   exact zaa (hsame hs)
  ·intro h
   have hs:=bneB h
   conv=>whnf
   refine zac.fn (zdu X.natAbs Y.natAbs) rfl ?_
   rcases Nat.lt_trichotomy X.natAbs Y.natAbs with hc | hc | hc
   ·rw [show cmpN X.natAbs Y.natAbs=-1 by rw [cmpN,if_pos hc]]
    conv=>whnf
    refine zaj.quiet (by kernel_rfl) ?_
    conv=>whnf
    refine zad.fn (zkQ (bytes Y.natAbs) (bytes X.natAbs) hYl (zbi (Nat.le_of_lt hc)) (by rw [zal,zal]; omega)) rfl ?_
    rw [zal,zal]
    conv=>whnf
    exact zaa (hright hs hc)
   ·rw [show cmpN X.natAbs Y.natAbs=0 by rw [cmpN,if_neg (by omega),if_neg (by omega)]]
    conv=>whnf
    exact zaa (hz hs hc)
   ·rw [show cmpN X.natAbs Y.natAbs=1 by rw [cmpN,if_neg (by omega),if_pos hc]]
    conv=>whnf
    refine zaj.quiet (by kernel_rfl) ?_
    conv=>whnf
    refine zad.fn (zkQ (bytes X.natAbs) (bytes Y.natAbs) hXl (zbi (Nat.le_of_lt hc)) (by rw [zal,zal]; omega)) rfl ?_
    rw [zal,zal]
    conv=>whnf
    exact zaa (hleft hs hc)
 ·refine zai (decide_eq_true (show ((bytes X.natAbs).length : Int)<8 by omega)) ?_
  conv=>whnf
  refine zae (decide_eq_false (show ¬((bytes Y.natAbs).length : Int)<8 by omega)) ?_
  conv=>whnf
  refine zah ?_ ?_
  ·intro h
   have hs:=beqB h
   conv=>whnf
   refine zaj.quiet (by kernel_rfl) ?_
   conv=>whnf
   refine zad.fn (zrc (bytes X.natAbs) (bytes Y.natAbs) hXl hYl) rfl ?_
   rw [zal,zal]
   conv=>whnf
   exact zaa (hsame hs)
  ·intro h
   have hs:=bneB h
   conv=>whnf
   refine zac.fn (zdu X.natAbs Y.natAbs) rfl ?_
   rcases Nat.lt_trichotomy X.natAbs Y.natAbs with hc | hc | hc
   ·rw [show cmpN X.natAbs Y.natAbs=-1 by rw [cmpN,if_pos hc]]
    conv=>whnf
    refine zaj.quiet (by kernel_rfl) ?_
    conv=>whnf
    refine zad.fn (zkQ (bytes Y.natAbs) (bytes X.natAbs) hYl (zbi (Nat.le_of_lt hc)) (by rw [zal,zal]; omega)) rfl ?_
    rw [zal,zal]
    conv=>whnf
    exact zaa (hright hs hc)
   ·rw [show cmpN X.natAbs Y.natAbs=0 by rw [cmpN,if_neg (by omega),if_neg (by omega)]]
    conv=>whnf
    exact zaa (hz hs hc)
   ·rw [show cmpN X.natAbs Y.natAbs=1 by rw [cmpN,if_neg (by omega),if_pos hc]]
    conv=>whnf
    refine zaj.quiet (by kernel_rfl) ?_
    conv=>whnf
    refine zad.fn (zkQ (bytes X.natAbs) (bytes Y.natAbs) hXl (zbi (Nat.le_of_lt hc)) (by rw [zal,zal]; omega)) rfl ?_
    rw [zal,zal]
    conv=>whnf
    exact zaa (hleft hs hc)
theorem zzm (x y : Int) (hx : (bytes x.natAbs).length≤500000000) (hy : (bytes y.natAbs).length≤500000000) : Fn PP zbr [zV x,zV y] (zV (x+y)):=by
 have:=zBq (decide (x<0)) (decide (y<0)) (bytes x.natAbs) (bytes y.natAbs) hx hy
 rw [zal,zal,sg_z,sg_z] at this
 exact this
theorem zpd (b : Bool) (l : List UInt8) : Fn PP zc4 [intV b (bs l)] (zV (-(sg b (nat l)))):=by
 refine Fn.of zab mixed zkB rfl rfl (Nat.le_of_ble_eq_true rfl) ?_
 intro w
 obtain ⟨X,hX⟩ : ∃ X,X=sg b (nat l):=⟨_,rfl⟩
 have cX:=zbK b l
 rw [←hX] at cX ⊢
 conv=>whnf
 refine zac.fn cX rfl ?_
 conv=>whnf
 by_cases h : X<0
 ·refine zae (by rw [decide_eq_true h]; rfl) ?_
  conv=>whnf
  refine zaa ?_
  rw [zV,Int.natAbs_neg,decide_eq_false (show ¬-X<0 by omega)]
 ·refine zai (by rw [decide_eq_false h]; rfl) ?_
  conv=>whnf
  refine zaa ?_
  show intV (!((bs (bytes X.natAbs)).toList==ByteArray.toList ⟨#[]⟩)) _=_
  rw [zid,zV,Int.natAbs_neg]
  congr 1
  by_cases h0 : X=0
  ·rw [h0,Int.natAbs_zero,zaL]; rfl
  ·rw [decide_eq_false (fun h2=>by have:=zeH.1 h2; omega),decide_eq_true (show -X<0 by omega)]; rfl
theorem ztR (x : Int) : Fn PP zc4 [zV x] (zV (-x)):=by
 have:=zpd (decide (x<0)) (bytes x.natAbs)
 rw [zal,sg_z] at this
 exact this
theorem zt3 (x y : Int) (hx : (bytes x.natAbs).length≤500000000) (hy : (bytes y.natAbs).length≤500000000) : Fn PP zc5 [zV x,zV y] (zV (x-y)):=by
 refine Fn.of zab mixed zk5 rfl rfl (Nat.le_of_ble_eq_true rfl) ?_
 intro w
 conv=>whnf
 refine zaj.quiet (by kernel_rfl) ?_
 conv=>whnf
 refine zad.fn (ztR y) rfl ?_
 conv=>whnf
 refine zad.fn (zzm x (-y) hx (by rw [Int.natAbs_neg]; exact hy)) rfl ?_
 conv=>whnf
 exact zaa (by rw [Int.sub_eq_add_neg])
end Go.Sx
end
section
set_option maxRecDepth 10000
set_option maxHeartbeats 2000000
namespace Go.Sx
open Go Go.Proofs
theorem zja (n : Nat) : ((bs (bytes n)).toList==ByteArray.toList ⟨#[]⟩)=decide (n=0):=by rw [zid]; exact decide_eq_decide.2 zeH
theorem zgv (X : Int) : ((bs (bytes X.natAbs)).toList==ByteArray.toList ⟨#[]⟩)=decide (X=0):=by rw [zja]; exact decide_eq_decide.2 (by omega)
theorem zxt (X Y : Int) (h : X=0∨Y=0) : intV false ⟨#[]⟩=zV (X*Y):=by
 have : X*Y=0:=by rcases h with h | h <;> simp [h]
 rw [this,zV,Int.natAbs_zero,zaL]; rfl
theorem zqW {X Y : Int} (h : (bytes X.natAbs).length+(bytes Y.natAbs).length≤7) : (X*Y).natAbs<72057594037927936:=by
 have h1:=zdx (bytes X.natAbs)
 have h2:=zdx (bytes Y.natAbs)
 rw [zal] at h1 h2
 have:=Nat.lt_of_lt_of_le (zbT h1 h2) (Nat.pow_le_pow_right (n:=256) (by decide) h)
 rw [Int.natAbs_mul]; simpa using this
theorem zCF (a b : Bool) (l m : List UInt8) (hl : l.length≤400000000) (hm : m.length≤400000000) : Fn PP zc0 [intV a (bs l),intV b (bs m)] (zV (sg a (nat l)*sg b (nat m))):=by
 refine Fn.of zab mixed zkI rfl rfl (Nat.le_of_ble_eq_true rfl) ?_
 intro w
 obtain ⟨X,hX⟩ : ∃ X,X=sg a (nat l):=⟨_,rfl⟩
 obtain ⟨Y,hY⟩ : ∃ Y,Y=sg b (nat m):=⟨_,rfl⟩
 have hXl : (bytes X.natAbs).length≤400000000:=by rw [hX,za4]; exact Nat.le_trans (zep _) hl
 have hYl : (bytes Y.natAbs).length≤400000000:=by rw [hY,za4]; exact Nat.le_trans (zep _) hm
 have cX:=zbK a l
 have cY:=zbK b m
 rw [←hX] at cX ⊢
 rw [←hY] at cY ⊢
 conv=>whnf
 refine zaj.quiet (by kernel_rfl) ?_
 conv=>whnf
 refine zad.fn cX rfl ?_
 conv=>whnf
 refine zad.fn cY rfl ?_
 conv=>whnf
 by_cases hX0 : X=0
 ·refine zai ((zgv X).trans (decide_eq_true hX0)) ?_
  conv=>whnf
  exact zaa (zxt X Y (.inl hX0))
 refine zae ((zgv X).trans (decide_eq_false hX0)) ?_
 conv=>whnf
 by_cases hY0 : Y=0
 ·refine zai ((zgv Y).trans (decide_eq_true hY0)) ?_
  conv=>whnf
  exact zaa (zxt X Y (.inr hY0))
 refine zae ((zgv Y).trans (decide_eq_false hY0)) ?_
 conv=>whnf
 have hw : IntKind.i64.wrap (((bytes X.natAbs).length : Int)+((bytes Y.natAbs).length : Int))=((bytes X.natAbs).length : Int)+((bytes Y.natAbs).length : Int):=wrap_i64 (by omega) (by omega)
 refine zah ?_ ?_
 ·intro h
  have hs : (bytes X.natAbs).length+(bytes Y.natAbs).length≤7:=by
   have h2 : IntKind.i64.wrap (((bytes X.natAbs).length : Int)+((bytes Y.natAbs).length : Int))<8:=of_decide_eq_true h
   rw [hw] at h2; omega
  have hp:=zqW hs
  conv=>whnf
  refine zaj.quiet (by kernel_rfl) ?_
  conv=>whnf
  refine zad.fn (znd X (by omega)) rfl ?_
  conv=>whnf
  refine zad.fn (znd Y (by omega)) rfl ?_
  conv=>whnf
  have hw2 : IntKind.i64.wrap (X*Y)=X*Y:=wrap_i64 (by omega) (by omega)
  refine zad.fn (r:=zV (X*Y)) (r_Of (X*Y) (by omega) (by omega)) (congrArg (fun z=>[SV.o (.v (.int .i64 z))]) hw2) ?_
  conv=>whnf
  exact zaa rfl
 ·intro h
  conv=>whnf
  refine zaj.quiet (by kernel_rfl) ?_
  conv=>whnf
  refine zad.fn (zxT (bytes X.natAbs) (bytes Y.natAbs) (by omega) hYl) rfl ?_
  rw [zal,zal]
  conv=>whnf
  refine zaa ?_
  have hpos : 0<X.natAbs*Y.natAbs:=Nat.mul_pos (by omega) (by omega)
  refine (zp2 (b:=decide (X<0) != decide (Y<0)) ?_ (by omega)).symm
  rw [zzy,sg_z,sg_z]
theorem zoe (x y : Int) (hx : (bytes x.natAbs).length≤400000000) (hy : (bytes y.natAbs).length≤400000000) : Fn PP zc0 [zV x,zV y] (zV (x*y)):=by
 have:=zCF (decide (x<0)) (decide (y<0)) (bytes x.natAbs) (bytes y.natAbs) hx hy
 rw [zal,zal,sg_z,sg_z] at this
 exact this
theorem znu {x y : Bool} (h : x≠y) : (x != y)=true:=by cases x <;> cases y <;> simp_all
theorem zk7 {x y : Bool} (h : x=y) : (x != y)=false:=by subst h; cases x <;> rfl
theorem zvm (X Y : Int) : Fn PP zdh [zV X,zV Y] (.int .i64 (cmpZ X Y)):=by
 refine Fn.of zab mixed zgC rfl rfl (Nat.le_of_ble_eq_true rfl) ?_
 intro w
 have cX:=zbK (decide (X<0)) (bytes X.natAbs)
 have cY:=zbK (decide (Y<0)) (bytes Y.natAbs)
 rw [zal,sg_z] at cX cY
 conv=>whnf
 refine zaj.quiet (by kernel_rfl) ?_
 conv=>whnf
 refine zad.fn cX rfl ?_
 conv=>whnf
 refine zad.fn cY rfl ?_
 conv=>whnf
 by_cases hx : X<0 <;> by_cases hy : Y<0
 ·refine zae (zk7 (by rw [decide_eq_true hx,decide_eq_true hy])) ?_
  conv=>whnf
  refine zai (decide_eq_true hx) ?_
  conv=>whnf
  refine zac.fn (zdu Y.natAbs X.natAbs) rfl ?_
  conv=>whnf
  refine zaa ?_
  rw [←zty,show -((X.natAbs : Nat) : Int)=X by omega,show -((Y.natAbs : Nat) : Int)=Y by omega]
 ·refine zai (znu (by rw [decide_eq_true hx,decide_eq_false hy]; decide)) ?_
  conv=>whnf
  refine zai (decide_eq_true hx) ?_
  conv=>whnf
  refine zaa ?_
  rw [zma (by omega)]
 ·refine zai (znu (by rw [decide_eq_false hx,decide_eq_true hy]; decide)) ?_
  conv=>whnf
  refine zae (decide_eq_false hx) ?_
  conv=>whnf
  refine zaa ?_
  rw [zlv (by omega)]
 ·refine zae (zk7 (by rw [decide_eq_false hx,decide_eq_false hy])) ?_
  conv=>whnf
  refine zae (decide_eq_false hx) ?_
  conv=>whnf
  refine zac.fn (zdu X.natAbs Y.natAbs) rfl ?_
  conv=>whnf
  refine zaa ?_
  rw [←zj4,show ((X.natAbs : Nat) : Int)=X by omega,show ((Y.natAbs : Nat) : Int)=Y by omega]
end Go.Sx
end
section
set_option maxRecDepth 10000
set_option maxHeartbeats 2000000
namespace Go.Sx
open Go Go.Proofs
theorem ze8 (n : Nat) : zV (n : Int)=intV false (bs (bytes n)):=by rw [zV,Int.natAbs_natCast,decide_eq_false (by omega)]
theorem bneT {x y : Bool} (h : (x != y)=true) : x≠y:=by simpa using h
theorem bneF {x y : Bool} (h : (x != y)=false) : x=y:=by simpa using h
theorem zqG {X Y : Int} (hY : Y≠0) (h : decide (X<0)=decide (Y<0)) : X.fdiv Y=((X.natAbs/Y.natAbs : Nat) : Int)∧X.fmod Y=if Y<0 then -((X.natAbs%Y.natAbs : Nat) : Int) else ((X.natAbs%Y.natAbs : Nat) : Int):=by
 have h2:=zkG (decide (X<0)) (decide (Y<0)) X.natAbs Y.natAbs (by omega) (.inl h)
 rw [sg_z,sg_z] at h2
 rw [h2.1,h2.2,zk7 h,h]
 refine ⟨rfl,?_⟩
 by_cases hy : Y<0
 ·rw [if_pos hy,decide_eq_true hy]; rfl
 ·rw [if_neg hy,decide_eq_false hy]; rfl
theorem zn5 {X Y : Int} (hY : Y≠0) (h : X.natAbs%Y.natAbs=0) : X.fdiv Y=(if decide (X<0)=decide (Y<0) then ((X.natAbs/Y.natAbs : Nat) : Int) else -((X.natAbs/Y.natAbs : Nat) : Int))∧X.fmod Y=0:=by
 have h2:=zkG (decide (X<0)) (decide (Y<0)) X.natAbs Y.natAbs (by omega) (.inr h)
 rw [sg_z,sg_z,h] at h2
 rw [h2.1,h2.2]
 refine ⟨?_,by unfold sg; split <;> rfl⟩
 by_cases hab : decide (X<0)=decide (Y<0)
 ·rw [if_pos hab,zk7 hab]; rfl
 ·rw [if_neg hab,znu hab]; rfl
theorem zp9 {X Y : Int} (hY : Y≠0) (h : decide (X<0)≠decide (Y<0)) (h0 : X.natAbs%Y.natAbs≠0) : X.fdiv Y=-(sg false (X.natAbs/Y.natAbs))-1∧X.fmod Y=if Y<0 then -((Y.natAbs : Int)-((X.natAbs%Y.natAbs : Nat) : Int)) else (Y.natAbs : Int)-((X.natAbs%Y.natAbs : Nat) : Int):=by
 have h2:=zpS (decide (X<0)) (decide (Y<0)) X.natAbs Y.natAbs (by omega) h h0
 rw [sg_z,sg_z] at h2
 rw [h2.1,h2.2,znu h]
 refine ⟨rfl,?_⟩
 by_cases hy : Y<0
 ·have hx : ¬X<0:=fun hx=>h (by rw [decide_eq_true hx,decide_eq_true hy])
  rw [if_pos hy,decide_eq_false hx]
  show ((X.natAbs%Y.natAbs : Nat) : Int)+Y=_
  omega
 ·have hx : X<0:=by
   by_cases hx : X<0
   ·exact hx
   ·exact absurd (by rw [decide_eq_false hx,decide_eq_false hy]) h
  rw [if_neg hy,decide_eq_true hx]
  show -((X.natAbs%Y.natAbs : Nat) : Int)+Y=_
  omega
theorem zvP (x y : Nat) (hx : (bytes x).length≤500000000) (hy : (bytes y).length≤500000000) : Fn PP zc5 [intV false (bs (bytes x)),intV false (bs (bytes y))] (zV ((x : Int)-(y : Int))):=by
 have:=zt3 (x : Int) (y : Int) (by rw [Int.natAbs_natCast]; exact hx) (by rw [Int.natAbs_natCast]; exact hy)
 rw [ze8,ze8] at this
 exact this
theorem zzT (n : Nat) (h : n<9223372036854775808) : Fn PP zdm [.int .i64 (n : Int)] (intV false (bs (bytes n))):=by
 have:=r_Of (n : Int) (by omega) (by omega)
 rw [ze8] at this
 exact this
theorem zrG {n : Nat} (h : n<9223372036854775808) : IntKind.i64.wrap (n : Int)=(n : Int):=wrap_i64 (by omega) (by omega)
theorem zza (X Y : Int) (hX : (bytes X.natAbs).length≤300000000) (hYl : (bytes Y.natAbs).length≤300000000) :
  Fn PP zeY [zV X,zV Y] (if Y=0 then divV 0 0 10 else divV (X.fdiv Y) (X.fmod Y) 0):=by
 refine Fn.of zab mixed zk1 rfl rfl (Nat.le_of_ble_eq_true rfl) ?_
 intro w
 have cX:=zbK (decide (X<0)) (bytes X.natAbs)
 have cY:=zbK (decide (Y<0)) (bytes Y.natAbs)
 rw [zal,sg_z] at cX cY
 have hq1:=zbi (Nat.div_le_self X.natAbs Y.natAbs)
 have hr1:=zbi (Nat.mod_le X.natAbs Y.natAbs)
 conv=>whnf
 refine zaj.quiet (by kernel_rfl) ?_
 conv=>whnf
 refine zad.fn cX rfl ?_
 conv=>whnf
 refine zad.fn cY rfl ?_
 conv=>whnf
 by_cases hY : Y=0
 ·refine zai ((zgv Y).trans (decide_eq_true hY)) ?_
  rw [if_pos hY]
  conv=>whnf
  refine zam ?_
  simp only [divV,zV,zaL,Int.natAbs_zero]
  rfl
 refine zae ((zgv Y).trans (decide_eq_false hY)) ?_
 rw [if_neg hY]
 conv=>whnf
 have hc : (bytes X.natAbs).length≤7∧(bytes Y.natAbs).length≤7∨¬(bytes X.natAbs).length≤7∨((bytes X.natAbs).length≤7∧¬(bytes Y.natAbs).length≤7):=by omega
 rcases hc with hs | h1 | ⟨h1,h2⟩
 ·refine zai (decide_eq_true (show ((bytes X.natAbs).length : Int)<8 by omega)) ?_
  conv=>whnf
  refine zai (decide_eq_true (show ((bytes Y.natAbs).length : Int)<8 by omega)) ?_
  have h1:=lt8 hs.1
  have h2:=lt8 hs.2
  have hq2:=Nat.div_le_self X.natAbs Y.natAbs
  have hr2:=Nat.mod_le X.natAbs Y.natAbs
  conv=>whnf
  refine zaj.quiet (by kernel_rfl) ?_
  conv=>whnf
  refine zad.fn (zme (bytes X.natAbs) hs.1) rfl ?_
  rw [zal]
  conv=>whnf
  refine zad.fn (zme (bytes Y.natAbs) hs.2) rfl ?_
  rw [zal]
  conv=>whnf
  refine zaj.quiet (by kernel_rfl) ?_
  conv=>whnf
  refine ⟨by omega,?_⟩
  conv=>whnf
  refine zad.fn (zzT (X.natAbs/Y.natAbs) (by omega)) (congrArg (fun z=>[SV.o (.v (.int .i64 z))]) (show IntKind.i64.wrap (Int.tdiv (X.natAbs : Int) (Y.natAbs : Int))=_ by exact zrG (show X.natAbs/Y.natAbs<9223372036854775808 by omega))) ?_
  conv=>whnf
  refine ⟨by omega,?_⟩
  conv=>whnf
  refine zad.fn (zzT (X.natAbs%Y.natAbs) (by omega)) rfl ?_
  conv=>whnf
  refine zah ?_ ?_
  ·intro h
   have hab : decide (X<0)≠decide (Y<0):=bneT h
   conv=>whnf
   refine zac.fn (zpd false (bytes (X.natAbs/Y.natAbs))) rfl ?_
   rw [zal]
   conv=>whnf
   by_cases hr0 : X.natAbs%Y.natAbs=0
   ·refine zae (by rw [zja,decide_eq_true hr0]; rfl) ?_
    conv=>whnf
    obtain ⟨e1,e2⟩:=zn5 hY hr0
    by_cases hyn : Y<0
    ·refine zai (decide_eq_true hyn) ?_
     conv=>whnf
     refine zac.fn (zpd false (bytes (X.natAbs%Y.natAbs))) rfl ?_
     rw [zal]
     conv=>whnf
     refine zaj.late [(2,4,[1])] (by kernel_rfl) ?_
     conv=>whnf
     refine zam ?_
     rw [e1,e2,if_neg hab,hr0]; rfl
    ·refine zae (decide_eq_false hyn) ?_
     conv=>whnf
     refine zaj.late [(2,4,[1])] (by kernel_rfl) ?_
     conv=>whnf
     refine zam ?_
     rw [e1,e2,if_neg hab,hr0]
     simp only [divV,zV,zaL,Int.natAbs_zero]; rfl
   ·refine zai (by rw [zja,decide_eq_false hr0]; rfl) ?_
    conv=>whnf
    refine zaj.quiet (by kernel_rfl) ?_
    conv=>whnf
    refine zad.fn (r_Of 1 (by decide) (by decide)) rfl ?_
    conv=>whnf
    refine zad.fn (zt3 (-(sg false (X.natAbs/Y.natAbs))) 1 (by rw [Int.natAbs_neg,za4]; omega) (by decide +kernel)) rfl ?_
    conv=>whnf
    refine zac.fn (zvP Y.natAbs (X.natAbs%Y.natAbs) (by omega) (by omega)) rfl ?_
    conv=>whnf
    obtain ⟨e1,e2⟩:=zp9 hY hab hr0
    by_cases hyn : Y<0
    ·refine zai (decide_eq_true hyn) ?_
     conv=>whnf
     refine zac.fn (ztR ((Y.natAbs : Int)-((X.natAbs%Y.natAbs : Nat) : Int))) rfl ?_
     conv=>whnf
     refine zaj.late [(2,4,[1])] (by kernel_rfl) ?_
     conv=>whnf
     refine zam ?_
     rw [e1,e2,if_pos hyn]; rfl
    ·refine zae (decide_eq_false hyn) ?_
     conv=>whnf
     refine zaj.late [(2,4,[1])] (by kernel_rfl) ?_
     conv=>whnf
     refine zam ?_
     rw [e1,e2,if_neg hyn]; rfl
  ·intro h
   have hab : decide (X<0)=decide (Y<0):=bneF h
   obtain ⟨e1,e2⟩:=zqG hY hab
   conv=>whnf
   by_cases hyn : Y<0
   ·refine zai (decide_eq_true hyn) ?_
    conv=>whnf
    refine zac.fn (zpd false (bytes (X.natAbs%Y.natAbs))) rfl ?_
    rw [zal]
    conv=>whnf
    refine zaj.late [(2,4,[1])] (by kernel_rfl) ?_
    conv=>whnf
    refine zam ?_
    rw [e1,e2,if_pos hyn,divV,ze8]; rfl
   ·refine zae (decide_eq_false hyn) ?_
    conv=>whnf
    refine zaj.late [(2,4,[1])] (by kernel_rfl) ?_
    conv=>whnf
    refine zam ?_
    rw [e1,e2,if_neg hyn,divV,ze8,ze8]
 ·refine zae (decide_eq_false (show ¬((bytes X.natAbs).length : Int)<8 by omega)) ?_
  conv=>whnf
  refine zac.fn (znc X.natAbs Y.natAbs hX hYl (by omega)) rfl ?_
  conv=>whnf
  refine zah ?_ ?_
  ·intro h
   have hab : decide (X<0)≠decide (Y<0):=bneT h
   conv=>whnf
   refine zac.fn (zpd false (bytes (X.natAbs/Y.natAbs))) rfl ?_
   rw [zal]
   conv=>whnf
   by_cases hr0 : X.natAbs%Y.natAbs=0
   ·refine zae (by rw [zja,decide_eq_true hr0]; rfl) ?_
    conv=>whnf
    obtain ⟨e1,e2⟩:=zn5 hY hr0
    by_cases hyn : Y<0
    ·refine zai (decide_eq_true hyn) ?_
     conv=>whnf
     refine zac.fn (zpd false (bytes (X.natAbs%Y.natAbs))) rfl ?_
     rw [zal]
     conv=>whnf
     refine zaj.late [(2,4,[1])] (by kernel_rfl) ?_
     conv=>whnf
     refine zam ?_
     rw [e1,e2,if_neg hab,hr0]; rfl
    ·refine zae (decide_eq_false hyn) ?_
     conv=>whnf
     refine zaj.late [(2,4,[1])] (by kernel_rfl) ?_
     conv=>whnf
     refine zam ?_
     rw [e1,e2,if_neg hab,hr0]
     simp only [divV,zV,zaL,Int.natAbs_zero]; rfl
   ·refine zai (by rw [zja,decide_eq_false hr0]; rfl) ?_
    conv=>whnf
    refine zaj.quiet (by kernel_rfl) ?_
    conv=>whnf
    refine zad.fn (r_Of 1 (by decide) (by decide)) rfl ?_
    conv=>whnf
    refine zad.fn (zt3 (-(sg false (X.natAbs/Y.natAbs))) 1 (by rw [Int.natAbs_neg,za4]; omega) (by decide +kernel)) rfl ?_
    conv=>whnf
    refine zac.fn (zvP Y.natAbs (X.natAbs%Y.natAbs) (by omega) (by omega)) rfl ?_
    conv=>whnf
    obtain ⟨e1,e2⟩:=zp9 hY hab hr0
    by_cases hyn : Y<0
    ·refine zai (decide_eq_true hyn) ?_
     conv=>whnf
     refine zac.fn (ztR ((Y.natAbs : Int)-((X.natAbs%Y.natAbs : Nat) : Int))) rfl ?_
     conv=>whnf
     refine zaj.late [(2,4,[1])] (by kernel_rfl) ?_
     conv=>whnf
     refine zam ?_
     rw [e1,e2,if_pos hyn]; rfl
    ·refine zae (decide_eq_false hyn) ?_
     conv=>whnf
     refine zaj.late [(2,4,[1])] (by kernel_rfl) ?_
     conv=>whnf
     refine zam ?_
     rw [e1,e2,if_neg hyn]; rfl
  ·intro h
   have hab : decide (X<0)=decide (Y<0):=bneF h
   obtain ⟨e1,e2⟩:=zqG hY hab
   conv=>whnf
   by_cases hyn : Y<0
   ·refine zai (decide_eq_true hyn) ?_
    conv=>whnf
    refine zac.fn (zpd false (bytes (X.natAbs%Y.natAbs))) rfl ?_
    rw [zal]
    conv=>whnf
    refine zaj.late [(2,4,[1])] (by kernel_rfl) ?_
    conv=>whnf
    refine zam ?_
    rw [e1,e2,if_pos hyn,divV,ze8]; rfl
   ·refine zae (decide_eq_false hyn) ?_
    conv=>whnf
    refine zaj.late [(2,4,[1])] (by kernel_rfl) ?_
    conv=>whnf
    refine zam ?_
    rw [e1,e2,if_neg hyn,divV,ze8,ze8]
 ·refine zai (decide_eq_true (show ((bytes X.natAbs).length : Int)<8 by omega)) ?_
  conv=>whnf
  refine zae (decide_eq_false (show ¬((bytes Y.natAbs).length : Int)<8 by omega)) ?_
  conv=>whnf
  refine zac.fn (znc X.natAbs Y.natAbs hX hYl (by omega)) rfl ?_
  conv=>whnf
  refine zah ?_ ?_
  ·intro h
   have hab : decide (X<0)≠decide (Y<0):=bneT h
   conv=>whnf
   refine zac.fn (zpd false (bytes (X.natAbs/Y.natAbs))) rfl ?_
   rw [zal]
   conv=>whnf
   by_cases hr0 : X.natAbs%Y.natAbs=0
   ·refine zae (by rw [zja,decide_eq_true hr0]; rfl) ?_
    conv=>whnf
    obtain ⟨e1,e2⟩:=zn5 hY hr0
    by_cases hyn : Y<0
    ·refine zai (decide_eq_true hyn) ?_
     conv=>whnf
     refine zac.fn (zpd false (bytes (X.natAbs%Y.natAbs))) rfl ?_
     rw [zal]
     conv=>whnf
     refine zaj.late [(2,4,[1])] (by kernel_rfl) ?_
     conv=>whnf
     refine zam ?_
     rw [e1,e2,if_neg hab,hr0]; rfl
    ·refine zae (decide_eq_false hyn) ?_
     conv=>whnf
     refine zaj.late [(2,4,[1])] (by kernel_rfl) ?_
     conv=>whnf
     refine zam ?_
     rw [e1,e2,if_neg hab,hr0]
     simp only [divV,zV,zaL,Int.natAbs_zero]; rfl
   ·refine zai (by rw [zja,decide_eq_false hr0]; rfl) ?_
    conv=>whnf
    refine zaj.quiet (by kernel_rfl) ?_
    conv=>whnf
    refine zad.fn (r_Of 1 (by decide) (by decide)) rfl ?_
    conv=>whnf
    refine zad.fn (zt3 (-(sg false (X.natAbs/Y.natAbs))) 1 (by rw [Int.natAbs_neg,za4]; omega) (by decide +kernel)) rfl ?_
    conv=>whnf
    refine zac.fn (zvP Y.natAbs (X.natAbs%Y.natAbs) (by omega) (by omega)) rfl ?_
    conv=>whnf
    obtain ⟨e1,e2⟩:=zp9 hY hab hr0
    by_cases hyn : Y<0
    ·refine zai (decide_eq_true hyn) ?_
     conv=>whnf
     refine zac.fn (ztR ((Y.natAbs : Int)-((X.natAbs%Y.natAbs : Nat) : Int))) rfl ?_
     conv=>whnf
     refine zaj.late [(2,4,[1])] (by kernel_rfl) ?_
     conv=>whnf
     refine zam ?_
     rw [e1,e2,if_pos hyn]; rfl
    ·refine zae (decide_eq_false hyn) ?_
     conv=>whnf
     refine zaj.late [(2,4,[1])] (by kernel_rfl) ?_
     conv=>whnf
     refine zam ?_
     rw [e1,e2,if_neg hyn]; rfl
  ·intro h
   have hab : decide (X<0)=decide (Y<0):=bneF h
   obtain ⟨e1,e2⟩:=zqG hY hab
   conv=>whnf
   by_cases hyn : Y<0
   ·refine zai (decide_eq_true hyn) ?_
    conv=>whnf
    refine zac.fn (zpd false (bytes (X.natAbs%Y.natAbs))) rfl ?_
    rw [zal]
    conv=>whnf
    refine zaj.late [(2,4,[1])] (by kernel_rfl) ?_
    conv=>whnf
    refine zam ?_
    rw [e1,e2,if_pos hyn,divV,ze8]; rfl
   ·refine zae (decide_eq_false hyn) ?_
    conv=>whnf
    refine zaj.late [(2,4,[1])] (by kernel_rfl) ?_
    conv=>whnf
    refine zam ?_
    rw [e1,e2,if_neg hyn,divV,ze8,ze8]
end Go.Sx
end
section
set_option maxRecDepth 10000
set_option maxHeartbeats 2000000
namespace Go.Sx
open Go Go.Proofs
theorem zwx (n : Nat) : (!((bs (bytes n)).toList==ByteArray.toList ⟨#[]⟩))=decide (n≠0):=by rw [zja]; by_cases h : n=0 <;> simp [h]
theorem zBH (X Y : Int) (hX : (bytes X.natAbs).length≤300000000) (hYl : (bytes Y.natAbs).length≤300000000) :
  Fn PP ze3 [zV X,zV Y] (zV ((Nat.gcd X.natAbs Y.natAbs : Nat) : Int)):=by
 refine Fn.of zab mixed zkj rfl rfl (Nat.le_of_ble_eq_true rfl) ?_
 intro w
 have tX:=zkF (bytes X.natAbs)
 have tY:=zkF (bytes Y.natAbs)
 rw [zdL,zal] at tX tY
 conv=>whnf
 refine zaj.quiet (by kernel_rfl) ?_
 conv=>whnf
 refine zad.fn tX rfl ?_
 conv=>whnf
 refine zad.fn tY rfl ?_
 conv=>whnf
 refine zak (ι:=Nat×Nat) (fun ⟨a,b⟩=>⟨[(4,.o (.p 4 0)),(5,.o (.v (.string (bs (bytes a))))),(6,.o (.v (.string (bs (bytes b)))))],[(4,.box [.v (.bool false),.v (.string ⟨#[]⟩)] zbF)],[]⟩)
  (fun ⟨a,b⟩=>Nat.gcd a b=Nat.gcd X.natAbs Y.natAbs∧(bytes a).length≤300000000∧(bytes b).length≤300000000) (fun ⟨a,b⟩=>b) (X.natAbs,Y.natAbs) ⟨rfl,hX,hYl⟩ (SLe.id ⟨rfl,rfl,rfl,trivial⟩ ⟨⟨_,rfl,.refl _⟩,trivial⟩ (fun R hR=>hR)) ?_
 rintro ⟨a,b⟩ ⟨hg,ha,hb⟩
 conv=>whnf
 by_cases hb0 : b=0
 ·refine zae ((zwx b).trans (decide_eq_false (by omega))) ?_
  conv=>whnf
  refine zai ((zja b).trans (decide_eq_true hb0)) ?_
  conv=>whnf
  refine zaa ?_
  rw [ze8,←hg,hb0,Nat.gcd_zero_right]
 refine zai ((zwx b).trans (decide_eq_true hb0)) ?_
 conv=>whnf
 have hstep : Nat.gcd b (a%b)=Nat.gcd X.natAbs Y.natAbs:=by rw [←hg,Nat.gcd_comm a b,Nat.gcd_rec b a,Nat.gcd_comm]
 have hlt : a%b<b:=Nat.mod_lt _ (by omega)
 have hlr:=zbi (Nat.le_of_lt hlt)
 refine zah ?_ ?_
 ·intro h
  conv=>whnf
  refine zac.fn (znc a b ha hb (by omega)) rfl ?_
  conv=>whnf
  exact ⟨(b,a%b),⟨hstep,hb,by omega⟩,hlt,SLe.id ⟨rfl,rfl,rfl,trivial⟩ ⟨⟨_,rfl,.refl _⟩,trivial⟩ (fun R hR=>hR)⟩
 intro h
 have ha7 : (bytes a).length≤7:=by
  have : ¬((bytes a).length : Int)>7:=of_decide_eq_false h
  omega
 conv=>whnf
 refine zah ?_ ?_
 ·intro h
  conv=>whnf
  refine zac.fn (znc a b ha hb (by omega)) rfl ?_
  conv=>whnf
  exact ⟨(b,a%b),⟨hstep,hb,by omega⟩,hlt,SLe.id ⟨rfl,rfl,rfl,trivial⟩ ⟨⟨_,rfl,.refl _⟩,trivial⟩ (fun R hR=>hR)⟩
 intro h
 have hb7 : (bytes b).length≤7:=by
  have : ¬((bytes b).length : Int)>7:=of_decide_eq_false h
  omega
 conv=>whnf
 refine zae ((zja b).trans (decide_eq_false hb0)) ?_
 conv=>whnf
 refine zac.fn (zme (bytes a) ha7) rfl ?_
 rw [zal]
 conv=>whnf
 refine zac.fn (zme (bytes b) hb7) rfl ?_
 rw [zal]
 have a56:=nat7 ha7
 have b56:=nat7 hb7
 rw [zal] at a56 b56
 conv=>whnf
 refine zak (ι:=Nat×Nat) (fun ⟨c,d⟩=>⟨[(4,.o (.p 4 0)),(9,.o (.v (.int .i64 c))),(10,.o (.v (.int .i64 d)))],[(4,.box [.v (.bool false),.v (.string ⟨#[]⟩)] zbF)],[]⟩)
  (fun ⟨c,d⟩=>Nat.gcd c d=Nat.gcd X.natAbs Y.natAbs∧c<9223372036854775808∧d<9223372036854775808) (fun ⟨c,d⟩=>d) (a,b) ⟨hg,by omega,by omega⟩ (SLe.id ⟨rfl,rfl,rfl,trivial⟩ ⟨⟨_,rfl,.refl _⟩,trivial⟩ (fun R hR=>hR)) ?_
 rintro ⟨c,d⟩ ⟨hg2,hc,hd⟩
 conv=>whnf
 refine zah ?_ ?_
 ·intro h
  have hd0 : 0<d:=by
   have : (d : Int)>0:=of_decide_eq_true h
   omega
  have hlt2 : c%d<d:=Nat.mod_lt _ hd0
  conv=>whnf
  refine zaj.quiet (by kernel_rfl) ?_
  conv=>whnf
  refine ⟨by omega,?_⟩
  conv=>whnf
  refine ⟨(d,c%d),⟨by rw [←hg2,Nat.gcd_comm c d,Nat.gcd_rec d c,Nat.gcd_comm],hd,by omega⟩,hlt2,SLe.id ⟨rfl,rfl,rfl,trivial⟩ ⟨⟨_,rfl,.refl _⟩,trivial⟩ (fun R hR=>hR)⟩
 ·intro h
  have hd0 : d=0:=by
   have : ¬(d : Int)>0:=of_decide_eq_false h
   omega
  subst hd0
  rw [Nat.gcd_zero_right] at hg2
  conv=>whnf
  refine zac.fn (zzT c hc) rfl ?_
  conv=>whnf
  refine zaa ?_
  rw [ze8,←hg2]
end Go.Sx
end
section
set_option maxRecDepth 10000
set_option maxHeartbeats 2000000
namespace Go.Sx
open Go Go.Proofs
theorem ztN (l : List UInt8) (h1 : l.length≤7) : Fn PP zdM [.string (bs l)] (.int .i64 (nat l)):=by
 refine Fn.of zab mixed zgY rfl rfl (Nat.le_of_ble_eq_true rfl) ?_
 intro w
 conv=>whnf
 refine zak (ι:=Nat×Nat) (fun ⟨i,v⟩=>⟨[(0,.o (.v (.string (bs l)))),(3,.o (.v (.int .i64 v))),(4,.o (.v (.int .i64 i)))],[],[]⟩)
  (fun ⟨i,v⟩=>i≤l.length∧v=nat (l.take i)) (fun ⟨i,v⟩=>l.length-i) (0,0) ⟨Nat.zero_le _,rfl⟩ (SLe.id ⟨rfl,rfl,rfl,trivial⟩ trivial (fun R hR=>hR)) ?_
 rintro ⟨i,v⟩ ⟨hi,hv⟩
 conv=>whnf
 refine zah ?_ ?_
 ·intro h2
  have hi2 : i<l.length:=by
   have : (i : Int)<(l.length : Int):=of_decide_eq_true h2
   omega
  conv=>whnf
  refine ⟨⟨by omega,by show (i : Int)<(l.length : Int); omega⟩,?_⟩
  conv=>whnf
  obtain ⟨x,hx⟩ : ∃ x,x=l[i]:=⟨_,rfl⟩
  have hg : l.getD i 0=x:=by rw [hx,List.getD_eq_getElem?_getD,List.getElem?_eq_getElem hi2]; rfl
  have htk : l.take (i+1)=l.take i++[x]:=by rw [List.take_succ_eq_append_getElem hi2,hx]
  have hnat : nat (l.take (i+1))=x.toNat+256*nat (l.take i):=by rw [htk,zgg]
  have hnb : nat (l.take i)<256 ^ 6:=za2 (by rw [List.length_take]; omega)
  have hxb : x.toNat<256:=x.toBitVec.isLt
  refine ⟨(i+1,nat (l.take (i+1))),⟨by omega,rfl⟩,by show l.length-(i+1)<l.length-i; omega,SLe.id ⟨rfl,?_,zan hi2 (by omega),trivial⟩ trivial (fun R hR=>hR)⟩
  show some (SV.o (.v (.int .i64 (IntKind.i64.wrap (IntKind.i64.wrap (256*(v : Int))+IntKind.i64.wrap (sb (bs l) (i : Int)))))))=_
  rw [zm9,Int.toNat_natCast,hg,wrap_i64 (n:=(x.toNat : Int)) (by omega) (by omega),wrap_i64 (n:=256*(v : Int)) (by omega) (by omega),wrap_i64 (by omega) (by omega),hnat,hv,Int.natCast_add,Int.natCast_mul,Int.add_comm]; rfl
 ·intro h2
  have hi2 : i=l.length:=by
   have : ¬(i : Int)<(l.length : Int):=of_decide_eq_false h2
   omega
  subst hi2
  rw [List.take_length] at hv
  subst hv
  conv=>whnf
  exact zaa rfl
theorem zzL (j : Nat) : (2 : Nat) ^ (8*j)=256 ^ j:=by rw [Nat.pow_mul]
theorem zxa (n j : Nat) (hj : j≤7) : Int.fdiv (n : Int) (2 ^ min (8*(j : Int)).toNat IntKind.i64.bits)=((n/256 ^ j : Nat) : Int):=by
 rw [show (8*(j : Int)).toNat=8*j by omega,Nat.min_eq_left (show 8*j≤IntKind.i64.bits by show 8*j≤64; omega),Int.fdiv_eq_ediv_of_nonneg _ (by exact Int.pow_nonneg (by decide)),show ((2 : Int) ^ (8*j))=((256 ^ j : Nat) : Int) by rw [←zzL]; exact (Int.natCast_pow 2 (8*j)).symm]
 rfl
theorem zu5 (n j : Nat) (h : 0<n/256 ^ j) : bytes (n/256 ^ j)=bytes (n/256 ^ (j+1))++[UInt8.ofNat (n/256 ^ j%256)]:=by
 rw [zh2 h,Nat.pow_succ,Nat.div_div_eq_div_mul]
theorem zte {x : Nat} : Value.int .u8 (IntKind.u8.wrap (x : Int))=.int .u8 ((UInt8.ofNat (x%256)).toNat : Int):=by rw [zuS]
theorem znG (n : Nat) (h0 : 0<n) (hn : n<72057594037927936) : Fn PP zdN [.int .i64 n] (.string (bs (bytes n))):=by
 refine Fn.of zab mixed zg3 rfl rfl (Nat.le_of_ble_eq_true rfl) ?_
 intro w
 conv=>whnf
 refine zak (ι:=Nat×Int×List UInt8) (fun ⟨j,z,L⟩=>match L with
   | []=>⟨[(0,.o (.v (.int .i64 n))),(3,.o (.v (.slice none 0 0))),(4,.o (.v (.int .i64 z)))],[],[]⟩
   | x::l=>⟨[(0,.o (.v (.int .i64 n))),(3,.o (.w 1)),(4,.o (.v (.int .i64 z)))],[(1,.own zaI 1 (l.length+1) (rowV u8c (x::l)))],[]⟩)
  (fun ⟨j,z,L⟩=>j≤7∧z=8*(j : Int)-8∧L=bytes (n/256 ^ j)) (fun ⟨j,z,L⟩=>j) (7,48,[]) ⟨by decide,by decide,by rw [Nat.div_eq_of_lt (by omega),zaL]⟩ (SLe.id ⟨rfl,rfl,rfl,trivial⟩ trivial (fun R hR=>hR)) ?_
 rintro ⟨j1,z,L⟩ ⟨hj,hz,hL⟩
 by_cases hz0 : 0≤z
 ·obtain ⟨j,rfl⟩ : ∃ j,j1=j+1:=⟨j1-1,by omega⟩
  obtain rfl : z=8*(j : Int):=by omega
  have hf:=zxa n j (by omega)
  have hw8 : IntKind.i64.wrap (8*(j : Int)-8)=8*(j : Int)-8:=wrap_i64 (by omega) (by omega)
  obtain ⟨N,hN⟩ : ∃ N,N=n/256 ^ j:=⟨_,rfl⟩
  have hlow : n/256 ^ (j+1)=N/256:=by rw [hN,Nat.pow_succ,Nat.div_div_eq_div_mul]
  have hnx:=zu5 n j
  rw [←hN] at hf hnx
  rw [←hL] at hnx
  have hrem : Int.tmod (Int.fdiv (n : Int) (2 ^ min (8*(j : Int)).toNat IntKind.i64.bits)) 256=((N%256 : Nat) : Int):=by rw [hf]; rfl
  rcases L with _ | ⟨x,L⟩
  ·have hN256 : N/256=0:=by rw [←hlow]; exact zeH.1 hL.symm
   conv=>whnf
   refine ⟨hz0,?_⟩
   conv=>whnf
   refine ⟨by decide,?_⟩
   conv=>whnf
   by_cases hd : N=0
   ·refine zae (decide_eq_false (by rw [hrem,hd]; decide)) ?_
    conv=>whnf
    refine ⟨(j,8*(j : Int)-8,[]),⟨by omega,rfl,by rw [←hN,hd,zaL]⟩,Nat.lt_succ_self j,SLe.id ⟨rfl,rfl,?_,trivial⟩ trivial (fun R hR=>hR)⟩
    show some (SV.o (.v (.int .i64 (IntKind.i64.wrap (8*(j : Int)-8)))))=_
    rw [hw8]; rfl
   ·refine zai (decide_eq_true (by rw [hrem,Nat.mod_eq_of_lt (by omega)]; omega)) ?_
    conv=>whnf
    refine ⟨hz0,?_⟩
    conv=>whnf
    refine ⟨by decide,?_⟩
    conv=>whnf
    refine ⟨(j,8*(j : Int)-8,[UInt8.ofNat (N%256)]),⟨by omega,rfl,by rw [←hN,hnx (by omega)]; rfl⟩,Nat.lt_succ_self j,SLe.mk (fun _=>27) ⟨rfl,rfl,?_,trivial⟩ ⟨⟨_,rfl,?_⟩,trivial⟩ rfl (fun R hR=>hR)⟩
    ·show some (SV.o (.v (.int .i64 (IntKind.i64.wrap (8*(j : Int)-8)))))=_
     rw [hw8]; rfl
    ·show MEle (ME.own zaI 1 1 [Value.int .u8 (IntKind.u8.wrap (Int.fdiv (n : Int) (2 ^ min (8*(j : Int)).toNat IntKind.i64.bits)))]) _
     rw [hf,zte]; exact .refl _
  ·have hNp : N≠0:=by
    intro h
    rw [hlow,h,Nat.zero_div,zaL] at hL
    cases hL
   have hlen : L.length+1≤8:=by
    have h1:=congrArg List.length hL
    have h2:=zbi (Nat.div_le_self n (256 ^ (j+1)))
    have h3 : (bytes n).length≤7:=za8 (k:=7) (by simpa using hn)
    simp only [List.length_cons] at h1
    omega
   conv=>whnf
   refine ⟨hz0,?_⟩
   conv=>whnf
   refine ⟨by decide,?_⟩
   conv=>whnf
   refine zah ?_ ?_
   ·intro _
    conv=>whnf
    refine ⟨hz0,?_⟩
    conv=>whnf
    refine ⟨by show L.length+1+1≤9223372036854775807∧(L.length+1+1)*1≤140737488355328; omega,?_⟩
    conv=>whnf
    refine ⟨(j,8*(j : Int)-8,x::(L++[UInt8.ofNat (N%256)])),⟨by omega,rfl,by rw [←hN,hnx (by omega)]; rfl⟩,Nat.lt_succ_self j,SLe.mk (fun _=>27) ⟨rfl,rfl,?_,trivial⟩ ⟨⟨_,rfl,?_⟩,trivial⟩ rfl (fun R hR=>hR)⟩
    ·show some (SV.o (.v (.int .i64 (IntKind.i64.wrap (8*(j : Int)-8)))))=_
     rw [hw8]; rfl
    ·show MEle (ME.own zaI 1 (L.length+1+1) (app (rowV u8c (x::L)) [Value.int .u8 (IntKind.u8.wrap (Int.fdiv (n : Int) (2 ^ min (8*(j : Int)).toNat IntKind.i64.bits)))])) (ME.own zaI 1 ((L++[UInt8.ofNat (N%256)]).length+1) (rowV u8c (x::(L++[UInt8.ofNat (N%256)]))))
     rw [hf,zte,za1,List.length_append,show x::(L++[UInt8.ofNat (N%256)])=(x::L)++[UInt8.ofNat (N%256)] from rfl,zaC]
     exact .refl _
   ·intro _
    conv=>whnf
    refine zai (decide_eq_true (show ((L.length+1 : Nat) : Int)>0 by omega)) ?_
    conv=>whnf
    refine ⟨hz0,?_⟩
    conv=>whnf
    refine ⟨by show L.length+1+1≤9223372036854775807∧(L.length+1+1)*1≤140737488355328; omega,?_⟩
    conv=>whnf
    refine ⟨(j,8*(j : Int)-8,x::(L++[UInt8.ofNat (N%256)])),⟨by omega,rfl,by rw [←hN,hnx (by omega)]; rfl⟩,Nat.lt_succ_self j,SLe.mk (fun _=>27) ⟨rfl,rfl,?_,trivial⟩ ⟨⟨_,rfl,?_⟩,trivial⟩ rfl (fun R hR=>hR)⟩
    ·show some (SV.o (.v (.int .i64 (IntKind.i64.wrap (8*(j : Int)-8)))))=_
     rw [hw8]; rfl
    ·show MEle (ME.own zaI 1 (L.length+1+1) (app (rowV u8c (x::L)) [Value.int .u8 (IntKind.u8.wrap (Int.fdiv (n : Int) (2 ^ min (8*(j : Int)).toNat IntKind.i64.bits)))])) (ME.own zaI 1 ((L++[UInt8.ofNat (N%256)]).length+1) (rowV u8c (x::(L++[UInt8.ofNat (N%256)]))))
     rw [hf,zte,za1,List.length_append,show x::(L++[UInt8.ofNat (N%256)])=(x::L)++[UInt8.ofNat (N%256)] from rfl,zaC]
     exact .refl _
 ·obtain rfl : j1=0:=by omega
  rw [Nat.pow_zero,Nat.div_one] at hL
  rcases L with _ | ⟨x,L⟩
  ·have:=zeH.1 hL.symm; omega
  ·conv=>whnf
   refine zae (decide_eq_false (by omega)) ?_
   conv=>whnf
   refine ⟨x::L,rfl,?_,?_⟩
   ·rw [zf5]; exact List.take_of_length_le (by simp [bytV])
   conv=>whnf
   rw [hL]
   exact zaa rfl
end Go.Sx
end
section
set_option maxRecDepth 10000
set_option maxHeartbeats 2000000
namespace Go.Sx
open Go Go.Proofs
theorem zdt (r : Raw) : Fn PP zd7 [rawV r] (mach r):=by
 refine Fn.of zab mixed ziN rfl rfl (Nat.le_of_ble_eq_true rfl) ?_
 intro w
 conv=>whnf
 refine zah ?_ ?_
 ·intro h
  have h1 : ¬r.num.length≤3:=by
   have : ((r.num.length : Nat) : Int)>3:=of_decide_eq_true h
   omega
  conv=>whnf
  refine zam ?_
  rw [mach,if_neg (fun h=>h1 h.1)]
 intro h
 have h1 : r.num.length≤3:=by
  have : ¬((r.num.length : Nat) : Int)>3:=of_decide_eq_false h
  omega
 conv=>whnf
 refine zah ?_ ?_
 ·intro h
  have h2 : ¬r.den.length≤3:=by
   have : ((r.den.length : Nat) : Int)>3:=of_decide_eq_true h
   omega
  conv=>whnf
  refine zam ?_
  rw [mach,if_neg (fun h=>h2 h.2)]
 intro h
 have h2 : r.den.length≤3:=by
  have : ¬((r.den.length : Nat) : Int)>3:=of_decide_eq_false h
  omega
 have hnb : nat r.num<16777216:=za2 h1
 have fin : mach r=.tuple #[.int .i64 r.n,.int .i64 (r.d : Int),.bool true]:=by rw [mach,if_pos ⟨h1,h2⟩]
 rw [fin]
 conv=>whnf
 refine zaj.quiet (by kernel_rfl) ?_
 conv=>whnf
 refine zad.fn (ztN r.num (by omega)) rfl ?_
 conv=>whnf
 refine zad.fn (ztN r.den (by omega)) rfl ?_
 conv=>whnf
 have hneg : ∀ b : Bool,(b=true→IntKind.i64.wrap (0-(nat r.num : Int))=sg b (nat r.num)):=fun b hb=>by
  rw [hb,wrap_i64 (by omega) (by omega),Int.zero_sub]; rfl
 refine zah ?_ ?_ <;> intro hd0
 ·have hd : r.d=1:=by
   have h3 : (nat r.den : Int)=0:=eq_of_beq hd0
   unfold Raw.d dnm; rw [if_pos (by omega)]
  rw [hd]
  conv=>whnf
  refine zah ?_ ?_ <;> intro hb
  ·conv=>whnf
   refine zam ?_
   rw [hneg r.neg hb]; rfl
  ·conv=>whnf
   refine zam ?_
   rw [Raw.n,hb]; rfl
 ·have hd : r.d=nat r.den:=by
   have h3 : ¬(nat r.den : Int)=0:=ne_of_beq_false hd0
   unfold Raw.d dnm; rw [if_neg (by omega)]
  rw [hd]
  conv=>whnf
  refine zah ?_ ?_ <;> intro hb
  ·conv=>whnf
   refine zam ?_
   rw [hneg r.neg hb]; rfl
  ·conv=>whnf
   refine zam ?_
   rw [Raw.n,hb]; rfl
theorem zwK {n : Int} {d : Nat} (hd : 0<d) : (mkRat n d).num.natAbs=n.natAbs/Nat.gcd n.natAbs d:=by
 rw [Rat.num_mkRat,if_neg (by omega),Nat.gcd_comm d,Int.natAbs_ediv_of_dvd (Int.ofNat_dvd_left.2 (Nat.gcd_dvd_left _ _)),Int.natAbs_natCast]
theorem zAL {n : Int} {d : Nat} (hd : 0<d) : (mkRat n d).den=d/Nat.gcd n.natAbs d:=by rw [Rat.den_mkRat,if_neg (by omega),Nat.gcd_comm d]
theorem zCk {n : Int} {d : Nat} (hd : 0<d) (D : List UInt8) (hD : D=if d/Nat.gcd n.natAbs d=1 then [] else bytes (d/Nat.gcd n.natAbs d)) :
  Value.agg ⟨[.bool (decide (n<0)),.string (bs (bytes (n.natAbs/Nat.gcd n.natAbs d))),.string (bs D)]⟩=qV (mkRat n d):=by
 rw [hD]
 simp only [qV,rawV,Q,zwK hd,zAL hd]
 rw [decide_eq_decide.2 (zy8 hd)]
theorem zuN {x y : Int} (h : x=y) : some (SV.o (.v (.int .i64 x)))=some (SV.o (.v (.int .i64 y))):=by rw [h]
theorem zys (a b : Nat) : Int.tdiv (a : Int) (b : Int)=((a/b : Nat) : Int):=rfl
theorem zv7 (n : Int) (d : Nat) (hn : n.natAbs<72057594037927936) (hd0 : 0<d) (hd : d<72057594037927936) : Fn PP zeM [.int .i64 n,.int .i64 (d : Int)] (qV (mkRat n d)):=by
 refine Fn.of zab mixed zjY rfl rfl (Nat.le_of_ble_eq_true rfl) ?_
 intro w
 obtain ⟨a,ha⟩ : ∃ a,a=n.natAbs:=⟨_,rfl⟩
 conv=>whnf
 have hq:=fun D hD=>zCk (n:=n) hd0 D hD
 have hdv : Nat.gcd a d ∣ d:=Nat.gcd_dvd_right _ _
 have hda : Nat.gcd a d ∣ a:=Nat.gcd_dvd_left _ _
 rw [←ha] at hn hq
 refine zah ?_ ?_ <;> intro hs
 ·have hneg : n<0:=of_decide_eq_true hs
  have hw : IntKind.i64.wrap (0-n)=(a : Int):=by rw [wrap_i64 (by omega) (by omega)]; omega
  have ha0 : 0<a:=by omega
  conv=>whnf
  refine zae (beq_false_of_ne (by rw [hw]; omega)) ?_
  conv=>whnf
  refine zak (ι:=Nat×Nat) (fun ⟨c,e⟩=>⟨[(0,.o (.v (.int .i64 a))),(1,.o (.v (.int .i64 d))),(4,.o (.p 4 0)),(5,.o (.p 5 0)),(6,.o (.v (.int .i64 c))),(7,.o (.v (.int .i64 e)))],[(4,.box [.v (.bool false),.v (.string ⟨#[]⟩),.v (.string ⟨#[]⟩)] zaq),(5,.box [.v (.bool (decide (n<0))),.v (.string ⟨#[]⟩),.v (.string ⟨#[]⟩)] zaq)],[]⟩)
   (fun ⟨c,e⟩=>Nat.gcd c e=Nat.gcd a d∧c<72057594037927936∧e<72057594037927936) (fun ⟨c,e⟩=>e) (a,d) ⟨rfl,hn,hd⟩ (SLe.id ⟨(zuN hw),rfl,rfl,rfl,(zuN hw),rfl,trivial⟩ ⟨⟨_,rfl,.refl _⟩,⟨_,rfl,.refl _⟩,trivial⟩ (fun R hR=>hR)) ?_
  rintro ⟨c,e⟩ ⟨hg,hc,he⟩
  conv=>whnf
  refine zah ?_ ?_
  ·intro h
   have he0 : 0<e:=by
    have : (e : Int)>0:=of_decide_eq_true h
    omega
   have hlt2 : c%e<e:=Nat.mod_lt _ he0
   conv=>whnf
   refine zaj.quiet (by kernel_rfl) ?_
   conv=>whnf
   refine ⟨by omega,?_⟩
   conv=>whnf
   exact ⟨(e,c%e),⟨by rw [←hg,Nat.gcd_comm c e,Nat.gcd_rec e c,Nat.gcd_comm],he,by omega⟩,hlt2,SLe.id ⟨rfl,rfl,rfl,rfl,rfl,rfl,trivial⟩ ⟨⟨_,rfl,.refl _⟩,⟨_,rfl,.refl _⟩,trivial⟩ (fun R hR=>hR)⟩
  intro h
  have he0 : e=0:=by
   have : ¬(e : Int)>0:=of_decide_eq_false h
   omega
  subst he0
  rw [Nat.gcd_zero_right] at hg
  rw [←hg] at hdv hda hq
  have w1 : IntKind.i64.wrap (Int.tdiv (a : Int) (c : Int))=((a/c : Nat) : Int):=by rw [zys]; exact zrG (Nat.lt_of_le_of_lt (Nat.div_le_self _ _) (by omega))
  have w2 : IntKind.i64.wrap (Int.tdiv (d : Int) (c : Int))=((d/c : Nat) : Int):=by rw [zys]; exact zrG (Nat.lt_of_le_of_lt (Nat.div_le_self _ _) (by omega))
  have hcp : 0<c:=Nat.pos_of_dvd_of_pos hdv hd0
  conv=>whnf
  refine ⟨by omega,?_⟩
  conv=>whnf
  refine zac.fn (znG (a/c) (Nat.div_pos (Nat.le_of_dvd ha0 hda) hcp) (Nat.lt_of_le_of_lt (Nat.div_le_self _ _) hn)) (congrArg (fun z=>[SV.o (.v (.int .i64 z))]) w1) ?_
  conv=>whnf
  refine ⟨by omega,?_⟩
  conv=>whnf
  by_cases h1 : d/c=1
  ·refine zae (decide_eq_false (by rw [w2,h1]; decide)) ?_
   conv=>whnf
   refine zaa ?_
   exact hq [] (by rw [if_pos h1])
  ·have hdc:=Nat.div_pos (Nat.le_of_dvd hd0 hdv) hcp
   refine zai (decide_eq_true (by rw [w2]; omega)) ?_
   conv=>whnf
   refine ⟨by omega,?_⟩
   conv=>whnf
   refine zac.fn (znG (d/c) hdc (Nat.lt_of_le_of_lt (Nat.div_le_self _ _) hd)) (congrArg (fun z=>[SV.o (.v (.int .i64 z))]) w2) ?_
   conv=>whnf
   refine zaa ?_
   exact hq _ (by rw [if_neg h1])
 ·have hpos : ¬n<0:=of_decide_eq_false hs
  obtain rfl : n=(a : Int):=by omega
  conv=>whnf
  by_cases h0 : a=0
  ·refine zai (beq_iff_eq.2 (show (a : Int)=0 by omega)) ?_
   conv=>whnf
   refine zaa ?_
   rw [h0,show ((0 : Nat) : Int)=0 from rfl,Rat.zero_mkRat,q0]
  have ha0 : 0<a:=by omega
  refine zae (beq_false_of_ne (show ¬(a : Int)=0 by omega)) ?_
  conv=>whnf
  refine zak (ι:=Nat×Nat) (fun ⟨c,e⟩=>⟨[(0,.o (.v (.int .i64 a))),(1,.o (.v (.int .i64 d))),(4,.o (.p 4 0)),(5,.o (.p 5 0)),(6,.o (.v (.int .i64 c))),(7,.o (.v (.int .i64 e)))],[(4,.box [.v (.bool false),.v (.string ⟨#[]⟩),.v (.string ⟨#[]⟩)] zaq),(5,.box [.v (.bool (decide ((a : Int)<0))),.v (.string ⟨#[]⟩),.v (.string ⟨#[]⟩)] zaq)],[]⟩)
   (fun ⟨c,e⟩=>Nat.gcd c e=Nat.gcd a d∧c<72057594037927936∧e<72057594037927936) (fun ⟨c,e⟩=>e) (a,d) ⟨rfl,hn,hd⟩ (SLe.id ⟨rfl,rfl,rfl,rfl,rfl,rfl,trivial⟩ ⟨⟨_,rfl,.refl _⟩,⟨_,rfl,.refl _⟩,trivial⟩ (fun R hR=>hR)) ?_
  rintro ⟨c,e⟩ ⟨hg,hc,he⟩
  conv=>whnf
  refine zah ?_ ?_
  ·intro h
   have he0 : 0<e:=by
    have : (e : Int)>0:=of_decide_eq_true h
    omega
   have hlt2 : c%e<e:=Nat.mod_lt _ he0
   conv=>whnf
   refine zaj.quiet (by kernel_rfl) ?_
   conv=>whnf
   refine ⟨by omega,?_⟩
   conv=>whnf
   exact ⟨(e,c%e),⟨by rw [←hg,Nat.gcd_comm c e,Nat.gcd_rec e c,Nat.gcd_comm],he,by omega⟩,hlt2,SLe.id ⟨rfl,rfl,rfl,rfl,rfl,rfl,trivial⟩ ⟨⟨_,rfl,.refl _⟩,⟨_,rfl,.refl _⟩,trivial⟩ (fun R hR=>hR)⟩
  intro h
  have he0 : e=0:=by
   have : ¬(e : Int)>0:=of_decide_eq_false h
   omega
  subst he0
  rw [Nat.gcd_zero_right] at hg
  rw [←hg] at hdv hda hq
  have w1 : IntKind.i64.wrap (Int.tdiv (a : Int) (c : Int))=((a/c : Nat) : Int):=by rw [zys]; exact zrG (Nat.lt_of_le_of_lt (Nat.div_le_self _ _) (by omega))
  have w2 : IntKind.i64.wrap (Int.tdiv (d : Int) (c : Int))=((d/c : Nat) : Int):=by rw [zys]; exact zrG (Nat.lt_of_le_of_lt (Nat.div_le_self _ _) (by omega))
  have hcp : 0<c:=Nat.pos_of_dvd_of_pos hdv hd0
  conv=>whnf
  refine ⟨by omega,?_⟩
  conv=>whnf
  refine zac.fn (znG (a/c) (Nat.div_pos (Nat.le_of_dvd ha0 hda) hcp) (Nat.lt_of_le_of_lt (Nat.div_le_self _ _) hn)) (congrArg (fun z=>[SV.o (.v (.int .i64 z))]) w1) ?_
  conv=>whnf
  refine ⟨by omega,?_⟩
  conv=>whnf
  by_cases h1 : d/c=1
  ·refine zae (decide_eq_false (by rw [w2,h1]; decide)) ?_
   conv=>whnf
   refine zaa ?_
   exact hq [] (by rw [if_pos h1])
  ·have hdc:=Nat.div_pos (Nat.le_of_dvd hd0 hdv) hcp
   refine zai (decide_eq_true (by rw [w2]; omega)) ?_
   conv=>whnf
   refine ⟨by omega,?_⟩
   conv=>whnf
   refine zac.fn (znG (d/c) hdc (Nat.lt_of_le_of_lt (Nat.div_le_self _ _) hd)) (congrArg (fun z=>[SV.o (.v (.int .i64 z))]) w2) ?_
   conv=>whnf
   refine zaa ?_
   exact hq _ (by rw [if_neg h1])
end Go.Sx
end
section
set_option maxRecDepth 10000
set_option maxHeartbeats 2000000
namespace Go.Sx
open Go Go.Proofs
theorem ztf (b : Bool) (l : List UInt8) (hl : l.length≤500000000) : Fn PP zbr [intV b (bs l),intV false ⟨#[]⟩] (zV (sg b (nat l))):=by
 have:=zBq b false l [] hl (by decide)
 rw [zgf,show sg false 0=0 from rfl,Int.add_zero] at this
 exact this
theorem zvD (x : Int) (hl : (bytes x.natAbs).length≤500000000) : Fn PP zbr [zV x,intV false ⟨#[]⟩] (zV x):=by
 have:=ztf (decide (x<0)) (bytes x.natAbs) hl
 rw [zal,sg_z] at this
 exact this
theorem zg6 (r : Raw) (hr : r.sm 500000000) : Fn PP zd6 [rawV r] (.tuple #[zV r.n,zV (r.d : Int)]):=by
 refine Fn.of zab mixed zis rfl rfl (Nat.le_of_ble_eq_true rfl) ?_
 intro w
 conv=>whnf
 refine zac.fn (ztf r.neg r.num hr.1) rfl ?_
 conv=>whnf
 refine zac.fn (ztf false r.den hr.2) rfl ?_
 rw [show sg r.neg (nat r.num)=r.n from rfl,show sg false (nat r.den)=((nat r.den : Nat) : Int) from rfl]
 conv=>whnf
 by_cases h0 : nat r.den=0
 ·have hd : r.d=1:=by unfold Raw.d dnm; rw [if_pos h0]
  rw [hd]
  refine zai ((zgv (nat r.den : Int)).trans (decide_eq_true (by omega))) ?_
  conv=>whnf
  refine zac.fn (r_Of 1 (by decide) (by decide)) rfl ?_
  conv=>whnf
  refine zaj.late [(2,2,[1])] (by kernel_rfl) ?_
  conv=>whnf
  exact zas rfl
 ·have hd : r.d=nat r.den:=by unfold Raw.d dnm; rw [if_neg h0]
  rw [hd]
  refine zae ((zgv (nat r.den : Int)).trans (decide_eq_false (by omega))) ?_
  conv=>whnf
  refine zaj.late [(2,2,[1])] (by kernel_rfl) ?_
  conv=>whnf
  exact zas rfl
theorem zxm (m : Nat) : (!((bs (bytes m)).toList==ByteArray.toList ⟨#[1]⟩))=decide (m≠1):=by
 have h1 : ByteArray.toList ⟨#[1]⟩=bytes 1:=by decide +kernel
 rw [zbn,h1]
 by_cases h : m=1
 ·subst h; simp
 ·have : ¬bytes m=bytes 1:=fun h2=>h (zsz h2)
  simp [h,this]
theorem znl (X : Int) (D : Nat) (hX : (bytes X.natAbs).length≤300000000) (hD : (bytes D).length≤300000000) (h0 : 0<D) : Fn PP zdO [zV X,zV (D : Int)] (qV (mkRat X D)):=by
 refine Fn.of zab mixed zgU rfl rfl (Nat.le_of_ble_eq_true rfl) ?_
 intro w
 conv=>whnf
 refine zaj.quiet (by kernel_rfl) ?_
 conv=>whnf
 refine zad.fn (zvD X (by omega)) rfl ?_
 conv=>whnf
 refine zad.fn (zvD (D : Int) (by rw [Int.natAbs_natCast]; omega)) rfl ?_
 conv=>whnf
 by_cases hx0 : X=0
 ·refine zai ((zgv X).trans (decide_eq_true hx0)) ?_
  conv=>whnf
  refine zaa ?_
  rw [hx0,Rat.zero_mkRat,q0]
 refine zae ((zgv X).trans (decide_eq_false hx0)) ?_
 conv=>whnf
 refine zac.fn (zBH X (D : Int) hX (by rw [Int.natAbs_natCast]; exact hD)) rfl ?_
 rw [Int.natAbs_natCast]
 obtain ⟨G,hG⟩ : ∃ G,G=Nat.gcd X.natAbs D:=⟨_,rfl⟩
 rw [←hG]
 have hGp : 0<G:=by rw [hG]; exact Nat.gcd_pos_of_pos_right _ h0
 have hGl : (bytes ((G : Int)).natAbs).length≤300000000:=by
  rw [Int.natAbs_natCast]
  exact Nat.le_trans (zbi (by rw [hG]; exact Nat.gcd_le_right _ h0)) hD
 conv=>whnf
 have d1:=zza X (G : Int) hX hGl
 rw [if_neg (by omega),show X.fdiv (G : Int)=(mkRat X D).num by rw [zzj h0,←hG]] at d1
 refine zac.fn d1 rfl ?_
 conv=>whnf
 have d2:=zza (D : Int) (G : Int) (by rw [Int.natAbs_natCast]; exact hD) hGl
 rw [if_neg (by omega),show (D : Int).fdiv (G : Int)=((mkRat X D).den : Int) by rw [zzr h0,←hG]] at d2
 refine zac.fn d2 rfl ?_
 conv=>whnf
 have hres : ∀ d : List UInt8,d=(if (mkRat X D).den=1 then [] else bytes (mkRat X D).den)→(Value.agg ⟨[.bool (decide ((mkRat X D).num<0)),.string (bs (bytes (mkRat X D).num.natAbs)),.string (bs d)]⟩)=qV (mkRat X D):=by
  intro d hd
  rw [hd]
  simp only [qV,rawV,Q,zey]
 by_cases h1 : (mkRat X D).den=1
 ·refine zae ((zxm _).trans (decide_eq_false (by rw [Int.natAbs_natCast]; omega))) ?_
  conv=>whnf
  refine zaa ?_
  exact hres [] (by rw [if_pos h1])
 ·refine zai ((zxm _).trans (decide_eq_true (by rw [Int.natAbs_natCast]; omega))) ?_
  conv=>whnf
  refine zaa ?_
  exact hres _ (by rw [if_neg h1,Int.natAbs_natCast])
end Go.Sx
end
