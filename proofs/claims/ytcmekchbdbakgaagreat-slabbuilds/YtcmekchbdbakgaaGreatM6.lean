/- A part of the proof of a law: the symbolic executor, contracts of functions of the program, plain laws. No conditions. -/
import Derived.Test.YtcmekchbdbakgaaGreatM5
import Derived.Test.YtcmekchbdbakgaaGreatM4
import Derived.Test.YtcmekchbdbakgaaGreatM3
import Derived.Shelf.SlSortCmp.NoneTotal
import Derived.Shelf.SlLaysF0
import Derived.Shelf.SlGeneric
import Derived.Test.YtcmekchbdbakgaaGreatProg
set_option linter.unusedVariables false
set_option linter.unusedSimpArgs false
set_option linter.unusedSectionVars false
section
set_option maxRecDepth 10000
set_option maxHeartbeats 2000000
namespace Go.Sx
open Go Go.Proofs
theorem zdj (r : Raw) : (r.little∧mach r=.tuple #[.int .i64 r.n,.int .i64 (r.d : Int),.bool true])∨mach r=.tuple #[.int .i64 0,.int .i64 0,.bool false]:=by
 by_cases h : r.num.length≤3∧r.den.length≤3
 ·exact .inl ⟨h,by rw [mach,if_pos h]⟩
 ·exact .inr (by rw [mach,if_neg h])
theorem Raw.big5 {r : Raw} (hr : r.sm KK) : r.sm 500000000:=⟨Nat.le_trans hr.1 (by decide),Nat.le_trans hr.2 (by decide)⟩
theorem little_n {r : Raw} (h : r.little) : r.n.natAbs<16777216:=Raw.n_bound (k:=3) h.1
theorem little_d {r : Raw} (h : r.little) : r.d<16777216:=Raw.d_bound (k:=3) (by decide) h.2
theorem mulN {a b : Int} (ha : a.natAbs<16777216) (hb : b.natAbs<16777216) : (a*b).natAbs<281474976710656:=by
 have:=zbT (k:=3) (m:=3) (by simpa using ha) (by simpa using hb)
 rw [Int.natAbs_mul]; simpa using this
theorem zAm {a b : Nat} (ha : a<16777216) (hb : b<16777216) : a*b<281474976710656:=by
 have:=zbT (k:=3) (m:=3) (a:=a) (b:=b) (by simpa using ha) (by simpa using hb)
 simpa using this
theorem zuk (r : Raw) (hr : r.sm KK) : Fn PP zdD [rawV r] (qV r.v):=by
 refine Fn.of zab mixed zhe rfl rfl (Nat.le_of_ble_eq_true rfl) ?_
 intro w
 conv=>whnf
 refine zac.fn (zdt r) rfl ?_
 rcases zdj r with ⟨hl,hm⟩ | hm
 ·have h1:=little_n hl
  have h2:=little_d hl
  rw [hm]
  conv=>whnf
  refine zac.fn (zv7 r.n r.d (by omega) r.d_pos (by omega)) rfl ?_
  conv=>whnf
  exact zaa rfl
 ·rw [hm]
  conv=>whnf
  refine zac.fn (zg6 r (Raw.big5 hr)) rfl ?_
  conv=>whnf
  refine zac.fn (znl r.n r.d (Nat.le_trans (zit (zda hr)) (by decide)) (by have:=zit (zdK hr); rw [zl,Int.natAbs_natCast] at this; exact Nat.le_trans this (by decide)) r.d_pos) rfl ?_
  conv=>whnf
  exact zaa rfl
theorem zA6 (n : Int) (h1 : -9223372036854775808≤n) (h2 : n≤9223372036854775807) : Fn PP zfH [.int .i64 n] (qV (n : Rat)):=by
 refine Fn.of zab mixed zly rfl rfl (Nat.le_of_ble_eq_true rfl) ?_
 intro w
 conv=>whnf
 refine zac.fn (r_Of n h1 h2) rfl ?_
 conv=>whnf
 refine zac.fn (r_Of 1 (by decide) (by decide)) rfl ?_
 conv=>whnf
 refine zac.fn (znl n 1 (Nat.le_trans (za8 (k:=8) (by omega)) (by decide)) (by decide +kernel) (by decide)) rfl ?_
 conv=>whnf
 refine zaa ?_
 rw [zy9]
theorem zuO (r : Raw) (hr : r.sm KK) : Fn PP zfh [rawV r] (qV (-r.v)):=by
 refine Fn.of zab mixed zka rfl rfl (Nat.le_of_ble_eq_true rfl) ?_
 intro w
 conv=>whnf
 refine zac.fn (zuk r.opp (Raw.opp_sm hr)) rfl ?_
 conv=>whnf
 refine zaa ?_
 rw [Raw.opp_v]
theorem zBr {r s : Raw} (hr : r.sm KK) (hs : s.sm KK) : (bytes (r.d*s.d)).length≤300000000:=by
 have:=zit (zc8 (zdK hr) (zdK hs))
 rw [zl,dnat] at this
 exact Nat.le_trans this (by decide)
theorem z1 {x : Int} {k : Nat} (h : x.natAbs<256 ^ k) (m : Nat) (hk : k≤m) : (bytes x.natAbs).length≤m:=Nat.le_trans (zit h) hk
theorem zuA (r s : Raw) (hr : r.sm KK) (hs : s.sm KK) : Fn PP zfc [rawV r,rawV s] (qV (r.v+s.v)):=by
 refine Fn.of zab mixed zk9 rfl rfl (Nat.le_of_ble_eq_true rfl) ?_
 intro w
 have b1:=zc8 (zda hr) (zdK hs)
 have b2:=zc8 (zda hs) (zdK hr)
 have b3:=ztM b1 b2
 have b5:=zc8 (zda hr) (zda hs)
 have q1:=zda hr
 have q2:=zdK hr
 have q3:=zda hs
 have q4:=zdK hs
 conv=>whnf
 refine zac.fn (zdt r) rfl ?_
 have hc : (r.little∧s.little∧mach r=.tuple #[.int .i64 r.n,.int .i64 (r.d : Int),.bool true]∧mach s=.tuple #[.int .i64 s.n,.int .i64 (s.d : Int),.bool true])∨(∃ x y,mach r=.tuple #[.int .i64 x,.int .i64 y,.bool true]∧mach s=.tuple #[.int .i64 0,.int .i64 0,.bool false])∨(∃ x y b,mach r=.tuple #[.int .i64 0,.int .i64 0,.bool false]∧mach s=.tuple #[.int .i64 x,.int .i64 y,.bool b]):=by
   rcases zdj r with ⟨h1,h2⟩ | h2 <;> rcases zdj s with ⟨h3,h4⟩ | h4
   · exact .inl ⟨h1,h3,h2,h4⟩
   · exact .inr (.inl ⟨_,_,h2,h4⟩)
   · exact .inr (.inr ⟨_,_,_,h2,h4⟩)
   · exact .inr (.inr ⟨_,_,_,h2,h4⟩)
 rcases hc with ⟨l1,l2,m1,m2⟩ | hc
 · have e1:=little_n l1
   have e2:=little_d l1
   have e3:=little_n l2
   have e4:=little_d l2
   have g1:=mulN e1 (b:=(s.d : Int)) (by omega)
   have g2:=mulN e3 (b:=(r.d : Int)) (by omega)
   have g3:=zAm e2 e4
   have g4:=mulN e1 e3
   have w1 : IntKind.i64.wrap (r.n*(s.d : Int))=r.n*(s.d : Int):=wrap_i64 (by omega) (by omega)
   have w2 : IntKind.i64.wrap (s.n*(r.d : Int))=s.n*(r.d : Int):=wrap_i64 (by omega) (by omega)
   have w3 : IntKind.i64.wrap ((r.d : Int)*(s.d : Int))=((r.d*s.d : Nat) : Int):=by rw [Int.natCast_mul]; rw [←Int.natCast_mul]; exact zrG (by omega)
   have w4 : IntKind.i64.wrap (r.n*s.n)=r.n*s.n:=wrap_i64 (by omega) (by omega)
   have w5 : IntKind.i64.wrap (r.n*(s.d : Int)+s.n*(r.d : Int))=r.n*(s.d : Int)+s.n*(r.d : Int):=wrap_i64 (by omega) (by omega)
   rw [m1]
   conv=>whnf
   refine zac.fn (zdt s) rfl ?_
   rw [m2]
   conv=>whnf
   refine zac.fn (zv7 (r.n*(s.d : Int)+s.n*(r.d : Int)) (r.d*s.d) (by omega) (Nat.mul_pos r.d_pos s.d_pos) (by omega)) (by
     show [SV.o (.v (.int .i64 (IntKind.i64.wrap (IntKind.i64.wrap (r.n*(s.d : Int))+IntKind.i64.wrap (s.n*(r.d : Int)))))),SV.o (.v (.int .i64 (IntKind.i64.wrap ((r.d : Int)*(s.d : Int)))))]=_
     rw [w1,w2,w3,w5]; rfl) ?_
   conv=>whnf
   refine zaa ?_
   rw [Raw.v,Raw.v,Rat.mkRat_add_mkRat _ _ r.d_ne s.d_ne]
 rcases hc with ⟨x,y,m1,m2⟩ | ⟨x,y,b,m1,m2⟩
 all_goals
   rw [m1]
   conv=>whnf
   refine zac.fn (zdt s) rfl ?_
   rw [m2]
   conv=>whnf
   refine zac.fn (zg6 r (Raw.big5 hr)) rfl ?_
   conv=>whnf
   refine zac.fn (zg6 s (Raw.big5 hs)) rfl ?_
   conv=>whnf
   refine zaj.quiet (by kernel_rfl) ?_
   conv=>whnf
   refine zad.fn (zoe r.n s.d (z1 q1 _ (by decide)) (z1 q4 _ (by decide))) rfl ?_
   conv=>whnf
   refine zad.fn (zoe s.n r.d (z1 q3 _ (by decide)) (z1 q2 _ (by decide))) rfl ?_
   conv=>whnf
   refine zad.fn (zzm (r.n*s.d) (s.n*r.d) (z1 b1 _ (by decide)) (z1 b2 _ (by decide))) rfl ?_
   conv=>whnf
   refine zad.fn (zoe r.d s.d (z1 q2 _ (by decide)) (z1 q4 _ (by decide))) rfl ?_
   rw [←Int.natCast_mul]
   conv=>whnf
   refine zad.fn (znl (r.n*s.d+s.n*r.d) (r.d*s.d) (z1 b3 _ (by decide)) (zBr hr hs) (Nat.mul_pos r.d_pos s.d_pos)) rfl ?_
   conv=>whnf
   refine zaa ?_
   rw [Raw.v,Raw.v,Rat.mkRat_add_mkRat _ _ r.d_ne s.d_ne]
theorem zsX (r s : Raw) (hr : r.sm KK) (hs : s.sm KK) : Fn PP ze6 [rawV r,rawV s] (qV (r.v*s.v)):=by
 refine Fn.of zab mixed zlq rfl rfl (Nat.le_of_ble_eq_true rfl) ?_
 intro w
 have b1:=zc8 (zda hr) (zdK hs)
 have b2:=zc8 (zda hs) (zdK hr)
 have b3:=ztM b1 b2
 have b5:=zc8 (zda hr) (zda hs)
 have q1:=zda hr
 have q2:=zdK hr
 have q3:=zda hs
 have q4:=zdK hs
 conv=>whnf
 refine zac.fn (zdt r) rfl ?_
 have hc : (r.little∧s.little∧mach r=.tuple #[.int .i64 r.n,.int .i64 (r.d : Int),.bool true]∧mach s=.tuple #[.int .i64 s.n,.int .i64 (s.d : Int),.bool true])∨(∃ x y,mach r=.tuple #[.int .i64 x,.int .i64 y,.bool true]∧mach s=.tuple #[.int .i64 0,.int .i64 0,.bool false])∨(∃ x y b,mach r=.tuple #[.int .i64 0,.int .i64 0,.bool false]∧mach s=.tuple #[.int .i64 x,.int .i64 y,.bool b]):=by
   rcases zdj r with ⟨h1,h2⟩ | h2 <;> rcases zdj s with ⟨h3,h4⟩ | h4
   · exact .inl ⟨h1,h3,h2,h4⟩
   · exact .inr (.inl ⟨_,_,h2,h4⟩)
   · exact .inr (.inr ⟨_,_,_,h2,h4⟩)
   · exact .inr (.inr ⟨_,_,_,h2,h4⟩)
 rcases hc with ⟨l1,l2,m1,m2⟩ | hc
 · have e1:=little_n l1
   have e2:=little_d l1
   have e3:=little_n l2
   have e4:=little_d l2
   have g1:=mulN e1 (b:=(s.d : Int)) (by omega)
   have g2:=mulN e3 (b:=(r.d : Int)) (by omega)
   have g3:=zAm e2 e4
   have g4:=mulN e1 e3
   have w1 : IntKind.i64.wrap (r.n*(s.d : Int))=r.n*(s.d : Int):=wrap_i64 (by omega) (by omega)
   have w2 : IntKind.i64.wrap (s.n*(r.d : Int))=s.n*(r.d : Int):=wrap_i64 (by omega) (by omega)
   have w3 : IntKind.i64.wrap ((r.d : Int)*(s.d : Int))=((r.d*s.d : Nat) : Int):=by rw [Int.natCast_mul]; rw [←Int.natCast_mul]; exact zrG (by omega)
   have w4 : IntKind.i64.wrap (r.n*s.n)=r.n*s.n:=wrap_i64 (by omega) (by omega)
   have w5 : IntKind.i64.wrap (r.n*(s.d : Int)+s.n*(r.d : Int))=r.n*(s.d : Int)+s.n*(r.d : Int):=wrap_i64 (by omega) (by omega)
   rw [m1]
   conv=>whnf
   refine zac.fn (zdt s) rfl ?_
   rw [m2]
   conv=>whnf
   refine zac.fn (zv7 (r.n*s.n) (r.d*s.d) (by omega) (Nat.mul_pos r.d_pos s.d_pos) (by omega)) (by
     show [SV.o (.v (.int .i64 (IntKind.i64.wrap (r.n*s.n)))),SV.o (.v (.int .i64 (IntKind.i64.wrap ((r.d : Int)*(s.d : Int)))))]=_
     rw [w4,w3]; rfl) ?_
   conv=>whnf
   refine zaa ?_
   rw [Raw.v,Raw.v,Rat.mkRat_mul_mkRat]
 rcases hc with ⟨x,y,m1,m2⟩ | ⟨x,y,b,m1,m2⟩
 all_goals
   rw [m1]
   conv=>whnf
   refine zac.fn (zdt s) rfl ?_
   rw [m2]
   conv=>whnf
   refine zac.fn (zg6 r (Raw.big5 hr)) rfl ?_
   conv=>whnf
   refine zac.fn (zg6 s (Raw.big5 hs)) rfl ?_
   conv=>whnf
   refine zaj.quiet (by kernel_rfl) ?_
   conv=>whnf
   refine zad.fn (zoe r.n s.n (z1 q1 _ (by decide)) (z1 q3 _ (by decide))) rfl ?_
   conv=>whnf
   refine zad.fn (zoe r.d s.d (z1 q2 _ (by decide)) (z1 q4 _ (by decide))) rfl ?_
   rw [←Int.natCast_mul]
   conv=>whnf
   refine zad.fn (znl (r.n*s.n) (r.d*s.d) (z1 b5 _ (by decide)) (zBr hr hs) (Nat.mul_pos r.d_pos s.d_pos)) rfl ?_
   conv=>whnf
   refine zaa ?_
   rw [Raw.v,Raw.v,Rat.mkRat_mul_mkRat]
theorem zaX (r s : Raw) (hr : r.sm KK) (hs : s.sm KK) : Fn PP zdd [rawV r,rawV s] (.int .i64 (cmpQ r.v s.v)):=by
 refine Fn.of zab mixed zgz rfl rfl (Nat.le_of_ble_eq_true rfl) ?_
 intro w
 have b1:=zc8 (zda hr) (zdK hs)
 have b2:=zc8 (zda hs) (zdK hr)
 have b3:=ztM b1 b2
 have b5:=zc8 (zda hr) (zda hs)
 have q1:=zda hr
 have q2:=zdK hr
 have q3:=zda hs
 have q4:=zdK hs
 conv=>whnf
 refine zac.fn (zdt r) rfl ?_
 have hc : (r.little∧s.little∧mach r=.tuple #[.int .i64 r.n,.int .i64 (r.d : Int),.bool true]∧mach s=.tuple #[.int .i64 s.n,.int .i64 (s.d : Int),.bool true])∨(∃ x y,mach r=.tuple #[.int .i64 x,.int .i64 y,.bool true]∧mach s=.tuple #[.int .i64 0,.int .i64 0,.bool false])∨(∃ x y b,mach r=.tuple #[.int .i64 0,.int .i64 0,.bool false]∧mach s=.tuple #[.int .i64 x,.int .i64 y,.bool b]):=by
  rcases zdj r with ⟨h1,h2⟩ | h2 <;> rcases zdj s with ⟨h3,h4⟩ | h4
  ·exact .inl ⟨h1,h3,h2,h4⟩
  ·exact .inr (.inl ⟨_,_,h2,h4⟩)
  ·exact .inr (.inr ⟨_,_,_,h2,h4⟩)
  ·exact .inr (.inr ⟨_,_,_,h2,h4⟩)
 rcases hc with ⟨l1,l2,m1,m2⟩ | hc
 ·have e1:=little_n l1
  have e2:=little_d l1
  have e3:=little_n l2
  have e4:=little_d l2
  have g1:=mulN e1 (b:=(s.d : Int)) (by omega)
  have g2:=mulN e3 (b:=(r.d : Int)) (by omega)
  have g3:=zAm e2 e4
  have g4:=mulN e1 e3
  have w1 : IntKind.i64.wrap (r.n*(s.d : Int))=r.n*(s.d : Int):=wrap_i64 (by omega) (by omega)
  have w2 : IntKind.i64.wrap (s.n*(r.d : Int))=s.n*(r.d : Int):=wrap_i64 (by omega) (by omega)
  have w3 : IntKind.i64.wrap ((r.d : Int)*(s.d : Int))=((r.d*s.d : Nat) : Int):=by rw [Int.natCast_mul]; rw [←Int.natCast_mul]; exact zrG (by omega)
  have w4 : IntKind.i64.wrap (r.n*s.n)=r.n*s.n:=wrap_i64 (by omega) (by omega)
  have w5 : IntKind.i64.wrap (r.n*(s.d : Int)+s.n*(r.d : Int))=r.n*(s.d : Int)+s.n*(r.d : Int):=wrap_i64 (by omega) (by omega)
  rw [m1]
  conv=>whnf
  refine zac.fn (zdt s) rfl ?_
  rw [m2]
  conv=>whnf
  rw [zkZ]
  rcases Int.lt_trichotomy (r.n*(s.d : Int)) (s.n*(r.d : Int)) with h | h | h
  ·refine zai (decide_eq_true (by rw [w1,w2]; exact h)) ?_
   conv=>whnf
   refine zaa ?_
   rw [zma h]
  ·refine zae (decide_eq_false (by rw [w1,w2]; omega)) ?_
   conv=>whnf
   refine zae (decide_eq_false (by rw [w1,w2]; omega)) ?_
   conv=>whnf
   refine zaa ?_
   rw [zoI.2 h]
  ·refine zae (decide_eq_false (by rw [w1,w2]; omega)) ?_
   conv=>whnf
   refine zai (decide_eq_true (by rw [w1,w2]; omega)) ?_
   conv=>whnf
   refine zaa ?_
   rw [zlv h]
 rcases hc with ⟨x,y,m1,m2⟩ | ⟨x,y,b,m1,m2⟩
 all_goals
  rw [m1]
  conv=>whnf
  refine zac.fn (zdt s) rfl ?_
  rw [m2]
  conv=>whnf
  refine zac.fn (zg6 r (Raw.big5 hr)) rfl ?_
  conv=>whnf
  refine zac.fn (zg6 s (Raw.big5 hs)) rfl ?_
  conv=>whnf
  refine zaj.quiet (by kernel_rfl) ?_
  conv=>whnf
  refine zad.fn (zoe r.n s.d (z1 q1 _ (by decide)) (z1 q4 _ (by decide))) rfl ?_
  conv=>whnf
  refine zad.fn (zoe s.n r.d (z1 q3 _ (by decide)) (z1 q2 _ (by decide))) rfl ?_
  conv=>whnf
  refine zad.fn (zvm (r.n*s.d) (s.n*r.d)) rfl ?_
  conv=>whnf
  refine zaa ?_
  rw [zkZ]
theorem zkV (r s : Raw) (hr : r.sm KK) (hs : s.sm KK) : Fn PP zfi [rawV r,rawV s] (qV (r.v-s.v)):=by
 refine Fn.of zab mixed zkk rfl rfl (Nat.le_of_ble_eq_true rfl) ?_
 intro w
 conv=>whnf
 refine zac.fn (zuA r s.opp hr (Raw.opp_sm hs)) rfl ?_
 conv=>whnf
 refine zaa ?_
 rw [Raw.opp_v,Rat.sub_eq_add_neg]
theorem znH (r : Raw) (hr : r.sm KK) : Fn PP zeO [rawV r] (.int .i64 (cmpQ r.v 0)):=by
 refine Fn.of zab mixed zjK rfl rfl (Nat.le_of_ble_eq_true rfl) ?_
 intro w
 conv=>whnf
 refine zac.fn (zaX r ⟨false,[],[]⟩ hr ⟨by decide,by decide⟩) rfl ?_
 rw [Raw.zero_v]
 conv=>whnf
 exact zaa rfl
end Go.Sx
end
section
set_option maxRecDepth 10000
set_option maxHeartbeats 2000000
namespace Go.Sx
open Go Go.Proofs
theorem zBs {n : Int} (h : n≠0) (d : Nat) (hd : 0<d) : mkRat (sg (decide (n<0)) d) n.natAbs=(mkRat n d)⁻¹:=by
 rw [←Rat.divInt_ofNat,←Rat.divInt_ofNat,Rat.inv_divInt]
 rcases Int.lt_or_le n 0 with h1 | h1
 ·rw [decide_eq_true h1,show ((n.natAbs : Nat) : Int)=-n by omega]
  show Rat.divInt (-(d : Int)) (-n)=_
  exact Rat.neg_divInt_neg _ _
 ·rw [decide_eq_false (by omega),show ((n.natAbs : Nat) : Int)=n by omega]; rfl
theorem zrk (r s : Raw) (hr : r.sm KK) (hs : s.sm KK) : Fn PP zfb [rawV r,rawV s] (quoV r.v s.v):=by
 refine Fn.of zab mixed zkf rfl rfl (Nat.le_of_ble_eq_true rfl) ?_
 intro w
 have q3:=zda hs
 have q4:=zdK hs
 conv=>whnf
 refine zac.fn (zg6 s (Raw.big5 hs)) rfl ?_
 conv=>whnf
 by_cases h : s.n=0
 ·refine zai ((zgv s.n).trans (decide_eq_true h)) ?_
  conv=>whnf
  refine zas ?_
  rw [quoV,if_pos ((zqz s).2 h),q0]
 ·refine zae ((zgv s.n).trans (decide_eq_false h)) ?_
  conv=>whnf
  have hin : (⟨decide (s.n<0),bytes (s.d : Int).natAbs,bytes s.n.natAbs⟩ : Raw).v=s.v⁻¹:=by
   have e1 : (⟨decide (s.n<0),bytes (s.d : Int).natAbs,bytes s.n.natAbs⟩ : Raw).n=sg (decide (s.n<0)) s.d:=by
    show sg _ (nat (bytes (s.d : Int).natAbs))=_
    rw [zal,Int.natAbs_natCast]
   have e2 : (⟨decide (s.n<0),bytes (s.d : Int).natAbs,bytes s.n.natAbs⟩ : Raw).d=s.n.natAbs:=by
    show dnm (nat (bytes s.n.natAbs))=_
    rw [zal,dnm,if_neg (by omega)]
   rw [Raw.v,e1,e2,zBs h s.d s.d_pos]; rfl
  refine zac.fn (zsX r ⟨decide (s.n<0),bytes (s.d : Int).natAbs,bytes s.n.natAbs⟩ hr ⟨zit q4,zit q3⟩) rfl ?_
  rw [hin,←Rat.div_def]
  conv=>whnf
  refine zas ?_
  rw [quoV,if_neg (fun h2=>h ((zqz s).1 h2))]
theorem neqR (r s : Raw) : (!(r.neg==s.neg&&((bs r.num).toList==(bs s.num).toList&&((bs r.den).toList==(bs s.den).toList&&true))))=decide (r≠s):=by
 rw [eqR]; by_cases h : r=s <;> simp [h]
theorem zuu (r : Raw) (hr : r.sm KK) : Fn PP zdZ [rawV r] (zgp r):=by
 refine Fn.of zab mixed ziV rfl rfl (Nat.le_of_ble_eq_true rfl) ?_
 intro w
 conv=>whnf
 refine zaj.quiet (by kernel_rfl) ?_
 conv=>whnf
 refine zad.fn (zuk r hr) rfl ?_
 conv=>whnf
 by_cases h : r.ok
 ·refine zae ((neqR (Q r.v) r).trans (decide_eq_false (fun h2=>h2 h.symm))) ?_
  conv=>whnf
  exact zaa (by rw [zgp,if_pos h])
 ·refine zai ((neqR (Q r.v) r).trans (decide_eq_true (fun h2=>h h2.symm))) ?_
  conv=>whnf
  exact zaa (by rw [zgp,if_neg h])
theorem zh5 (p : Pt) (hp : p.sm KK) : Fn PP zd2 [pV p] (.int .i64 (if p.ok then 0 else 1)):=by
 refine Fn.of zab mixed zio rfl rfl (Nat.le_of_ble_eq_true rfl) ?_
 intro w
 conv=>whnf
 refine zac.fn (zuu p.x hp.1) rfl ?_
 by_cases h1 : p.x.ok
 ·rw [zgp,if_pos h1]
  conv=>whnf
  refine zac.fn (zuu p.y hp.2) rfl ?_
  by_cases h2 : p.y.ok
  ·rw [zgp,if_pos h2]
   conv=>whnf
   exact zaa (by rw [if_pos (show p.ok from ⟨h1,h2⟩)])
  ·rw [zgp,if_neg h2]
   conv=>whnf
   exact zaa (by rw [if_neg (show ¬p.ok from fun h=>h2 h.2)])
 ·rw [zgp,if_neg h1]
  conv=>whnf
  exact zaa (by rw [if_neg (show ¬p.ok from fun h=>h1 h.1)])
theorem zdo (p q : Pt) (hp : p.sm KK) (hq : q.sm KK) : Fn PP zdf [pV p,pV q] (.int .i64 (cmpV p.v q.v)):=by
 refine Fn.of zab mixed zgR rfl rfl (Nat.le_of_ble_eq_true rfl) ?_
 intro w
 conv=>whnf
 refine zac.fn (zaX p.x q.x hp.1 hq.1) rfl ?_
 conv=>whnf
 refine zah ?_ ?_
 ·intro h
  have h1 : cmpQ p.x.v q.x.v≠0:=by intro h2; rw [h2] at h; exact absurd h (by decide)
  conv=>whnf
  refine zaa ?_
  rw [cmpV,if_pos (show cmpQ p.v.x q.v.x≠0 from h1)]; rfl
 ·intro h
  have h1 : cmpQ p.x.v q.x.v=0:=by simpa using h
  conv=>whnf
  refine zac.fn (zaX p.y q.y hp.2 hq.2) rfl ?_
  conv=>whnf
  refine zaa ?_
  rw [cmpV,if_neg (show ¬cmpQ p.v.x q.v.x≠0 from fun h=>h h1)]; rfl
theorem zv4 (p q : Pt) (hp : p.sm KK) (hq : q.sm KK) : Fn PP ze1 [pV p,pV q] (pV (PQ (p.v+q.v))):=by
 refine Fn.of zab mixed zj6 rfl rfl (Nat.le_of_ble_eq_true rfl) ?_
 intro w
 conv=>whnf
 refine zaj.quiet (by kernel_rfl) ?_
 conv=>whnf
 refine zad.fn (zuA p.x q.x hp.1 hq.1) rfl ?_
 conv=>whnf
 refine zad.fn (zuA p.y q.y hp.2 hq.2) rfl ?_
 conv=>whnf
 exact zaa rfl
theorem zoO (p q : Pt) (hp : p.sm KK) (hq : q.sm KK) : Fn PP ze2 [pV p,pV q] (pV (PQ (p.v-q.v))):=by
 refine Fn.of zab mixed zkl rfl rfl (Nat.le_of_ble_eq_true rfl) ?_
 intro w
 conv=>whnf
 refine zaj.quiet (by kernel_rfl) ?_
 conv=>whnf
 refine zad.fn (zkV p.x q.x hp.1 hq.1) rfl ?_
 conv=>whnf
 refine zad.fn (zkV p.y q.y hp.2 hq.2) rfl ?_
 conv=>whnf
 exact zaa rfl
theorem zup (p : Pt) (t : Raw) (hp : p.sm KK) (ht : t.sm KK) : Fn PP zef [pV p,rawV t] (pV (PQ (p.v.scale t.v))):=by
 refine Fn.of zab mixed ziU rfl rfl (Nat.le_of_ble_eq_true rfl) ?_
 intro w
 conv=>whnf
 refine zaj.quiet (by kernel_rfl) ?_
 conv=>whnf
 refine zad.fn (zsX p.x t hp.1 ht) rfl ?_
 conv=>whnf
 refine zad.fn (zsX p.y t hp.2 ht) rfl ?_
 conv=>whnf
 exact zaa rfl
theorem zq1 (p q : Pt) (hp : p.sm (10*KV)) (hq : q.sm (10*KV)) : Fn PP zd8 [pV p,pV q] (qV (p.v.cross q.v)):=by
 have zp:=hp.sz (by decide)
 have zq:=hq.sz (by decide)
 refine Fn.of zab mixed ziX rfl rfl (Nat.le_of_ble_eq_true rfl) ?_
 intro w
 conv=>whnf
 refine zaj.quiet (by kernel_rfl) ?_
 conv=>whnf
 refine zad.fn (zsX p.x q.y (hp.1.le (by decide)) (hq.2.le (by decide))) rfl ?_
 conv=>whnf
 refine zad.fn (zsX p.y q.x (hp.2.le (by decide)) (hq.1.le (by decide))) rfl ?_
 conv=>whnf
 refine zad.fn (zkV (Q (p.x.v*q.y.v)) (Q (p.y.v*q.x.v)) ((zp.1.mul zq.2).q.le (by decide)) ((zp.2.mul zq.1).q.le (by decide))) rfl ?_
 conv=>whnf
 refine zaa ?_
 rw [Q_v,Q_v]; rfl
theorem zAN (p q : Pt) (t : Raw) (hp : p.sm (10*KV)) (hq : q.sm (10*KV)) (ht : t.sm (30*KV)) : Fn PP zfz [pV p,pV q,rawV t] (pV (PQ (p.v.at q.v t.v))):=by
 have zp:=hp.sz (by decide)
 have zq:=hq.sz (by decide)
 have zt:=Raw.sz (r:=t) (k:=30*KV) (by decide) ht.1 ht.2
 refine Fn.of zab mixed zls rfl rfl (Nat.le_of_ble_eq_true rfl) ?_
 intro w
 conv=>whnf
 refine zaj.quiet (by kernel_rfl) ?_
 conv=>whnf
 refine zad.fn (zoO q p (hq.le (by decide)) (hp.le (by decide))) rfl ?_
 conv=>whnf
 refine zad.fn (zup (PQ (q.v-p.v)) t ((zq.sub zp).q.le (by decide)) (ht.le (by decide))) rfl ?_
 rw [PQ_v]
 conv=>whnf
 refine zad.fn (zv4 p (PQ ((q.v-p.v).scale t.v)) (hp.le (by decide)) (((zq.sub zp).scale zt).q.le (by decide))) rfl ?_
 rw [PQ_v]
 conv=>whnf
 exact zaa rfl
theorem zx8 (a b c : Pt) (ha : a.sm (4*KV)) (hb : b.sm (4*KV)) (hc : c.sm (4*KV)) : Fn PP zdH [pV a,pV b,pV c] (.int .i64 (cmpQ ((b.v-a.v).cross (c.v-a.v)) 0)):=by
 have za:=ha.sz (by decide)
 have zb:=hb.sz (by decide)
 have zc:=hc.sz (by decide)
 refine Fn.of zab mixed zhN rfl rfl (Nat.le_of_ble_eq_true rfl) ?_
 intro w
 conv=>whnf
 refine zaj.quiet (by kernel_rfl) ?_
 conv=>whnf
 refine zad.fn (zoO b a (hb.le (by decide)) (ha.le (by decide))) rfl ?_
 conv=>whnf
 refine zad.fn (zoO c a (hc.le (by decide)) (ha.le (by decide))) rfl ?_
 conv=>whnf
 refine zad.fn (zq1 (PQ (b.v-a.v)) (PQ (c.v-a.v)) ((zb.sub za).q.le (by decide)) ((zc.sub za).q.le (by decide))) rfl ?_
 rw [PQ_v,PQ_v]
 conv=>whnf
 refine zad.fn (znH (Q ((b.v-a.v).cross (c.v-a.v))) (((zb.sub za).cross (zc.sub za)).q.le (by decide))) rfl ?_
 rw [Q_v]
 conv=>whnf
 exact zaa rfl
theorem zfj (p : Pt) (hp : p.sm KK) : Fn PP zcQ [pV p] (pV (PQ p.v)):=by
 refine Fn.of zab mixed zfK rfl rfl (Nat.le_of_ble_eq_true rfl) ?_
 intro w
 conv=>whnf
 refine zac.fn (zv4 p P0 hp (zA8 _)) rfl ?_
 conv=>whnf
 refine zaa ?_
 rw [P0_v,V.add_zero]
theorem znn (s : Sg) (hs : s.sm KS) : Fn PP zea [sV s] (.int .i64 (zdc s)):=by
 refine Fn.of zab mixed zih rfl rfl (Nat.le_of_ble_eq_true rfl) ?_
 intro w
 conv=>whnf
 refine zac.fn (zdo s.A s.B (hs.1.le (by decide)) (hs.2.le (by decide))) rfl ?_
 conv=>whnf
 refine zah ?_ ?_
 ·intro h
  have h1 : zb5 s:=by have : cmpV s.A.v s.B.v=0:=by simpa using h
                      exact this
  conv=>whnf
  refine zaa ?_
  rw [zdc,if_pos h1]
 ·intro h
  have h1 : ¬zb5 s:=by have : ¬cmpV s.A.v s.B.v=0:=by simpa using h
                       exact this
  conv=>whnf
  refine zaa ?_
  rw [zdc,if_neg h1]
theorem zv5 (p q : Pt) (hp : p.sm KK) (hq : q.sm KK) : Fn PP zde [pV p,pV q] (pV (gtP p q)):=by
 refine Fn.of zab mixed zgM rfl rfl (Nat.le_of_ble_eq_true rfl) ?_
 intro w
 conv=>whnf
 refine zac.fn (zdo p q hp hq) rfl ?_
 conv=>whnf
 refine zah ?_ ?_ <;> intro h
 ·conv=>whnf
  exact zaa (by rw [gtP,if_pos (of_decide_eq_true h)])
 ·conv=>whnf
  exact zaa (by rw [gtP,if_neg (of_decide_eq_false h)])
theorem zyn (p q : Pt) (hp : p.sm KK) (hq : q.sm KK) : Fn PP zdy [pV p,pV q] (pV (ltP p q)):=by
 refine Fn.of zab mixed zhA rfl rfl (Nat.le_of_ble_eq_true rfl) ?_
 intro w
 conv=>whnf
 refine zac.fn (zdo p q hp hq) rfl ?_
 conv=>whnf
 refine zah ?_ ?_ <;> intro h
 ·conv=>whnf
  exact zaa (by rw [ltP,if_pos (of_decide_eq_true h)])
 ·conv=>whnf
  exact zaa (by rw [ltP,if_neg (of_decide_eq_false h)])
theorem zqB (s : Sg) (hs : s.sm KV) : Fn PP zel [sV s] (sV ⟨PQ (ordV s.A.v s.B.v).1,PQ (ordV s.A.v s.B.v).2⟩):=by
 have za:=hs.1.sz (by decide)
 have zb:=hs.2.sz (by decide)
 refine Fn.of zab mixed zii rfl rfl (Nat.le_of_ble_eq_true rfl) ?_
 intro w
 conv=>whnf
 refine zac.fn (zdo s.A s.B (hs.1.le (by decide)) (hs.2.le (by decide))) rfl ?_
 conv=>whnf
 refine zah ?_ ?_ <;> intro h
 ·have h1 : cmpV s.A.v s.B.v>0:=of_decide_eq_true h
  conv=>whnf
  refine zaj.quiet (by kernel_rfl) ?_
  conv=>whnf
  refine zad.fn (zfj s.B (hs.2.le (by decide))) rfl ?_
  conv=>whnf
  refine zad.fn (zfj s.A (hs.1.le (by decide))) rfl ?_
  conv=>whnf
  exact zaa (by rw [ordV,if_pos h1])
 ·have h1 : ¬cmpV s.A.v s.B.v>0:=of_decide_eq_false h
  conv=>whnf
  refine zaj.quiet (by kernel_rfl) ?_
  conv=>whnf
  refine zad.fn (zfj s.A (hs.1.le (by decide))) rfl ?_
  conv=>whnf
  refine zad.fn (zfj s.B (hs.2.le (by decide))) rfl ?_
  conv=>whnf
  exact zaa (by rw [ordV,if_neg h1])
end Go.Sx
end
section
namespace Go.Sx
theorem zbg {x y : Rat} : cmpQ x y<0↔x<y:=by
 unfold cmpQ; split
 ·simp [*]
 ·split <;> simp [*]
theorem zbC {x y : Rat} : cmpQ x y>0↔y<x:=by
 unfold cmpQ; split
 ·rename_i h; simp; grind
 ·split <;> simp [*]
theorem zwc {x y : Rat} : cmpQ x y≤0↔x≤y:=by
 unfold cmpQ; split
 ·simp; grind
 ·split <;> simp <;> grind
theorem zwl {x y : Rat} : 0≤cmpQ x y↔y≤x:=by
 unfold cmpQ; split
 ·simp; grind
 ·split <;> simp <;> grind
theorem zbL {x y : Rat} : cmpQ x y=0↔x=y:=by
 unfold cmpQ; split
 ·simp; grind
 ·split <;> simp <;> grind
theorem zuD {x y : Rat} : cmpQ x y=1↔y<x:=by
 unfold cmpQ; split
 ·simp; grind
 ·split <;> simp [*]
theorem V.ext' {a b : V} (h1 : a.x=b.x) (h2 : a.y=b.y) : a=b:=by cases a; cases b; simp_all
@[simp] theorem V.scale_x (a : V) (t : Rat) : (a.scale t).x=a.x*t:=rfl
@[simp] theorem V.scale_y (a : V) (t : Rat) : (a.scale t).y=a.y*t:=rfl
@[simp] theorem V.at_x (a b : V) (t : Rat) : (a.at b t).x=a.x+(b.x-a.x)*t:=rfl
@[simp] theorem V.at_y (a b : V) (t : Rat) : (a.at b t).y=a.y+(b.y-a.y)*t:=rfl
theorem V.at_zero (a b : V) : a.at b 0=a:=V.ext' (by simp; grind) (by simp; grind)
theorem V.at_one (a b : V) : a.at b 1=b:=V.ext' (by simp; grind) (by simp; grind)
end Go.Sx
end
section
namespace Go.Sx
end Go.Sx
end
section
namespace Go.Sx
theorem zca {a b : V} : cmpV a b=0↔a=b:=by
 unfold cmpV
 constructor
 ·intro h
  split at h
  ·rename_i h2; exact absurd h h2
  ·rename_i h2
   rw [Decidable.not_not,zbL] at h2; rw [zbL] at h
   exact V.ext' h2 h
 ·rintro rfl
  have : ∀ x : Rat,cmpQ x x=0:=fun x=>zbL.2 rfl
  rw [this,this]; rfl
theorem zA1 {a b p : V} (hab : a≠b) (h : zAP a b p=true) : ∃ t,(0≤t∧t≤1)∧p=a.at b t:=by
 unfold zAP at h
 simp only [Bool.and_eq_true,decide_eq_true_eq,zbL] at h
 obtain ⟨hc,hm,_⟩:=h
 simp only [V.cross,V.sub_x,V.sub_y] at hc
 have sgn : ∀ x y : Rat,(cmpQ x y=-1∧x<y)∨(cmpQ x y=0∧x=y)∨(cmpQ x y=1∧y<x):=by
  intro x y; unfold cmpQ; split
  ·exact .inl ⟨rfl,by assumption⟩
  ·split
   ·exact .inr (.inr ⟨rfl,by assumption⟩)
   ·exact .inr (.inl ⟨rfl,by grind⟩)
 have div_unit : ∀ u v : Rat,v≠0→(0≤u∧u≤v∨v≤u∧u≤0)→0≤u/v∧u/v≤1:=by
  intro u v hv h
  have e : u/v*v=u:=Rat.div_mul_cancel hv
  generalize u/v=q at e ⊢
  constructor
  ·rcases Rat.le_total (a:=0) (b:=q) with h1 | h1
   ·exact h1
   ·rcases h with ⟨h2,h3⟩ | ⟨h2,h3⟩
    ·by_cases hq : q=0
     ·grind
     ·have:=Rat.mul_pos (show 0 < -q by grind) (show 0<v by grind); grind
    ·by_cases hq : q=0
     ·grind
     ·have:=Rat.mul_pos (show 0 < -q by grind) (show 0 < -v by grind); grind
  ·rcases Rat.le_total (a:=q) (b:=1) with h1 | h1
   ·exact h1
   ·rcases h with ⟨h2,h3⟩ | ⟨h2,h3⟩
    ·have:=Rat.mul_nonneg (show 0≤q-1 by grind) (show 0≤v by grind)
     have : (q-1)*v=0:=by grind
     by_cases hq : q=1
     ·grind
     ·have:=Rat.mul_pos (show 0<q-1 by grind) (show 0<v by grind); grind
    ·by_cases hq : q=1
     ·grind
     ·have:=Rat.mul_pos (show 0<q-1 by grind) (show 0 < -v by grind); grind
 by_cases hx : a.x=b.x
 ·have hy : a.y≠b.y:=fun h=>hab (V.ext' hx h)
  have hpx : p.x=a.x:=by
   have : (b.y-a.y)*(p.x-a.x)=0:=by grind
   rcases Rat.mul_eq_zero.1 this with h | h <;> grind
  have hu : 0≤p.y-a.y∧p.y-a.y≤b.y-a.y∨b.y-a.y≤p.y-a.y∧p.y-a.y≤0:=by
   have e1 : cmpV a p=cmpQ a.y p.y:=by unfold cmpV; rw [if_neg (by rw [Decidable.not_not,zbL]; grind)]
   have e2 : cmpV p b=cmpQ p.y b.y:=by unfold cmpV; rw [if_neg (by rw [Decidable.not_not,zbL]; grind)]
   rw [e1,e2] at hm
   rcases sgn a.y p.y with ⟨h1,h2⟩ | ⟨h1,h2⟩ | ⟨h1,h2⟩ <;> rcases sgn p.y b.y with ⟨h3,h4⟩ | ⟨h3,h4⟩ | ⟨h3,h4⟩ <;> rw [h1,h3] at hm <;> first | (exfalso; revert hm; decide) | grind
  obtain ⟨h1,h2⟩:=div_unit _ _ (show b.y-a.y≠0 by grind) hu
  refine ⟨_,⟨h1,h2⟩,V.ext' ?_ ?_⟩
  ·simp only [V.at_x]; grind
  ·simp only [V.at_y]
   have : (b.y-a.y)*((p.y-a.y)/(b.y-a.y))=p.y-a.y:=by rw [Rat.mul_comm,Rat.div_mul_cancel (by grind)]
   grind
 ·have hu : 0≤p.x-a.x∧p.x-a.x≤b.x-a.x∨b.x-a.x≤p.x-a.x∧p.x-a.x≤0:=by
   have key : ∀ u v : V,(cmpV u v=-1∧u.x≤v.x)∨cmpV u v=0∧u.x=v.x∨cmpV u v=1∧v.x≤u.x:=by
    intro u v; unfold cmpV
    rcases sgn u.x v.x with ⟨h1,h2⟩ | ⟨h1,h2⟩ | ⟨h1,h2⟩
    ·rw [h1]; exact .inl ⟨rfl,by grind⟩
    ·rw [h1]
     rcases sgn u.y v.y with ⟨h3,h4⟩ | ⟨h3,h4⟩ | ⟨h3,h4⟩
     ·exact .inl ⟨h3,by grind⟩
     ·exact .inr (.inl ⟨h3,h2⟩)
     ·exact .inr (.inr ⟨h3,by grind⟩)
    ·rw [h1]; exact .inr (.inr ⟨rfl,by grind⟩)
   rcases key a p with ⟨h1,h2⟩ | ⟨h1,h2⟩ | ⟨h1,h2⟩ <;> rcases key p b with ⟨h3,h4⟩ | ⟨h3,h4⟩ | ⟨h3,h4⟩ <;> rw [h1,h3] at hm <;> first | (exfalso; revert hm; decide) | grind
  obtain ⟨h1,h2⟩:=div_unit _ _ (show b.x-a.x≠0 by grind) hu
  have e : (b.x-a.x)*((p.x-a.x)/(b.x-a.x))=p.x-a.x:=by rw [Rat.mul_comm,Rat.div_mul_cancel (by grind)]
  refine ⟨_,⟨h1,h2⟩,V.ext' ?_ ?_⟩
  ·simp only [V.at_x]; grind
  ·simp only [V.at_y]
   generalize (p.x-a.x)/(b.x-a.x)=q at e
   have : (b.x-a.x)*(p.y-a.y-(b.y-a.y)*q)=0:=by grind
   rcases Rat.mul_eq_zero.1 this with h | h <;> grind
end Go.Sx
end
section
namespace Go.Sx
theorem zxb {a b t : Rat} (h0 : 0<t) : a<a+(b-a)*t↔a<b:=by
 constructor
 ·intro h
  rcases Rat.le_total (a:=b) (b:=a) with h1 | h1
  ·exfalso; have:=Rat.mul_nonneg (show 0≤a-b by grind) (show 0≤t by grind); grind
  ·by_cases he : a=b
   ·exfalso; rw [he] at h; grind
   ·grind
 ·intro h
  have:=Rat.mul_pos (show 0<b-a by grind) h0; grind
theorem zvB {a b t : Rat} (h0 : 0<t) : a+(b-a)*t<a↔b<a:=by
 constructor
 ·intro h
  rcases Rat.le_total (a:=a) (b:=b) with h1 | h1
  ·exfalso; have:=Rat.mul_nonneg (show 0≤b-a by grind) (show 0≤t by grind); grind
  ·by_cases he : a=b
   ·exfalso; rw [he] at h; grind
   ·grind
 ·intro h
  have:=Rat.mul_pos (show 0<a-b by grind) h0; grind
theorem ztF {a b t : Rat} (h0 : 0<t) : cmpQ a (a+(b-a)*t)=cmpQ a b:=by
 unfold cmpQ; simp only [zxb h0,zvB h0]
theorem zrT {a b t : Rat} (h1 : t<1) : cmpQ (a+(b-a)*t) b=cmpQ a b:=by
 have e : a+(b-a)*t=b+(a-b)*(1-t):=by grind
 have h0 : 0<1-t:=by grind
 rw [e]; unfold cmpQ; simp only [zxb h0,zvB h0]
theorem zvF {a b : V} {t : Rat} (h0 : 0<t) : cmpV a (a.at b t)=cmpV a b:=by
 unfold cmpV
 rw [show (a.at b t).x=a.x+(b.x-a.x)*t from rfl,show (a.at b t).y=a.y+(b.y-a.y)*t from rfl,ztF h0,ztF h0]
theorem zuV {a b : V} {t : Rat} (h1 : t<1) : cmpV (a.at b t) b=cmpV a b:=by
 unfold cmpV
 rw [show (a.at b t).x=a.x+(b.x-a.x)*t from rfl,show (a.at b t).y=a.y+(b.y-a.y)*t from rfl,zrT h1,zrT h1]
end Go.Sx
end
section
namespace Go.Sx
theorem ztW (x y : Rat) : (cmpQ x y=-1∧x<y)∨(cmpQ x y=0∧x=y)∨(cmpQ x y=1∧y<x):=by
 unfold cmpQ; split
 ·exact .inl ⟨rfl,by assumption⟩
 ·split
  ·exact .inr (.inr ⟨rfl,by assumption⟩)
  ·exact .inr (.inl ⟨rfl,by grind⟩)
def ltP2 (a b : V) : Prop:=a.x<b.x∨(a.x=b.x∧a.y<b.y)
theorem zkg (a b : V) : (cmpV a b=-1∧ltP2 a b)∨(cmpV a b=0∧a=b)∨(cmpV a b=1∧ltP2 b a):=by
 unfold cmpV ltP2
 rcases ztW a.x b.x with ⟨h1,h2⟩ | ⟨h1,h2⟩ | ⟨h1,h2⟩
 ·rw [h1,if_pos (by decide)]; exact .inl ⟨rfl,.inl h2⟩
 ·rw [h1,if_neg (by decide)]
  rcases ztW a.y b.y with ⟨h3,h4⟩ | ⟨h3,h4⟩ | ⟨h3,h4⟩
  ·exact .inl ⟨h3,.inr ⟨h2,h4⟩⟩
  ·exact .inr (.inl ⟨h3,V.ext' h2 h4⟩)
  ·exact .inr (.inr ⟨h3,.inr ⟨h2.symm,h4⟩⟩)
 ·rw [h1,if_pos (by decide)]; exact .inr (.inr ⟨rfl,.inl h2⟩)
theorem zcI {a : V} : ¬ltP2 a a:=by unfold ltP2; grind
theorem zeu {a b c : V} (h : ltP2 a b) (k : ltP2 b c) : ltP2 a c:=by unfold ltP2 at *; grind
theorem zpY {a b : V} : cmpV a b<0↔ltP2 a b:=by
 rcases zkg a b with ⟨h1,h2⟩ | ⟨h1,h2⟩ | ⟨h1,h2⟩
 ·rw [h1]; exact ⟨fun _=>h2,fun _=>by decide⟩
 ·rw [h1,h2]; exact ⟨fun h=>absurd h (by decide),fun h=>absurd h zcI⟩
 ·rw [h1]; exact ⟨fun h=>absurd h (by decide),fun h=>absurd (zeu h h2) zcI⟩
theorem zmg {a b : V} : cmpV a b>0↔ltP2 b a:=by
 rcases zkg a b with ⟨h1,h2⟩ | ⟨h1,h2⟩ | ⟨h1,h2⟩
 ·rw [h1]; exact ⟨fun h=>absurd h (by decide),fun h=>absurd (zeu h h2) zcI⟩
 ·rw [h1,h2]; exact ⟨fun h=>absurd h (by decide),fun h=>absurd h zcI⟩
 ·rw [h1]; exact ⟨fun _=>h2,fun _=>by decide⟩
theorem ztH (a b : V) : ltP2 a b∨a=b∨ltP2 b a:=by
 rcases zkg a b with ⟨h1,h2⟩ | ⟨h1,h2⟩ | ⟨h1,h2⟩
 ·exact .inl h2
 ·exact .inr (.inl h2)
 ·exact .inr (.inr h2)
theorem zyX (a b : V) : cmpV b a=-cmpV a b:=by
 rcases zkg a b with ⟨h1,h2⟩ | ⟨h1,h2⟩ | ⟨h1,h2⟩ <;> rcases zkg b a with ⟨h3,h4⟩ | ⟨h3,h4⟩ | ⟨h3,h4⟩
 ·exact absurd (zeu h2 h4) zcI
 ·rw [h4] at h2; exact absurd h2 zcI
 ·rw [h1,h3]; rfl
 ·rw [h2] at h4; exact absurd h4 zcI
 ·rw [h1,h3]; rfl
 ·rw [h2] at h4; exact absurd h4 zcI
 ·rw [h1,h3]
 ·rw [h4] at h2; exact absurd h2 zcI
 ·exact absurd (zeu h2 h4) zcI
def leP2 (a b : V) : Prop:=¬ltP2 b a
theorem zcZ (a : V) : leP2 a a:=zcI
theorem zf0 {a b c : V} (h : leP2 a b) (k : leP2 b c) : leP2 a c:=fun h2=>by
 rcases ztH a b with h3 | h3 | h3
 ·exact k (zeu h2 h3)
 ·rw [h3] at h2; exact k h2
 ·exact h h3
theorem zfF {a b : V} (h : leP2 a b) (k : leP2 b a) : a=b:=by
 rcases ztH a b with h3 | h3 | h3
 ·exact absurd h3 k
 ·exact h3
 ·exact absurd h3 h
theorem zAV {a b : V} (h : ltP2 a b) : leP2 a b:=fun k=>zcI (zeu h k)
theorem zdV {a b : V} : cmpV a b≤0↔leP2 a b:=by
 rw [leP2,←zmg]; omega
theorem zBf {a b : V} {t : Rat} (h0 : 0≤t) (h1 : t≤1) (h : leP2 a b) : leP2 a (a.at b t)∧leP2 (a.at b t) b:=by
 by_cases e0 : t=0
 ·rw [e0,V.at_zero]; exact ⟨zcZ a,h⟩
 by_cases e1 : t=1
 ·rw [e1,V.at_one]; exact ⟨h,zcZ b⟩
 rw [←zdV,←zdV,zvF (by grind),zuV (by grind)]
 exact ⟨zdV.2 h,zdV.2 h⟩
theorem zAY {a b p : V} (hab : a≠b) (hc : (b-a).cross (p-a)=0) (h1 : leP2 a p) (h2 : leP2 p b) : ∃ t,(0≤t∧t≤1)∧p=a.at b t:=by
 refine zA1 hab ?_
 unfold zAP
 have hm : 0≤cmpV a p*cmpV p b:=Int.mul_nonneg_of_nonpos_of_nonpos (zdV.2 h1) (zdV.2 h2)
 rw [hc,decide_eq_true (zbL.2 rfl),decide_eq_true hm,decide_eq_true (show cmpV a b≠0 from fun h=>hab (zca.1 h))]
 rfl
theorem zAh (a b : V) (t : Rat) : b.at a t=a.at b (1-t):=V.ext' (by simp only [V.at_x]; grind) (by simp only [V.at_y]; grind)
end Go.Sx
end
section
namespace Go.Sx
def onS (a b p : V) : Prop:=∃ t : Rat,(0≤t∧t≤1)∧p=a.at b t
theorem zp5 {a b p : V} : onS a b p↔onS b a p:=by
 constructor <;> rintro ⟨t,⟨h0,h1⟩,rfl⟩ <;> exact ⟨1-t,⟨by grind,by grind⟩,by rw [zAh]⟩
theorem znt (a b : V) : onS a b a:=⟨0,⟨by grind,by grind⟩,(V.at_zero a b).symm⟩
theorem zrf (a b : V) : onS a b b:=⟨1,⟨by grind,by grind⟩,(V.at_one a b).symm⟩
theorem zpC (a b : V) : leP2 (ordV a b).1 (ordV a b).2∧(∀ p,onS (ordV a b).1 (ordV a b).2 p↔onS a b p)∧((ordV a b=(a,b))∨(ordV a b=(b,a))):=by
 unfold ordV
 by_cases h : cmpV a b>0
 ·rw [if_pos h]; exact ⟨zAV (zmg.1 h),fun p=>zp5,.inr rfl⟩
 ·rw [if_neg h]; exact ⟨zdV.1 (by show cmpV a b≤0; omega),fun p=>Iff.rfl,.inl rfl⟩
theorem zuf {a b p : V} (h : leP2 a b) (hp : onS a b p) : leP2 a p∧leP2 p b:=by
 obtain ⟨t,⟨h0,h1⟩,rfl⟩:=hp; exact zBf h0 h1 h
theorem zCE (a b : V) : leP2 a (gtV a b)∧leP2 b (gtV a b)∧(gtV a b=a∨gtV a b=b)∧∀ p,leP2 a p→leP2 b p→leP2 (gtV a b) p:=by
 unfold gtV
 by_cases h : cmpV a b<0
 ·rw [if_pos h]; exact ⟨zAV (zpY.1 h),zcZ b,.inr rfl,fun p _ h=>h⟩
 ·rw [if_neg h]
  exact ⟨zcZ a,fun k=>h (zpY.2 k),.inl rfl,fun p h _=>h⟩
theorem zBU (a b : V) : leP2 (ltV a b) a∧leP2 (ltV a b) b∧(ltV a b=a∨ltV a b=b)∧∀ p,leP2 p a→leP2 p b→leP2 p (ltV a b):=by
 unfold ltV
 by_cases h : cmpV a b<0
 ·rw [if_pos h]; exact ⟨zcZ a,zAV (zpY.1 h),.inl rfl,fun p h _=>h⟩
 ·rw [if_neg h]
  exact ⟨fun k=>h (zpY.2 k),zcZ b,.inr rfl,fun p _ h=>h⟩
theorem zcb {t : Rat} : zgb t=true↔0≤t∧t≤1:=by
 unfold zgb; rw [Bool.and_eq_true,decide_eq_true_eq,decide_eq_true_eq,zwl,zwc]
theorem zuL {a b c d : V} (h : (b-a).cross (d-c)≠0) (t s : Rat) :
  a.at b t=c.at d s↔t=(c-a).cross (d-c)/(b-a).cross (d-c)∧s=(c-a).cross (b-a)/(b-a).cross (d-c):=by
 have e1 : (c-a).cross (d-c)/(b-a).cross (d-c)*(b-a).cross (d-c)=(c-a).cross (d-c):=Rat.div_mul_cancel h
 have e2 : (c-a).cross (b-a)/(b-a).cross (d-c)*(b-a).cross (d-c)=(c-a).cross (b-a):=Rat.div_mul_cancel h
 generalize (c-a).cross (d-c)/(b-a).cross (d-c)=T at e1 ⊢
 generalize (c-a).cross (b-a)/(b-a).cross (d-c)=U at e2 ⊢
 simp only [V.cross,V.sub_x,V.sub_y] at h e1 e2
 constructor
 ·intro he
  have hx : a.x+(b.x-a.x)*t=c.x+(d.x-c.x)*s:=congrArg V.x he
  have hy : a.y+(b.y-a.y)*t=c.y+(d.y-c.y)*s:=congrArg V.y he
  constructor
  ·have : (t-T)*((b.x-a.x)*(d.y-c.y)-(b.y-a.y)*(d.x-c.x))=0:=by grind
   rcases Rat.mul_eq_zero.1 this with h2 | h2
   ·grind
   ·exact absurd h2 h
  ·have : (s-U)*((b.x-a.x)*(d.y-c.y)-(b.y-a.y)*(d.x-c.x))=0:=by grind
   rcases Rat.mul_eq_zero.1 this with h2 | h2
   ·grind
   ·exact absurd h2 h
 ·rintro ⟨rfl,rfl⟩
  have kx : (a.x+(b.x-a.x)*t-(c.x+(d.x-c.x)*s))*((b.x-a.x)*(d.y-c.y)-(b.y-a.y)*(d.x-c.x))=0:=by grind
  have ky : (a.y+(b.y-a.y)*t-(c.y+(d.y-c.y)*s))*((b.x-a.x)*(d.y-c.y)-(b.y-a.y)*(d.x-c.x))=0:=by grind
  refine V.ext' ?_ ?_
  ·show a.x+(b.x-a.x)*t=c.x+(d.x-c.x)*s
   rcases Rat.mul_eq_zero.1 kx with h2 | h2
   ·grind
   ·exact absurd h2 h
  ·show a.y+(b.y-a.y)*t=c.y+(d.y-c.y)*s
   rcases Rat.mul_eq_zero.1 ky with h2 | h2
   ·grind
   ·exact absurd h2 h
theorem zyN (a b c : V) (t : Rat) : (b-a).cross (a.at b t-c)=(b-a).cross (a-c):=by
 show (b.x-a.x)*(a.y+(b.y-a.y)*t-c.y)-(b.y-a.y)*(a.x+(b.x-a.x)*t-c.x)=(b.x-a.x)*(a.y-c.y)-(b.y-a.y)*(a.x-c.x)
 grind
theorem zkS {a b c d : V} (hab : a≠b) (hcd : c≠d) : (∀ x,zbX a b c d=some x→onS a b x.1∧onS c d x.1∧onS a b x.2∧onS c d x.2∧leP2 x.1 x.2∧∀ p,onS a b p→onS c d p→leP2 x.1 p∧leP2 p x.2)∧(zbX a b c d=none→∀ p,onS a b p→onS c d p→False):=by
 unfold zbX
 by_cases hx : cmpQ ((b-a).cross (d-c)) 0≠0
 ·rw [if_pos hx]
  have hne : (b-a).cross (d-c)≠0:=fun h=>hx (zbL.2 h)
  by_cases hu : (!zgb ((c-a).cross (d-c)/(b-a).cross (d-c))||!zgb ((c-a).cross (b-a)/(b-a).cross (d-c)))=true
  ·rw [if_pos hu]
   refine ⟨(fun x h=>by cases h),fun _ p=>?_⟩
   rintro ⟨t,⟨h0,h1⟩,rfl⟩ ⟨s,⟨k0,k1⟩,he⟩
   obtain ⟨e1,e2⟩:=(zuL hne t s).1 he
   rw [←e1,←e2,zcb.2 ⟨h0,h1⟩,zcb.2 ⟨k0,k1⟩] at hu
   exact absurd hu (by decide)
  ·rw [if_neg hu]
   simp only [Bool.or_eq_true,Bool.not_eq_true',not_or,Bool.not_eq_false] at hu
   obtain ⟨u1,u2⟩:=hu
   refine ⟨fun x h=>?_,(fun h=>by cases h)⟩
   cases h
   have hon1 : onS a b (a.at b ((c-a).cross (d-c)/(b-a).cross (d-c))):=⟨_,zcb.1 u1,rfl⟩
   have hon2 : onS c d (a.at b ((c-a).cross (d-c)/(b-a).cross (d-c))):=⟨_,zcb.1 u2,(zuL hne _ _).2 ⟨rfl,rfl⟩⟩
   refine ⟨hon1,hon2,hon1,hon2,zcZ _,fun p=>?_⟩
   rintro ⟨t,⟨h0,h1⟩,rfl⟩ ⟨s,⟨k0,k1⟩,he⟩
   obtain ⟨e1,e2⟩:=(zuL hne t s).1 he
   rw [←e1]; exact ⟨zcZ _,zcZ _⟩
 ·rw [if_neg hx]
  have h0 : (b-a).cross (d-c)=0:=zbL.1 (Decidable.not_not.1 hx)
  by_cases hy : cmpQ ((b-a).cross (c-a)) 0≠0
  ·rw [if_pos hy]
   refine ⟨(fun x h=>by cases h),fun _ p=>?_⟩
   rintro ⟨t,_,rfl⟩ ⟨s,_,he⟩
   apply hy
   rw [zbL]
   have hx : a.x+(b.x-a.x)*t=c.x+(d.x-c.x)*s:=congrArg V.x he
   have hy : a.y+(b.y-a.y)*t=c.y+(d.y-c.y)*s:=congrArg V.y he
   simp only [V.cross,V.sub_x,V.sub_y] at h0 ⊢
   grind
  ·rw [if_neg hy]
   have h1 : (b-a).cross (c-a)=0:=zbL.1 (Decidable.not_not.1 hy)
   obtain ⟨o1,o2,o3⟩:=zpC a b
   obtain ⟨q1,q2,q3⟩:=zpC c d
   obtain ⟨g1,g2,g3,g4⟩:=zCE (ordV a b).1 (ordV c d).1
   obtain ⟨l1,l2,l3,l4⟩:=zBU (ordV a b).2 (ordV c d).2
   have ra : (d-c).cross (a-c)=0:=by
    have hd : b.x-a.x≠0∨b.y-a.y≠0:=by
     by_cases k : b.x=a.x
     ·right; intro k2; exact hab (V.ext' k.symm (by grind))
     ·left; grind
    simp only [V.cross,V.sub_x,V.sub_y] at h0 h1 ⊢
    rcases hd with k | k
    ·have : (b.x-a.x)*((d.x-c.x)*(a.y-c.y)-(d.y-c.y)*(a.x-c.x))=0:=by grind
     rcases Rat.mul_eq_zero.1 this with k2 | k2
     ·exact absurd k2 k
     ·exact k2
    ·have : (b.y-a.y)*((d.x-c.x)*(a.y-c.y)-(d.y-c.y)*(a.x-c.x))=0:=by grind
     rcases Rat.mul_eq_zero.1 this with k2 | k2
     ·exact absurd k2 k
     ·exact k2
   have onl : ∀ p,(p=a∨p=b∨p=c∨p=d)→(b-a).cross (p-a)=0∧(d-c).cross (p-c)=0:=by
    intro p hp
    simp only [V.cross,V.sub_x,V.sub_y] at h0 h1 ra ⊢
    rcases hp with rfl | rfl | rfl | rfl
    ·exact ⟨by grind,ra⟩
    ·exact ⟨by grind,by grind⟩
    ·exact ⟨h1,by grind⟩
    ·exact ⟨by grind,by grind⟩
   have ends : ∀ p,(p=(ordV a b).1∨p=(ordV a b).2∨p=(ordV c d).1∨p=(ordV c d).2)→(p=a∨p=b∨p=c∨p=d):=by
    intro p hp
    rcases o3 with e | e <;> rcases q3 with f | f <;> rw [e,f] at hp <;> simp only at hp <;> grind
   have on2 : ∀ p,(p=(ordV a b).1∨p=(ordV a b).2∨p=(ordV c d).1∨p=(ordV c d).2)→leP2 (ordV a b).1 p→leP2 p (ordV a b).2→leP2 (ordV c d).1 p→leP2 p (ordV c d).2→onS a b p∧onS c d p:=by
    intro p hp k1 k2 k3 k4
    obtain ⟨c1,c2⟩:=onl p (ends p hp)
    constructor
    ·rw [←o2]
     refine zAY ?_ ?_ k1 k2
     ·rcases o3 with e | e <;> rw [e]
      ·exact hab
      ·exact fun h=>hab h.symm
     ·rcases o3 with e | e <;> rw [e]
      ·exact c1
      ·simp only [V.cross,V.sub_x,V.sub_y] at c1 ⊢; grind
    ·rw [←q2]
     refine zAY ?_ ?_ k3 k4
     ·rcases q3 with e | e <;> rw [e]
      ·exact hcd
      ·exact fun h=>hcd h.symm
     ·rcases q3 with e | e <;> rw [e]
      ·exact c2
      ·simp only [V.cross,V.sub_x,V.sub_y] at c2 ⊢; grind
   have both : ∀ p,onS a b p→onS c d p→leP2 (gtV (ordV a b).1 (ordV c d).1) p∧leP2 p (ltV (ordV a b).2 (ordV c d).2):=fun p p1 p2=>by
    obtain ⟨k1,k2⟩:=zuf o1 ((o2 p).2 p1)
    obtain ⟨k3,k4⟩:=zuf q1 ((q2 p).2 p2)
    exact ⟨g4 p k1 k3,l4 p k2 k4⟩
   by_cases hz : cmpV (gtV (ordV a b).1 (ordV c d).1) (ltV (ordV a b).2 (ordV c d).2)>0
   ·rw [if_pos hz]
    refine ⟨(fun x h=>by cases h),fun _ p p1 p2=>?_⟩
    obtain ⟨k1,k2⟩:=both p p1 p2
    exact zf0 k1 k2 (zmg.1 hz)
   ·rw [if_neg hz]
    have hle : leP2 (gtV (ordV a b).1 (ordV c d).1) (ltV (ordV a b).2 (ordV c d).2):=zdV.1 (by omega)
    refine ⟨fun x h=>?_,(fun h=>by cases h)⟩
    cases h
    have e1:=on2 (gtV (ordV a b).1 (ordV c d).1) (by rcases g3 with e | e <;> rw [e] <;> simp) g1 (zf0 hle l1) g2 (zf0 hle l2)
    have e2:=on2 (ltV (ordV a b).2 (ordV c d).2) (by rcases l3 with e | e <;> rw [e] <;> simp) (zf0 g1 hle) l1 (zf0 g2 hle) l2
    exact ⟨e1.1,e1.2,e2.1,e2.2,hle,both⟩
end Go.Sx
end
section
namespace Go.Sx
structure Met (D : V→V→V→Rat) (δ : V→V→Rat) : Prop where
 le : ∀ {a b p q : V},a≠b→onS a b q→D a b p≤δ q p
 at_ : ∀ (a b p : V),∃ q,onS a b q∧D a b p=δ q p
 comm : ∀ p q,δ p q=δ q p
 nn : ∀ p q,0≤δ p q
 zero : ∀ p q,δ p q=0→p=q
 self : ∀ p,δ p p=0
 move : ∀ p q v,δ (p+v) (q+v)=δ p q
theorem zxq (a b v : V) (t : Rat) : (a+v).at (b+v) t=a.at b t+v:=V.ext' (by simp only [V.at_x,V.add_x]; grind) (by simp only [V.at_y,V.add_y]; grind)
theorem ztJ {a b p v : V} : onS (a+v) (b+v) (p+v)↔onS a b p:=by
 constructor
 ·rintro ⟨t,h,e⟩
  refine ⟨t,h,?_⟩
  rw [zxq] at e
  have e1 : p.x+v.x=(a.at b t).x+v.x:=congrArg V.x e
  have e2 : p.y+v.y=(a.at b t).y+v.y:=congrArg V.y e
  exact V.ext' (by grind) (by grind)
 ·rintro ⟨t,h,rfl⟩; exact ⟨t,h,(zxq a b v t).symm⟩
theorem zsO (q v : V) : q-v+v=q:=V.ext' (by simp only [V.add_x,V.sub_x]; grind) (by simp only [V.add_y,V.sub_y]; grind)
theorem zBg {a b v : V} (h : a≠b) : a+v≠b+v:=fun e=>h (V.ext' (by have:=congrArg V.x e; simp only [V.add_x] at this; grind) (by have:=congrArg V.y e; simp only [V.add_y] at this; grind))
section
variable {D : V→V→V→Rat} {δ : V→V→Rat}
theorem Met.swap (m : Met D δ) {a b : V} (h : a≠b) (p : V) : D b a p=D a b p:=by
 obtain ⟨q,h1,e1⟩:=m.at_ a b p
 obtain ⟨r,h2,e2⟩:=m.at_ b a p
 refine Rat.le_antisymm ?_ ?_
 ·rw [e1]; exact m.le (fun e=>h e.symm) (zp5.1 h1)
 ·rw [e2]; exact m.le h (zp5.1 h2)
theorem Met.shift (m : Met D δ) {a b : V} (h : a≠b) (p v : V) : D (a+v) (b+v) (p+v)=D a b p:=by
 obtain ⟨q,h1,e1⟩:=m.at_ a b p
 obtain ⟨r,h2,e2⟩:=m.at_ (a+v) (b+v) (p+v)
 refine Rat.le_antisymm ?_ ?_
 ·rw [e1,←m.move q p v]; exact m.le (zBg h) (ztJ.2 h1)
 ·rw [e2,←zsO r v,m.move]
  rw [←zsO r v] at h2
  exact m.le h (ztJ.1 h2)
end
end Go.Sx
end
section
namespace Go.Sx
section
variable {D : V→V→V→Rat} {δ : V→V→Rat} {a b c d : V}
end
end Go.Sx
end
section
namespace Go.Sx
def zjS (a b p : V) : Bool:=decide (cmpV a p≤0)&&decide (cmpV p b≤0)
def zrE (a b c d : V) : Option (V×V) :=
 if cmpQ ((b-a).cross (d-c)) 0=0 then
  if cmpQ ((b-a).cross (c-a)) 0≠0 then none
  else if cmpV (gtV a c) (ltV b d)>0 then none else some (gtV a c,ltV b d)
 else if !zjS a b (a.at b ((c-a).cross (d-c)/(b-a).cross (d-c)))||!zjS c d (a.at b ((c-a).cross (d-c)/(b-a).cross (d-c))) then none
 else some (a.at b ((c-a).cross (d-c)/(b-a).cross (d-c)),a.at b ((c-a).cross (d-c)/(b-a).cross (d-c)))
def zAw (a b c d : V) : Option (V×V):=zrE (ordV a b).1 (ordV a b).2 (ordV c d).1 (ordV c d).2
theorem zBN {a b : V} (hab : a≠b) {t s : Rat} (h : a.at b t=a.at b s) : t=s:=by
 have hx : a.x+(b.x-a.x)*t=a.x+(b.x-a.x)*s:=congrArg V.x h
 have hy : a.y+(b.y-a.y)*t=a.y+(b.y-a.y)*s:=congrArg V.y h
 have h1 : (b.x-a.x)*(t-s)=0:=by grind
 have h2 : (b.y-a.y)*(t-s)=0:=by grind
 rcases Rat.mul_eq_zero.1 h1 with h3 | h3
 ·rcases Rat.mul_eq_zero.1 h2 with h4 | h4
  ·exact absurd (V.ext' (by grind) (by grind)) hab
  ·grind
 ·grind
theorem zsa {a b : V} (hab : a≠b) (hle : leP2 a b) (t : Rat) : zgb t=zjS a b (a.at b t):=by
 rw [Bool.eq_iff_iff,zcb]
 unfold zjS
 rw [Bool.and_eq_true,decide_eq_true_eq,decide_eq_true_eq,zdV,zdV]
 constructor
 ·rintro ⟨h0,h1⟩; exact zBf h0 h1 hle
 ·rintro ⟨h0,h1⟩
  have hc : (b-a).cross (a.at b t-a)=0:=by
   rw [zyN]
   show (b.x-a.x)*(a.y-a.y)-(b.y-a.y)*(a.x-a.x)=0
   grind
  obtain ⟨s,hs,e⟩:=zAY hab hc h0 h1
  rw [zBN hab e]; exact hs
theorem zrS {a b : V} (h : leP2 a b) : ordV a b=(a,b):=by
 unfold ordV; rw [if_neg (fun k=>h (zmg.1 k))]
theorem zyD {a b c d : V} (hab : a≠b) (hcd : c≠d) (h1 : leP2 a b) (h2 : leP2 c d) : zrE a b c d=zbX a b c d:=by
 unfold zrE zbX
 rw [zrS h1,zrS h2]
 by_cases h : cmpQ ((b-a).cross (d-c)) 0=0
 ·have hh : ¬(cmpQ ((b-a).cross (d-c)) 0≠0):=fun k=>k h
  rw [if_pos h,if_neg hh]
 ·rw [if_neg h,if_pos h]
  have hx : (b-a).cross (d-c)≠0:=fun e=>h (zbL.2 e)
  have e:=(zuL hx _ _).2 ⟨rfl,rfl⟩
  rw [zsa hab h1,zsa hcd h2 ((c-a).cross (b-a)/(b-a).cross (d-c)),←e]
theorem zud {a b : V} (h : a≠b) : (ordV a b).1≠(ordV a b).2:=by
 unfold ordV; split
 ·exact fun e=>h e.symm
 ·exact h
theorem zyl {a b c d : V} (hab : a≠b) (hcd : c≠d) : zbX (ordV a b).1 (ordV a b).2 (ordV c d).1 (ordV c d).2=zbX a b c d:=by
 obtain ⟨s1,n1⟩:=zkS (zud hab) (zud hcd)
 obtain ⟨s2,n2⟩:=zkS hab hcd
 obtain ⟨_,o1,_⟩:=zpC a b
 obtain ⟨_,o2,_⟩:=zpC c d
 cases h1 : zbX (ordV a b).1 (ordV a b).2 (ordV c d).1 (ordV c d).2 with
 | none =>
  cases h2 : zbX a b c d with
  | none=>rfl
  | some y =>
   obtain ⟨k1,k2,_⟩:=s2 y h2
   exact (n1 h1 _ ((o1 _).2 k1) ((o2 _).2 k2)).elim
 | some x =>
  obtain ⟨k1,k2,k3,k4,k5,k6⟩:=s1 x h1
  rw [o1] at k1 k3
  rw [o2] at k2 k4
  cases h2 : zbX a b c d with
  | none=>exact (n2 h2 _ k1 k2).elim
  | some y =>
   obtain ⟨l1,l2,l3,l4,l5,l6⟩:=s2 y h2
   have e1:=zfF (k6 _ ((o1 _).2 l1) ((o2 _).2 l2)).1 (l6 _ k1 k2).1
   have e2:=zfF (l6 _ k3 k4).2 (k6 _ ((o1 _).2 l3) ((o2 _).2 l4)).2
   rw [show x=y from Prod.ext e1 e2]
theorem zy4 {a b c d : V} (hab : a≠b) (hcd : c≠d) : zAw a b c d=zbX a b c d:=by
 rw [zAw,zyD (zud hab) (zud hcd) (zpC a b).1 (zpC c d).1,zyl hab hcd]
end Go.Sx
end
section
set_option maxRecDepth 10000
set_option maxHeartbeats 2000000
namespace Go.Sx
open Go Go.Proofs
theorem zrh (s : Sg) (p : Pt) (hs : s.sm KK) (hp : p.sm KK) : Fn PP zdg [sV s,pV p] (.bool (zjS s.A.v s.B.v p.v)):=by
 refine Fn.of zab mixed zgO rfl rfl (Nat.le_of_ble_eq_true rfl) ?_
 intro w
 conv=>whnf
 refine zac.fn (zdo s.A p hs.1 hp) rfl ?_
 conv=>whnf
 refine zah ?_ ?_ <;> intro h
 ·have h1 : cmpV s.A.v p.v≤0:=of_decide_eq_true h
  conv=>whnf
  refine zac.fn (zdo p s.B hp hs.2) rfl ?_
  conv=>whnf
  refine zaa ?_
  rw [zjS,decide_eq_true h1]; rfl
 ·have h1 : ¬cmpV s.A.v p.v≤0:=of_decide_eq_false h
  conv=>whnf
  refine zaa ?_
  rw [zjS,decide_eq_false h1]; rfl
theorem zr2 {s : Sg} : zb5 s↔s.A.v=s.B.v:=zca
end Go.Sx
end
section
set_option maxRecDepth 10000
set_option maxHeartbeats 2000000
namespace Go.Sx
open Go Go.Proofs
theorem zBn (s t : Sg) (hs : s.sm KS) (ht : t.sm KS) : Fn PP zeC [sV s,sV t] (zrb s t):=by
 have za:=hs.1.sz (by decide)
 have zb:=hs.2.sz (by decide)
 have zc:=ht.1.sz (by decide)
 have zd:=ht.2.sz (by decide)
 have zo:=zmp za zb
 have zp:=zmp zc zd
 refine Fn.of zab mixed zjp rfl rfl (Nat.le_of_ble_eq_true rfl) ?_
 intro w
 conv=>whnf
 refine zac.fn (znn s hs) rfl ?_
 by_cases d1 : zb5 s
 ·rw [zdc,if_pos d1,zrb,if_pos (.inl d1)]
  conv=>whnf
  exact zam rfl
 rw [zdc,if_neg d1]
 conv=>whnf
 refine zac.fn (znn t ht) rfl ?_
 by_cases d2 : zb5 t
 ·rw [zdc,if_pos d2,zrb,if_pos (.inr d2)]
  conv=>whnf
  exact zam rfl
 rw [zdc,if_neg d2,zrb,if_neg (fun h=>h.elim d1 d2),←zy4 (fun e=>d1 (zr2.2 e)) (fun e=>d2 (zr2.2 e)),zAw]
 conv=>whnf
 refine zaj.quiet (by kernel_rfl) ?_
 conv=>whnf
 refine zad.fn (zqB s (hs.le (by decide))) rfl ?_
 conv=>whnf
 refine zad.fn (zqB t (ht.le (by decide))) rfl ?_
 obtain ⟨a,ha⟩ : ∃ a,a=(ordV s.A.v s.B.v).1:=⟨_,rfl⟩
 obtain ⟨b,hb⟩ : ∃ b,b=(ordV s.A.v s.B.v).2:=⟨_,rfl⟩
 obtain ⟨c,hc⟩ : ∃ c,c=(ordV t.A.v t.B.v).1:=⟨_,rfl⟩
 obtain ⟨d,hd⟩ : ∃ d,d=(ordV t.A.v t.B.v).2:=⟨_,rfl⟩
 rw [←ha,←hb] at zo ⊢
 rw [←hc,←hd] at zp ⊢
 obtain ⟨za,zb⟩:=zo
 obtain ⟨zc,zd⟩:=zp
 have zu:=zb.sub za
 have zv:=zd.sub zc
 have zw:=zc.sub za
 have zx:=(zu.cross zv)
 conv=>whnf
 refine zaj.quiet (by kernel_rfl) ?_
 conv=>whnf
 refine zad.fn (zoO (PQ b) (PQ a) (zb.q.le (by decide)) (za.q.le (by decide))) rfl ?_
 rw [PQ_v,PQ_v]
 conv=>whnf
 refine zad.fn (zoO (PQ d) (PQ c) (zd.q.le (by decide)) (zc.q.le (by decide))) rfl ?_
 rw [PQ_v,PQ_v]
 conv=>whnf
 refine zac.fn (zq1 (PQ (b-a)) (PQ (d-c)) (zu.q.le (by decide)) (zv.q.le (by decide))) rfl ?_
 rw [PQ_v,PQ_v]
 conv=>whnf
 refine zac.fn (znH (Q ((b-a).cross (d-c))) (zx.q.le (by decide))) rfl ?_
 rw [Q_v]
 conv=>whnf
 refine zah ?_ ?_ <;> intro h
 ·have h1 : cmpQ ((b-a).cross (d-c)) 0=0:=by simpa using h
  conv=>whnf
  refine zac.fn (zx8 (PQ a) (PQ b) (PQ c) (za.q.le (by decide)) (zb.q.le (by decide)) (zc.q.le (by decide))) rfl ?_
  rw [PQ_v,PQ_v,PQ_v]
  conv=>whnf
  refine zah ?_ ?_ <;> intro h
  ·have h2 : cmpQ ((b-a).cross (c-a)) 0≠0:=by simpa using h
   conv=>whnf
   refine zam ?_
   rw [zrE,if_pos h1,if_pos h2]; rfl
  ·have h2 : ¬cmpQ ((b-a).cross (c-a)) 0≠0:=by simpa using h
   conv=>whnf
   refine zaj.quiet (by kernel_rfl) ?_
   conv=>whnf
   refine zad.fn (zv5 (PQ a) (PQ c) (za.q.le (by decide)) (zc.q.le (by decide))) rfl ?_
   rw [zB6]
   conv=>whnf
   refine zad.fn (zyn (PQ b) (PQ d) (zb.q.le (by decide)) (zd.q.le (by decide))) rfl ?_
   rw [zBF]
   conv=>whnf
   refine zac.fn (zdo (PQ (gtV a c)) (PQ (ltV b d)) ((zz5 za zc).q.le (by decide)) ((zAO zb zd).q.le (by decide))) rfl ?_
   rw [PQ_v,PQ_v]
   conv=>whnf
   refine zah ?_ ?_ <;> intro h
   ·have h3 : cmpV (gtV a c) (ltV b d)>0:=of_decide_eq_true h
    conv=>whnf
    refine zam ?_
    rw [zrE,if_pos h1,if_neg h2,if_pos h3]; rfl
   ·have h3 : ¬cmpV (gtV a c) (ltV b d)>0:=of_decide_eq_false h
    conv=>whnf
    refine zam ?_
    rw [zrE,if_pos h1,if_neg h2,if_neg h3]; rfl
 ·have h1 : ¬cmpQ ((b-a).cross (d-c)) 0=0:=by simpa using h
  have h2 : (b-a).cross (d-c)≠0:=fun e=>h1 (zbL.2 e)
  have zt:=(zw.cross zv).div zx
  conv=>whnf
  refine zaj.late [(13,12,[11])] (by kernel_rfl) ?_
  conv=>whnf
  refine zad.fn (zoO (PQ c) (PQ a) (zc.q.le (by decide)) (za.q.le (by decide))) rfl ?_
  rw [PQ_v,PQ_v]
  conv=>whnf
  refine zad.fn (zq1 (PQ (c-a)) (PQ (d-c)) (zw.q.le (by decide)) (zv.q.le (by decide))) rfl ?_
  rw [PQ_v,PQ_v]
  conv=>whnf
  refine zad.fn (zrk (Q ((c-a).cross (d-c))) (Q ((b-a).cross (d-c))) ((zw.cross zv).q.le (by decide)) (zx.q.le (by decide))) rfl ?_
  rw [Q_v,Q_v,quoV,if_neg h2]
  obtain ⟨T,hT⟩ : ∃ T,T=(c-a).cross (d-c)/(b-a).cross (d-c):=⟨_,rfl⟩
  rw [←hT] at zt ⊢
  conv=>whnf
  refine zaj.quiet (by kernel_rfl) ?_
  conv=>whnf
  refine zad.fn (zup (PQ (b-a)) (Q T) (zu.q.le (by decide)) (zt.q.le (by decide))) rfl ?_
  rw [PQ_v,Q_v]
  conv=>whnf
  refine zad.fn (zv4 (PQ a) (PQ ((b-a).scale T)) (za.q.le (by decide)) ((zu.scale zt).q.le (by decide))) rfl ?_
  rw [PQ_v,PQ_v,show a+(b-a).scale T=a.at b T from rfl]
  have zm:=za.at zb zt
  obtain ⟨p,hp⟩ : ∃ p,p=a.at b T:=⟨_,rfl⟩
  rw [←hp] at zm ⊢
  have hO : zrE a b c d=if !zjS a b p||!zjS c d p then none else some (p,p):=by
   rw [zrE,if_neg h1,←hT,←hp]
  rw [hO]
  conv=>whnf
  refine zac.fn (zrh ⟨PQ a,PQ b⟩ (PQ p) ⟨za.q.le (by decide),zb.q.le (by decide)⟩ (zm.q.le (by decide))) rfl ?_
  rw [show zjS (Sg.mk (PQ a) (PQ b)).A.v (Sg.mk (PQ a) (PQ b)).B.v (PQ p).v=zjS a b p by simp only [PQ_v]]
  cases e1 : zjS a b p with
  | false =>
   conv=>whnf
   exact zam rfl
  | true =>
   conv=>whnf
   refine zac.fn (zrh ⟨PQ c,PQ d⟩ (PQ p) ⟨zc.q.le (by decide),zd.q.le (by decide)⟩ (zm.q.le (by decide))) rfl ?_
   rw [show zjS (Sg.mk (PQ c) (PQ d)).A.v (Sg.mk (PQ c) (PQ d)).B.v (PQ p).v=zjS c d p by simp only [PQ_v]]
   cases e2 : zjS c d p with
   | false =>
    conv=>whnf
    exact zam rfl
   | true =>
    conv=>whnf
    exact zam rfl
end Go.Sx
end
section
set_option maxRecDepth 10000
set_option maxHeartbeats 2000000
namespace Go.Sx
open Go Go.Proofs
abbrev cloV (g : FuncId) (caps : List Value) : Value:=.func (.func g) #[] ⟨caps⟩
end Go.Sx
end
section
set_option maxRecDepth 10000
set_option maxHeartbeats 2000000
namespace Go.Sx
open Go Go.Proofs
end Go.Sx
end
section
/- A symbolic executor over loaded Go code: memory that is only read from now on. -/
namespace Go.Sx
open Go Go.RowKit

def AV.fz (k b : Nat) : AV→AV
 | .p j off=>bif Nat.beq j k then .v (.pointer (some ⟨b,off,none⟩)) else .p j off
 | .s j off n c=>bif Nat.beq j k then .v (.slice (some ⟨b,off,none⟩) n c) else .s j off n c
 | x=>x
def AV.fzO (k : Nat) (v : Value) : AV→AV
 | .w j=>bif Nat.beq j k then .v v else .w j
 | x=>x
def SV.mp (f : AV→AV) : SV→SV
 | .o x=>.o (f x)
 | .a xs=>.a (xs.map f)
def ME.mp (f : AV→AV) : ME→ME
 | .box cs t=>.box (cs.map f) t
 | m=>m
def mpT (f : AV→AV) : List (Nat×SV)→List (Nat×SV)
 | []=>[]
 | (i,x)::r=>(i,x.mp f)::mpT f r
def mpM (f : AV→AV) : List (Nat×ME)→List (Nat×ME)
 | []=>[]
 | (i,x)::r=>(i,x.mp f)::mpM f r
def SS.fz (st : SS) (k : Nat) (f : AV→AV) (R : Res) : SS:=⟨mpT f st.tm,mpM f (rmL k st.me),R::st.re⟩
theorem zwV {f : AV→AV} : ∀ {l : List (Nat×SV)} {i : Nat} {x : SV},lk i (mpT f l)=some x→∃ y,lk i l=some y∧x=y.mp f
 | [],i,x,h=>by simp [mpT,lk] at h
 | (j,y)::r,i,x,h=>by
  simp only [mpT,zax] at h ⊢
  split at h
  ·rename_i e; cases h; exact ⟨y,if_pos e,rfl⟩
  ·rename_i e; obtain ⟨z,h1,h2⟩:=zwV h; exact ⟨z,(if_neg e).trans h1,h2⟩
theorem zzt {f : AV→AV} : ∀ {l : List (Nat×ME)} {i : Nat} {x : ME},lk i (mpM f l)=some x→∃ y,lk i l=some y∧x=y.mp f
 | [],i,x,h=>by simp [mpM,lk] at h
 | (j,y)::r,i,x,h=>by
  simp only [mpM,zax] at h ⊢
  split at h
  ·rename_i e; cases h; exact ⟨y,if_pos e,rfl⟩
  ·rename_i e; obtain ⟨z,h1,h2⟩:=zzt h; exact ⟨z,(if_neg e).trans h1,h2⟩
theorem SV.mp_real {E : Env} {f : AV→AV} (hf : ∀ x : AV,(f x).real E=x.real E) : ∀ x : SV,(x.mp f).real E=x.real E
 | .o x=>hf x
 | .a xs=>by
  show Value.agg ((xs.map f).map (AV.real E)).toArray=Value.agg (xs.map (AV.real E)).toArray
  rw [List.map_map]; congr 2; exact List.map_congr_left fun y _=>hf y

section
variable {P : Program} {T : TT} {C : Cx} {E : Env} {st : SS}
theorem SRE.fz {a : Act} {w : World} (h : SRE C E st a w) {k : Nat} {m0 : ME} (hk : lk k st.me=some m0) {f : AV→AV} (hf : ∀ x : AV,(f x).real E=x.real E) {R : Res} (hR : R.ok) (hφ : R.φ w) (hb : ∀ b∈R.bs,E.β k=some b) :
  SRE C E (st.fz k f R) a w:=by
 have hsub : ∀ {j : Nat} {x : ME},lk j (mpM f (rmL k st.me))=some x→j≠k∧∃ y,lk j st.me=some y∧x=y.mp f:=by
  intro j x hj
  obtain ⟨y,h1,h2⟩:=zzt hj
  rw [zom] at h1
  split at h1
  ·cases h1
  ·rename_i hne; exact ⟨hne,y,h1,h2⟩
 refine ⟨h.size,h.defers,fun i sv hi=>?_,⟨fun j x hj=>?_,fun j x b hj hjb=>?_,fun j j' x x' b hj hj' hjb hjb'=>?_,fun S hS=>?_,h.mem.ext,fun q b x hX hj=>?_⟩⟩
 ·obtain ⟨y,h1,rfl⟩:=zwV hi
  rw [SV.mp_real hf]; exact h.tm i y h1
 ·obtain ⟨_,y,h1,rfl⟩:=hsub hj
  have:=h.mem.ent j y h1
  cases y with
  | box cs t =>
   obtain ⟨b,h2,h3⟩:=this
   refine ⟨b,h2,?_⟩
   rw [h3,List.map_map]
   congr 3; symm; exact List.map_congr_left fun y _=>hf y
  | sym cs t=>exact this
  | own t es n xs=>exact this
 ·obtain ⟨_,y,h1,_⟩:=hsub hj; exact h.mem.ge j y b h1 hjb
 ·obtain ⟨_,y,h1,_⟩:=hsub hj; obtain ⟨_,y',h1',_⟩:=hsub hj'; exact h.mem.inj j j' y y' b h1 h1' hjb hjb'
 ·rcases List.mem_cons.1 hS with rfl | hS
  ·refine ⟨hR.1,hφ,fun b hbb=>⟨hR.2 w hφ b hbb,fun j x hj hjb=>?_⟩⟩
   obtain ⟨hne,y,h1,_⟩:=hsub hj
   exact hne (h.mem.inj j k y m0 b h1 hk hjb (hb b hbb))
  ·obtain ⟨r1,r2,r3⟩:=h.mem.res S hS
   exact ⟨r1,r2,fun b hbb=>⟨(r3 b hbb).1,fun j x hj hjb=>by obtain ⟨_,y,h1,_⟩:=hsub hj; exact (r3 b hbb).2 j y h1 hjb⟩⟩
 ·obtain ⟨_,y,h1,_⟩:=hsub hj; exact h.mem.rig q b y hX h1
theorem znS {k b : Nat} (hb : E.β k=some b) (x : AV) : (x.fz k b).real E=x.real E:=by
 cases x with
 | p j off =>
  simp only [AV.fz]
  cases h : Nat.beq j k with
  | false=>rfl
  | true=>have:=Nat.eq_of_beq_eq_true h; subst this; simp [AV.real,hb]
 | s j off n c =>
  simp only [AV.fz]
  cases h : Nat.beq j k with
  | false=>rfl
  | true=>have:=Nat.eq_of_beq_eq_true h; subst this; simp [AV.real,hb]
 | _=>rfl
theorem zyU {k : Nat} {v : Value} (hv : (AV.w k).real E=v) (x : AV) : (x.fzO k v).real E=x.real E:=by
 cases x with
 | w j =>
  simp only [AV.fzO]
  cases h : Nat.beq j k with
  | false=>rfl
  | true=>have:=Nat.eq_of_beq_eq_true h; subst this; exact hv.symm
 | _=>rfl
theorem zmd {A : Option Addr} {xs : List Value} {b : Nat} (h : b∈(zaf A xs).bs) : ∃ a,A=some a∧b=a.block:=by
 have h2 : b∈SlB A xs:=h
 cases xs with
 | nil=>simp [SlB] at h2
 | cons x r =>
  cases A with
  | none=>simp [SlB] at h2
  | some a=>exact ⟨a,rfl,by simpa [SlB] using h2⟩
theorem WPS.freeze (k : Nat) {xs : List Value} {c : Code} {Q : Exit→SS→Prop} (hx : boxV st k=some xs) (h : ∀ b,WPS P C c (st.fz k (AV.fz k b) (zaf (some ⟨b,0,none⟩) xs)) Q) : WPS P C c st Q:=⟨fun a w hr=>by
 obtain ⟨E,hE⟩:=hr
 have hb : ∃ b t m0,lk k st.me=some m0∧E.β k=some b∧w.heap[b]?=some (.cells xs.toArray t (0,0)):=by
  unfold boxV at hx
  split at hx
  ·rename_i cs ty hl
   obtain ⟨b,hb,hc⟩:=hE.mem.ent _ _ hl
   rw [zba E hx] at hc
   exact ⟨b,ty,_,hl,hb,hc⟩
  ·rename_i cs ty hl
   cases hx
   obtain ⟨b,hb,hc⟩:=hE.mem.ent _ _ hl
   exact ⟨b,ty,_,hl,hb,hc⟩
  ·cases hx
 obtain ⟨b,t,m0,hl,hb,hc⟩:=hb
 refine (h b).wp a w ⟨E,hE.fz hl (znS hb) (zaf.ok _ _) (.inr ⟨b,0,rfl,fun j v hj=>?_⟩) (fun b' hb'=>?_)⟩
 ·rw [zbY hc,Nat.zero_add]; simpa using hj
 ·obtain ⟨a',h1,h2⟩:=zmd hb'
  cases h1; rw [h2]; exact hb⟩
theorem zaB.factsT {g : FuncId} {args : List SV} {vs : List Value} {re : List Res} {R : World→Ending→World→Prop} (h : FnM P g vs (Sx.facts re) R) (ha : args=vsv vs) (hre : ∀ R∈re,R∈st.re∨∀ w,R.φ w) : zaB P g args st R:=by
 subst ha
 intro E w _ hw
 rw [zbd]
 exact h.calls w (fun R hR=>(hre R hR).elim (fun h=>hw R h) (fun h=>h w))
def SLX (C : Cx) (s : SS) (p : SS→Prop) : Prop:=∀ a w,SR C s a w→∃ t,p t∧SR C t a w
theorem SLX.of {s t : SS} {p : SS→Prop} (h : SLe C s t) (hp : p t) : SLX C s p:=fun a w hr=>⟨t,hp,h a w hr⟩
theorem SLX.freeze (k : Nat) {xs : List Value} {p : SS→Prop} (hx : boxV st k=some xs) (h : ∀ b,SLX C (st.fz k (AV.fz k b) (zaf (some ⟨b,0,none⟩) xs)) p) : SLX C st p:=by
 rintro a w ⟨E,hE⟩
 have hb : ∃ b t m0,lk k st.me=some m0∧E.β k=some b∧w.heap[b]?=some (.cells xs.toArray t (0,0)):=by
  unfold boxV at hx
  split at hx
  ·rename_i cs ty hl
   obtain ⟨b,hb,hc⟩:=hE.mem.ent _ _ hl
   rw [zba E hx] at hc
   exact ⟨b,ty,_,hl,hb,hc⟩
  ·rename_i cs ty hl
   cases hx
   obtain ⟨b,hb,hc⟩:=hE.mem.ent _ _ hl
   exact ⟨b,ty,_,hl,hb,hc⟩
  ·cases hx
 obtain ⟨b,t,m0,hl,hb,hc⟩:=hb
 refine h b a w ⟨E,hE.fz hl (znS hb) (zaf.ok _ _) (.inr ⟨b,0,rfl,fun j v hj=>?_⟩) (fun b' hb'=>?_)⟩
 ·rw [zbY hc,Nat.zero_add]; simpa using hj
 ·obtain ⟨a',h1,h2⟩:=zmd hb'
  cases h1; rw [h2]; exact hb
end
end Go.Sx
end
section
set_option maxRecDepth 10000
set_option maxHeartbeats 2000000
namespace Go.Sx
open Go Go.Proofs
structure Hd where
 A : Option Addr
 c : Nat
 l : List Pt
abbrev Hd.V (h : Hd) : Value:=.slice h.A h.l.length h.c
abbrev Hd.F (h : Hd) : Res:=zaf h.A (rowV ptC h.l)
def Hd.C (h : Hd) : List Value:=[h.V]
abbrev Hd.sm (k : Nat) (h : Hd) : Prop:=Lsm k h.l
abbrev sgM (e : Pt×Pt) : List AV:=[.v (.bool e.1.x.neg),.v (.string (bs e.1.x.num)),.v (.string (bs e.1.x.den)),.v (.bool e.1.y.neg),.v (.string (bs e.1.y.num)),.v (.string (bs e.1.y.den)),.v (.bool e.2.x.neg),.v (.string (bs e.2.x.num)),.v (.string (bs e.2.x.den)),.v (.bool e.2.y.neg),.v (.string (bs e.2.y.num)),.v (.string (bs e.2.y.den))]
theorem zaB.c1 {P : Program} {st : SS} {g g0 : FuncId} {args : List SV} {R : World→Ending→World→Prop} {k : Nat} {xs : List Value} {re : List Res} (mk : Value→List Value) (hx : boxV st k=some xs) (hm : SV.o (.clo g0 [.l k])∈args)
  (hargs : ∀ E,args.map (SV.real E)=mk ((SV.o (.clo g0 [.l k])).real E)) (hre : ∀ w,Sx.facts st.re w→Sx.facts re w) (h : ∀ a,FnM P g (mk (cloV g0 [ptrV a])) (Sx.facts (zaf (some a) xs::re)) R) : zaB P g args st R:=by
 intro E w he hw
 have hb : ∃ b ty,E.β k=some b∧w.heap[b]?=some (.cells xs.toArray ty (0,0)):=by
  have hk : (SV.o (.clo g0 [.l k])).has k=true:=by simp [SV.has,AV.has,CP.has]
  unfold boxV at hx
  split at hx
  ·rename_i cs' ty hl
   obtain ⟨b,hb,hcells⟩:=he k _ (zdq hm hk) hl
   rw [zba E hx] at hcells
   exact ⟨b,ty,hb,hcells⟩
  ·rename_i cs' ty hl
   cases hx
   obtain ⟨b,hb,hcells⟩:=he k _ (zdq hm hk) hl
   exact ⟨b,ty,hb,hcells⟩
  ·cases hx
 obtain ⟨b,ty,hb,hcells⟩:=hb
 have hp : (SV.o (.clo g0 [.l k])).real E=cloV g0 [ptrV ⟨b,0,none⟩]:=by simp [SV.real,AV.real,CP.real,hb,ptrV]
 rw [hargs,hp]
 refine (h ⟨b,0,none⟩).calls w (fun R hR=>?_)
 rcases List.mem_cons.1 hR with rfl | hR
 ·exact .inr ⟨b,0,rfl,fun j v hj=>by rw [zbY hcells,Nat.zero_add]; simpa using hj⟩
 ·exact hre w hw R hR
end Go.Sx
end
section
set_option maxRecDepth 10000
set_option maxHeartbeats 2000000
namespace Go.Sx
open Go Go.Proofs
structure Ply where
 o : Hd
 H : Option Addr
 c : Nat
 hs : List Hd
abbrev Ply.HV (p : Ply) : Value:=.slice p.H p.hs.length p.c
abbrev Ply.V (p : Ply) : Value:=.agg ⟨[p.o.V,p.HV]⟩
def Ply.C (p : Ply) : List Value:=[p.o.V,p.HV]
abbrev Ply.HF (p : Ply) : Res:=zaf p.H (rowV Hd.C p.hs)
def Ply.F (p : Ply) : List Res:=p.o.F::p.HF::p.hs.map Hd.F
theorem Ply.F_ok {p : Ply} : ∀ R∈p.F,R.ok:=fun R hR=>by
 rcases List.mem_cons.1 hR with rfl | hR
 ·exact zaf.ok _ _
 ·rcases List.mem_cons.1 hR with rfl | hR
  ·exact zaf.ok _ _
  ·obtain ⟨h,_,rfl⟩:=List.mem_map.1 hR; exact zaf.ok _ _
abbrev Hd.ls (l : List Hd) : List (List Pt):=l.map (·.l)
structure PL where
 o : List Pt
 hs : List (List Pt)
abbrev Ply.P (p : Ply) : PL:=⟨p.o.l,Hd.ls p.hs⟩
end Go.Sx
end
section
set_option maxRecDepth 10000
set_option maxHeartbeats 2000000
namespace Go.Sx
open Go Go.Proofs
theorem zbQ (b o : Nat) : (some ⟨b,o+0,none⟩ : Option Addr)=Option.map (fun x : Addr=>x.add 0) (some ⟨b,o,none⟩):=rfl
end Go.Sx
end
section
set_option maxRecDepth 10000
set_option maxHeartbeats 2000000
namespace Go.Sx
open Go Go.Proofs
abbrev sgB (s : Sg) : ME:=.box (sgM (s.A,s.B)) zbe
end Go.Sx
end
section
set_option maxRecDepth 10000
set_option maxHeartbeats 2000000
namespace Go.Sx
open Go Go.Proofs
theorem WPS.pure {P : Program} {C : Cx} {st : SS} {c : Code} {Q : Exit→SS→Prop} {p : Prop} (hp : ∀ w,(∀ R∈st.re,R.φ w)→p) (h : p→WPS P C c st Q) : WPS P C c st Q:=⟨fun a w hr=>by
 obtain ⟨E,hE⟩:=hr
 exact (h (hp w (fun R hR=>(hE.mem.res R hR).2.1))).wp a w ⟨E,hE⟩⟩
theorem zgF.row {st : SS} {A : Option Addr} {xs : List Value} {n : Nat} {K : List Value→Prop} (hR : zaf A xs∈st.re) (hn : xs.length=n) (h0 : xs≠[]) (h1 : ∀ v∈xs,v.oneCell'=true) (hk : K xs) : zgF st A n K:=⟨xs,hn,h1,fun w hw=>by
 rcases hw _ hR with h | h
 ·exact absurd h h0
 ·obtain ⟨b,o,e,hc⟩:=h
  exact .inr ⟨_,e,fun j v hj=>by rw [Addr.add_lit]; exact hc j v hj⟩,hk⟩
theorem zgF.empty {st : SS} {A : Option Addr} {n : Nat} {K : List Value→Prop} (hn : n=0) (hk : K []) : zgF st A n K:=⟨[],hn.symm,fun v h=>(by cases h),fun w hw=>by
 cases A with
 | none=>exact .inl ⟨rfl,hn⟩
 | some a=>exact .inr ⟨a,rfl,fun j v h=>by simp at h⟩,hk⟩
theorem ztB {α : Type} {f : α→List Value} {p : Value→Prop} (hf : ∀ x,∀ v∈f x,p v) : ∀ (l : List α),∀ v∈rowV f l,p v
 | [],v,h=>by cases h
 | x::l,v,h=>by
  rcases List.mem_append.1 (show v∈f x++rowV f l from h) with h | h
  ·exact hf x v h
  ·exact ztB hf l v h
end Go.Sx
end
section
set_option maxRecDepth 10000
set_option maxHeartbeats 2000000
namespace Go.Sx
open Go Go.Proofs
theorem zto : rawV (Q 0)=.agg ⟨[.bool false,.string ⟨#[]⟩,.string ⟨#[]⟩]⟩:=by rw [zhg]; rfl
end Go.Sx
end
section
namespace Go.Sx
def insU (x : Rat) : List Rat→List Rat
 | []=>[x]
 | y::l=>if x<y then x::y::l else if x=y then y::l else y::insU x l
def ascL (l : List Rat) : List Rat:=l.foldr insU []
abbrev Asc (l : List Rat) : Prop:=l.Pairwise (· < ·)
theorem zcJ {x z : Rat} : ∀ {l : List Rat},z∈insU x l↔z=x∨z∈l
 | []=>by simp [insU]
 | y::l=>by
  unfold insU
  split
  ·simp
  ·split
   ·rename_i h; subst h; simp
   ·rw [List.mem_cons,zcJ (l:=l),List.mem_cons]
    constructor
    ·rintro (h | h | h); exact .inr (.inl h); exact .inl h; exact .inr (.inr h)
    ·rintro (h | h | h); exact .inr (.inl h); exact .inl h; exact .inr (.inr h)
theorem zcm {x : Rat} : ∀ {l : List Rat},Asc l→Asc (insU x l)
 | [],_=>by simp [insU]
 | y::l,h=>by
  have h1:=List.pairwise_cons.1 h
  unfold insU
  split
  ·rename_i hx
   refine List.pairwise_cons.2 ⟨fun z hz=>?_,h⟩
   rcases List.mem_cons.1 hz with rfl | hz
   ·exact hx
   ·have:=h1.1 z hz; grind
  ·split
   ·exact h
   ·rename_i h2 h3
    refine List.pairwise_cons.2 ⟨fun z hz=>?_,zcm h1.2⟩
    rcases zcJ.1 hz with rfl | hz
    ·grind
    ·exact h1.1 z hz
theorem zgm {z : Rat} : ∀ {l : List Rat},z∈ascL l↔z∈l
 | []=>by simp [ascL]
 | x::l=>by
  show z∈insU x (ascL l)↔_
  rw [zcJ,zgm,List.mem_cons]
theorem zj3 : ∀ (l : List Rat),Asc (ascL l)
 | []=>List.Pairwise.nil
 | x::l=>zcm (zj3 l)
theorem zuz : ∀ {a b : List Rat},Asc a→Asc b→(∀ z,z∈a↔z∈b)→a=b
 | [],[],_,_,_=>rfl
 | [],y::b,_,_,h=>by have:=(h y).2 (List.mem_cons_self ..); cases this
 | x::a,[],_,_,h=>by have:=(h x).1 (List.mem_cons_self ..); cases this
 | x::a,y::b,ha,hb,h=>by
  have h1:=List.pairwise_cons.1 ha
  have h2:=List.pairwise_cons.1 hb
  have hxy : x=y:=by
   rcases List.mem_cons.1 ((h x).1 (List.mem_cons_self ..)) with e | hx
   ·exact e
   rcases List.mem_cons.1 ((h y).2 (List.mem_cons_self ..)) with e | hy
   ·exact e.symm
   have:=h2.1 x hx
   have:=h1.1 y hy
   grind
  subst hxy
  congr 1
  refine zuz h1.2 h2.2 fun z=>⟨fun hz=>?_,fun hz=>?_⟩
  ·rcases List.mem_cons.1 ((h z).1 (List.mem_cons_of_mem _ hz)) with e | h3
   ·have:=h1.1 z hz; grind
   ·exact h3
  ·rcases List.mem_cons.1 ((h z).2 (List.mem_cons_of_mem _ hz)) with e | h3
   ·have:=h2.1 z hz; grind
   ·exact h3
section
variable {α : Type} [DecidableEq α]
def ddpG : α→List α→List α
 | _,[]=>[]
 | p,x::r=>if x=p then ddpG x r else x::ddpG x r
def ddp : List α→List α
 | []=>[]
 | x::r=>x::ddpG x r
theorem zsF : ∀ (p : α) (l : List α) (x : α),ddpG p (l++[x])=ddpG p l++(if x=(p::l).getLast (by simp) then [] else [x])
 | p,[],x=>by by_cases h : x=p <;> simp [ddpG,h]
 | p,y::l,x=>by
  simp only [List.cons_append,ddpG]
  rw [zsF y l x]
  have e : (p::y::l).getLast (by simp)=(y::l).getLast (by simp):=List.getLast_cons _
  rw [e]
  by_cases h : y=p <;> simp [h]
theorem zyq {l : List α} (h : l≠[]) (x : α) : ddp (l++[x])=if x=l.getLast h then ddp l else ddp l++[x]:=by
 cases l with
 | nil=>exact absurd rfl h
 | cons y r =>
  show y::ddpG y (r++[x])=_
  rw [zsF]
  split
  ·simp [ddp]
  ·simp [ddp]
theorem ztQ {z : α} : ∀ {p : α} {l : List α},(z∈ddpG p l∨z=p)↔(z∈l∨z=p)
 | p,[]=>by simp [ddpG]
 | p,x::r=>by
  have ih:=ztQ (z:=z) (p:=x) (l:=r)
  simp only [ddpG]
  split
  ·rename_i e; subst e
   rw [ih,List.mem_cons]
   constructor
   ·rintro (h | h); exact .inl (.inr h); exact .inr h
   ·rintro ((h | h) | h); exact .inr h; exact .inl h; exact .inr h
  ·rw [List.mem_cons,List.mem_cons]
   constructor
   ·rintro ((h | h) | h)
    ·exact .inl (.inl h)
    ·rcases ih.1 (.inl h) with h | h; exact .inl (.inr h); exact .inl (.inl h)
    ·exact .inr h
   ·rintro ((h | h) | h)
    ·exact .inl (.inl h)
    ·rcases ih.2 (.inl h) with h | h; exact .inl (.inr h); exact .inl (.inl h)
    ·exact .inr h
theorem zAW {z : α} {l : List α} : z∈ddp l↔z∈l:=by
 cases l with
 | nil=>exact Iff.rfl
 | cons x r =>
  have:=ztQ (z:=z) (p:=x) (l:=r)
  simp only [ddp,List.mem_cons]
  constructor
  ·rintro (h | h)
   ·exact .inl h
   ·rcases this.1 (.inl h) with h | h; exact .inr h; exact .inl h
  ·rintro (h | h)
   ·exact .inl h
   ·rcases this.2 (.inl h) with h | h; exact .inr h; exact .inl h
theorem zqb {β : Type} [DecidableEq β] {f : α→β} (hf : ∀ x y,f x=f y→x=y) : ∀ (p : α) (l : List α),ddpG (f p) (l.map f)=(ddpG p l).map f
 | p,[]=>rfl
 | p,x::r=>by
  simp only [List.map_cons,ddpG]
  by_cases h : x=p
  ·rw [if_pos h,if_pos (by rw [h]),zqb hf]
  ·rw [if_neg h,if_neg (fun e=>h (hf _ _ e)),zqb hf]; rfl
theorem zzV {β : Type} [DecidableEq β] {f : α→β} (hf : ∀ x y,f x=f y→x=y) (l : List α) : ddp (l.map f)=(ddp l).map f:=by
 cases l with
 | nil=>rfl
 | cons x r=>simp only [List.map_cons,ddp,zqb hf]
theorem ztq (l : List α) : (ddp l).length≤l.length:=by
 have : ∀ (p : α) (l : List α),(ddpG p l).length≤l.length:=fun p l=>by
  induction l generalizing p with
  | nil=>exact Nat.le_refl _
  | cons x r ih =>
   simp only [ddpG]
   split
   ·exact Nat.le_succ_of_le (ih x)
   ·exact Nat.succ_le_succ (ih x)
 cases l with
 | nil=>exact Nat.le_refl _
 | cons x r=>exact Nat.succ_le_succ (this x r)
end
theorem zAZ {l : List Rat} (h : l.Pairwise (·≤·)) : Asc (ddp l):=by
 have key : ∀ (l : List Rat) (p : Rat),(p::l).Pairwise (·≤·)→Asc (p::ddpG p l):=fun l=>by
  induction l with
  | nil=>intro p _; simp [ddpG]
  | cons x r ih =>
   intro p hp
   have h1:=List.pairwise_cons.1 hp
   have h2:=ih x h1.2
   have hpx:=h1.1 x (List.mem_cons_self ..)
   simp only [ddpG]
   split
   ·rename_i e; rw [←e]; exact h2
   ·rename_i e
    refine List.pairwise_cons.2 ⟨fun z hz=>?_,h2⟩
    rcases List.mem_cons.1 hz with rfl | hz
    ·grind
    ·have:=(List.pairwise_cons.1 h2).1 z hz; grind
 cases l with
 | nil=>exact List.Pairwise.nil
 | cons x r=>exact key r x h
def zs4 (l : List Rat) : List Rat:=l.mergeSort fun x y=>decide (x≤y)
theorem zdl (l : List Rat) : (zs4 l).Perm l:=List.mergeSort_perm _ _
theorem zr5 (l : List Rat) : (zs4 l).Pairwise (·≤·):=by
 have:=List.pairwise_mergeSort (le:=fun x y : Rat=>decide (x≤y)) (fun a b c h1 h2=>by simp at *; grind) (fun a b=>by simp; grind) l
 exact this.imp (by intro a b h; simpa using h)
theorem zgd (l : List Rat) : ddp (zs4 l)=ascL l :=
 zuz (zAZ (zr5 l)) (zj3 l) fun z=>by rw [zAW,zgm,(zdl l).mem_iff]
end Go.Sx
end
section
set_option maxRecDepth 10000
set_option maxHeartbeats 2000000
namespace Go.Sx
open Go Go.Proofs
section
variable {P : Program} {C : Cx} {st : SS}
theorem cf {g : FuncId} {args : List SV} {vs : List Value} {r : Value} {K : SV→SS→Prop} (h : Fn P g vs r) (hk : K (.o (.v r)) st) (ha : args=vsv vs:=by rfl) : zac P C g args st K:=zac.fn h ha hk
theorem cd {g : FuncId} {args : List SV} {d : Option Tmp} {vs : List Value} {r : Value} {K : SV→Option ME→Prop} (h : Fn P g vs r) (hk : K (.o (.v r)) none) (ha : args=vsv vs:=by rfl) : zad P g args d st K:=zad.fn h ha hk
theorem cfs {g : FuncId} {args : List SV} {vs : List Value} {re : List Res} {r : Value} {K : SV→SS→Prop} (h : FnM P g vs (facts re) (zbu r)) (hk : K (.o (.v r)) st) (ha : args=vsv vs:=by rfl) (hre : ∀ R∈re,R∈st.re:=by first | exact fun R h=>h | simp) : zac P C g args st K :=
 zac.v h.enters (zaB.facts h ha hre) hk
theorem cds {g : FuncId} {args : List SV} {d : Option Tmp} {vs : List Value} {re : List Res} {r : Value} {K : SV→Option ME→Prop} (h : FnM P g vs (facts re) (zbu r)) (hk : K (.o (.v r)) none) (ha : args=vsv vs:=by rfl) (hre : ∀ R∈re,R∈st.re:=by first | exact fun R h=>h | simp) : zad P g args d st K :=
 zad.v h.enters (zaB.facts h ha hre) hk
end
structure Bx where
 lo : Pt
 hi : Pt
def boxC (b : Bx) : List Value:=ptC b.lo++ptC b.hi
abbrev bxV (b : Bx) : Value:=.agg ⟨boxC b⟩
def Bx.sm (k : Nat) (b : Bx) : Prop:=b.lo.sm k∧b.hi.sm k
def Bx.good (b : Bx) : Prop:=b.lo.ok∧b.hi.ok∧b.lo.x.v<b.hi.x.v∧b.lo.y.v<b.hi.y.v
instance (b : Bx) : Decidable b.good:=inferInstanceAs (Decidable (_∧_))
theorem zpG (b : Bx) (hb : b.sm KK) : Fn PP zhp [bxV b] (.bool (decide b.good)):=by
 refine Fn.of zab mixed zn1 rfl rfl (Nat.le_of_ble_eq_true rfl) ?_
 intro w
 conv=>whnf
 refine cf (zh6 b.lo hb.1) ?_
 by_cases h1 : b.lo.ok
 rotate_left
 ·rw [if_neg h1]
  conv=>whnf
  refine zaa ?_
  rw [decide_eq_false (fun h=>h1 h.1)]
 rw [if_pos h1]
 conv=>whnf
 refine cf (zh6 b.hi hb.2) ?_
 by_cases h2 : b.hi.ok
 rotate_left
 ·rw [if_neg h2]
  conv=>whnf
  refine zaa ?_
  rw [decide_eq_false (fun h=>h2 h.2.1)]
 rw [if_pos h2]
 conv=>whnf
 refine cf (zbp b.lo.x b.hi.x hb.1.1 hb.2.1) ?_
 conv=>whnf
 by_cases h3 : b.lo.x.v<b.hi.x.v
 rotate_left
 ·refine zae (decide_eq_false (fun h=>h3 (zbg.1 h))) ?_
  conv=>whnf
  refine zaa ?_
  rw [decide_eq_false (fun h=>h3 h.2.2.1)]
 refine zai (decide_eq_true (zbg.2 h3)) ?_
 conv=>whnf
 refine cf (zbp b.lo.y b.hi.y hb.1.2 hb.2.2) ?_
 conv=>whnf
 refine zaa (congrArg Value.bool (decide_eq_decide.2 ?_))
 rw [zbg]
 exact ⟨fun h=>⟨h1,h2,h3,h⟩,fun h=>h.2.2.2⟩
theorem ztI (x y : Rat) (hx : Sz KV x) (hy : Sz KV y) : Fn PP zn3 [qV x,qV y] (qV ((x+y)/2)):=by
 refine Fn.of zab mixed ztt rfl rfl (Nat.le_of_ble_eq_true rfl) ?_
 intro w
 conv=>whnf
 refine cf (zrI (Q x) (Q y) (hx.q.le (by decide)) (hy.q.le (by decide))) ?_
 rw [Q_v,Q_v]
 conv=>whnf
 refine cf (zwI 2 (by decide) (by decide)) ?_
 conv=>whnf
 refine cf (zsK (Q (x+y)) (Q ((2 : Int) : Rat)) ((hx.add hy).q.le (by decide)) ((show Sz 1 ((2 : Int) : Rat) from ⟨by decide,by decide⟩).q.le (by decide))) ?_
 rw [Q_v,Q_v,quoV,if_neg (by decide)]
 conv=>whnf
 exact zaa rfl
def hgtE (A B : V) (x : Rat) : Rat×Int :=
 if (B-A).x=0 then (0,24) else if zgb ((x-A.x)/(B-A).x)=true then (A.y+(x-A.x)/(B-A).x*(B-A).y,0) else (0,14)
def zdP (s : Sg) (x : Rat) : Rat×Int:=if zb5 s then (0,12) else hgtE s.A.v s.B.v x
theorem zuM (s : Sg) (x : Raw) (hs : s.sm KS) (hx : x.sm KV) : Fn PP zgn [sV s,rawV x] (.tuple #[qV (zdP s x.v).1,.int .i64 (zdP s x.v).2]):=by
 refine Fn.of zab mixed zmO rfl rfl (Nat.le_of_ble_eq_true rfl) ?_
 intro w
 have zA:=hs.1.sz (by decide)
 have zB:=hs.2.sz (by decide)
 have zx:=Raw.sz (by decide) hx.1 hx.2
 conv=>whnf
 refine cf (zno s hs) ?_
 rw [zdc]
 by_cases hd : zb5 s
 ·rw [zdP,if_pos hd,if_pos hd]
  conv=>whnf
  exact zas (by rw [qV,zto])
 rw [zdP,if_neg hd,if_neg hd]
 conv=>whnf
 refine cf (zjn s ⟨hs.1.le (by decide),hs.2.le (by decide)⟩) ?_
 have zd:=zB.sub zA
 generalize hD : s.B.v-s.A.v=d at zd
 rw [hgtE,hD]
 conv=>whnf
 refine zaj.late [(12,7,[10])] (by kernel_rfl) ?_
 conv=>whnf
 refine cd (zj9 x s.A.x (hx.le (by decide)) (hs.1.1.le (by decide))) ?_
 have zf:=zx.sub zA.1
 rw [show s.A.v.x=s.A.x.v from rfl] at *
 generalize x.v-s.A.x.v=f at zf ⊢
 conv=>whnf
 refine cd (zsK (Q f) (Q d.x) (zf.q.le (by decide)) (zd.1.q.le (by decide))) ?_
 rw [Q_v,Q_v,quoV]
 by_cases h0 : d.x=0
 ·rw [if_pos h0,if_pos h0]
  conv=>whnf
  exact zas (by rw [qV,zto])
 rw [if_neg h0,if_neg h0]
 have zt:=zf.div zd.1
 generalize f/d.x=t at zt ⊢
 conv=>whnf
 refine cf (zvM (Q t) (zt.q.le (by decide))) ?_
 rw [Q_v]
 cases hu : zgb t with
 | false =>
  rw [if_neg (by decide)]
  conv=>whnf
  exact zas (by rw [qV,zto])
 | true =>
  rw [if_pos rfl]
  conv=>whnf
  refine zaj.quiet (by kernel_rfl) ?_
  conv=>whnf
  refine cd (zrM (Q t) (Q d.y) (zt.q.le (by decide)) (zd.2.q.le (by decide))) ?_
  rw [Q_v,Q_v]
  conv=>whnf
  refine cd (zrI s.A.y (Q (t*d.y)) (hs.1.2.le (by decide)) ((zt.mul zd.2).q.le (by decide))) ?_
  rw [Q_v]
  conv=>whnf
  exact zas rfl
end Go.Sx
end
section
/- A symbolic executor over loaded Go code: sorts of the library. -/
namespace Go.Sx
open Go Go.RowKit
theorem Bel.grow {w w' : World} (h : Bel w.heap.size w w') : ∃ q os,w'=Go.Sort.grow (w.drewN q) os:=by
 refine ⟨w'.drawn-w.drawn,w'.heap.extract w.heap.size w'.heap.size,?_⟩
 obtain ⟨h1,h2,h3,h4,h5,h6⟩:=h
 have hh : w'.heap=w.heap++w'.heap.extract w.heap.size w'.heap.size:=by
  apply Array.ext_getElem?
  intro k
  by_cases hk : k<w.heap.size
  ·rw [Array.getElem?_append_left hk,h5 k hk]
  ·rw [Array.getElem?_append_right (by omega),Array.getElem?_extract]
   split
   ·rw [show w.heap.size+(k-w.heap.size)=k by omega]
   ·rw [Array.getElem?_eq_none (by omega)]
 cases w; cases w'
 simp only at h1 h2 h3 h6 hh
 subst h1 h2 h3
 simp only [Go.Sort.grow,World.drewN,World.mk.injEq]
 exact ⟨hh,trivial,by omega,trivial,trivial⟩
section
variable {α : Type} [Inhabited α]
theorem zyM {f : α→List Value} {k : Nat} (hk : ∀ x,(f x).length=k) {l : List α} {i j : Nat} {x : α} (hx : l[i]?=some x) (hj : j<k) : (rowV f l)[i*k+j]?=(f x)[j]?:=by
 rw [←zfP hk hx,List.getElem?_take,if_pos hj,List.getElem?_drop]
theorem ztV {enc : α→List Value} {k : Nat} (hk : ∀ x,(enc x).length=k) (d : List α) : Go.Sort.flatK enc k d.toArray=(rowV enc d).toArray:=by
 refine Go.Sort.ext_get! (by simp [zag hk]) fun t ht=>?_
 rw [Go.Sort.size_flatK] at ht
 have ht' : t<d.length*k:=by simpa using ht
 have k0 : 0<k:=by rcases Nat.eq_zero_or_pos k with h | h; · subst h; simp at ht'
                   · exact h
 rw [Go.Sort.get_flatK _ _ _ _ ht]
 have hi : t/k<d.length:=Nat.div_lt_of_lt_mul (by rw [Nat.mul_comm]; exact ht')
 have hx : d[t/k]?=some d[t/k]:=List.getElem?_eq_getElem hi
 have hj : t%k<k:=Nat.mod_lt _ k0
 have h1:=zyM hk hx hj
 rw [Nat.div_add_mod'] at h1
 have hl : t<(rowV enc d).length:=by rw [zag hk]; exact ht'
 have hl2 : t%k<(enc d[t/k]).length:=by rw [hk]; exact hj
 have e1 : d.toArray[t/k]! = d[t/k]:=by rw [getElem!_pos d.toArray (t/k) (by simpa using hi)]; simp
 have e2 : (rowV enc d).toArray[t]! = (rowV enc d)[t]:=by rw [getElem!_pos (rowV enc d).toArray t (by simpa using hl)]; simp
 have e3 : (enc d[t/k])[t%k]! = (enc d[t/k])[t%k]:=getElem!_pos (enc d[t/k]) (t%k) hl2
 rw [e1,e2,e3]
 rw [List.getElem?_eq_getElem hl,List.getElem?_eq_getElem hl2] at h1
 exact (Option.some.inj h1).symm
theorem zsD {xs ys junk : List Value} (h : ys.length=xs.length) : Go.Sort.putCells id 0 ys.toArray (xs++junk).toArray=(ys++junk).toArray:=by
 apply Array.ext_getElem?
 intro j
 simp only [Go.Sort.putCells,Array.getElem?_mapIdx,List.getElem?_toArray]
 by_cases hj : j<ys.length
 ·rw [List.getElem?_append_left hj,List.getElem?_append_left (by omega),List.getElem?_eq_getElem (by omega),List.getElem?_eq_getElem hj,Option.map_some,if_pos ⟨Nat.zero_le _,by simpa using hj⟩]
  simp [hj]
 ·rw [List.getElem?_append_right (by omega),List.getElem?_append_right (by omega),h]
  have : ¬(0≤j∧j<0+ys.toArray.size):=fun k=>hj (by simpa using k.2)
  cases junk[j-xs.length]? with
  | none=>rfl
  | some v=>rw [Option.map_some,if_neg this]
theorem FnW.sortK {P : Program} {ρ : Go.Shelf.Ren} (L : Go.Proofs.SlLaysF0.n6 P ρ) (k : Nat) (aE : ∀ w,(isAgg (ρ.t 24)).run P w=.ok true w) (zE : ∀ w,(Go.sizeOf (ρ.t 24)).run P w=.ok k w) (enc : α→List Value) (hk : ∀ x,(enc x).length=k) (h1 : ∀ x,∀ v∈enc x,v.oneCell'=true) (cf : α→α→Int)
  (hO : Go.Sort.SWO (Go.Proofs.ltOf cf)) (hT : ∀ x y,Go.Proofs.ltOf cf x y=false→Go.Proofs.ltOf cf y x=false→x=y) (g : Nat) (hg : ∀ x y,Fn P g [.agg ⟨enc x⟩,.agg ⟨enc y⟩] (.int .i64 (cf x y))) (t : TypeId) (d : List α) (hd : d.length<4611686018427387904) :
  FnW P (ρ.f 6) [.func (.func g) #[] #[]] [] t d.length (rowV enc d) (rowV enc (d.mergeSort fun x y=>!(Go.Proofs.ltOf cf) y x)) (.tuple #[]):=by
 refine ⟨L.f6.enters rfl,fun w b cap junk hheap hcap _ _=>?_⟩
 have hbs:=(Array.getElem?_eq_some_iff.1 hheap).1
 have hlen : (rowV enc (d.mergeSort fun x y=>!(Go.Proofs.ltOf cf) y x)).length=(rowV enc d).length:=by rw [zag hk,zag hk,List.length_mergeSort]
 have hH : Go.Sort.HoldsK enc k w b 0 d.toArray:=by
  unfold Go.Sort.HoldsK
  rw [ztV hk]
  intro j hj
  have hj : j<(rowV enc d).length:=by simpa using hj
  rw [Nat.zero_add]
  constructor
  ·rw [zbY hheap,List.getElem?_toArray,List.getElem?_append_left hj,List.getElem?_eq_getElem hj]
   simp [hj]
  ·simp [World.frozen?,hheap]
 have hc:=Go.Proofs.AnyQ.slices_SortFunc_total L k aE zE enc hk h1 cf hO g #[] b 0 cap d.toArray w (fun args w=>(hg default default).enters args w) (fun m os dk _ x y=>by
  have:=((hg x y).calls (Go.Proofs.sortWorldK enc k w b 0 m dk os) trivial).mono (R':=fun e w'=>e=.returned (.int .i64 (cf x y))∧∃ q os',w'=Go.Sort.grow ((Go.Proofs.sortWorldK enc k w b 0 m dk os).drewN q) os') (by
   rintro e w' ⟨rfl,hb⟩; exact ⟨rfl,hb.grow⟩)
  simpa using this) hH hbs (by simpa using hd) hT
 simp only [List.size_toArray] at hc
 refine hc.mono ?_
 rintro e w' ⟨rfl,n,os,rfl⟩
 have hheap' : (Go.Proofs.sortWorldK enc k w b 0 n (d.mergeSort fun x y=>!(Go.Proofs.ltOf cf) y x).toArray os).heap=w.heap.modify b (Go.Sort.onCells (Go.Sort.putCells id 0 (rowV enc (d.mergeSort fun x y=>!(Go.Proofs.ltOf cf) y x)).toArray))++os:=by
  unfold Go.Proofs.sortWorldK Go.Sort.grow Go.Sort.putRowK Go.Sort.putRow Go.Sort.mapBlock Go.Sort.ahead
  rw [ztV hk]
 have hold : ∀ c,c<w.heap.size→(Go.Proofs.sortWorldK enc k w b 0 n (d.mergeSort fun x y=>!(Go.Proofs.ltOf cf) y x).toArray os).heap[c]?=if b=c then (w.heap[c]?).map (Go.Sort.onCells (Go.Sort.putCells id 0 (rowV enc (d.mergeSort fun x y=>!(Go.Proofs.ltOf cf) y x)).toArray)) else w.heap[c]?:=fun c hc=>by
  rw [hheap',Array.getElem?_append_left (by simpa using hc),Array.getElem?_modify]
 refine ⟨rfl,?_,⟨rfl,rfl,rfl,?_,fun c hc hne=>?_⟩,?_⟩
 ·rw [hold b hbs,if_pos rfl,hheap]
  simp only [Option.map_some,Go.Sort.onCells]
  rw [zsD hlen]
 ·rw [hheap']; simp
 ·rw [hold c hc,if_neg (fun e=>hne (by rw [e]))]
 ·exact Nat.le_add_right _ _
end
section
variable {P : Program} {T : TT} {C : Cx} {E : Env} {st : SS}
theorem zaT.wrote {w w' : World} (hm : zaT C E st.me st.re w) {k b : Nat} {m0 m' : ME} (hk : lk k st.me=some m0) (hβ : E.β k=some b) (hg : w.grownBy w' (some b)) (hdr : w.drawn≤w'.drawn) (hnew : MEok E w' k m') : zaT C E (setL k m' st.me) st.re w':=by
 have hoth : ∀ c,c<w.heap.size→c≠b→w'.heap[c]?=w.heap[c]?:=fun c hc hcb=>hg.block c hc (fun e=>hcb (Option.some.inj e))
 have hsel : ∀ {j m},lk j (setL k m' st.me)=some m→(j=k∧m=m')∨(j≠k∧lk j st.me=some m):=by
  intro j m hj
  rw [zfn] at hj
  split at hj
  ·rename_i e; rw [hk] at hj; cases hj; exact .inl ⟨e,rfl⟩
  ·rename_i e; exact .inr ⟨e,hj⟩
 have hsz:=hg.size
 refine ⟨fun j m hj=>?_,fun j m c hj hc=>?_,fun j j' m m' c hj hj' hc hc'=>?_,fun R hR=>?_,?_,fun j c m hX hj=>?_⟩
 ·rcases hsel hj with ⟨rfl,rfl⟩ | ⟨hne,hj⟩
  ·exact hnew
  ·exact (hm.ent j m hj).of_block (fun c hc=>hoth c (hm.ge _ _ _ hj hc).2 (fun e=>hne (hm.inj _ _ _ _ _ hj hk hc (by rw [e]; exact hβ))))
 ·rcases hsel hj with ⟨rfl,rfl⟩ | ⟨hne,hj⟩
  ·have:=hm.ge _ _ _ hk hc; exact ⟨this.1,by omega⟩
  ·have:=hm.ge _ _ _ hj hc; exact ⟨this.1,by omega⟩
 ·have h1 : ∃ m,lk j st.me=some m:=by rcases hsel hj with ⟨rfl,_⟩ | ⟨_,hj⟩; exact ⟨_,hk⟩; exact ⟨_,hj⟩
  have h2 : ∃ m,lk j' st.me=some m:=by rcases hsel hj' with ⟨rfl,_⟩ | ⟨_,hj⟩; exact ⟨_,hk⟩; exact ⟨_,hj⟩
  obtain ⟨_,h1⟩:=h1
  obtain ⟨_,h2⟩:=h2
  exact hm.inj _ _ _ _ _ h1 h2 hc hc'
 ·obtain ⟨r1,r2,r3⟩:=hm.res R hR
  have hne : ∀ c∈R.bs,w'.heap[c]?=w.heap[c]?:=fun c hc=>hoth c (r3 c hc).1.lt (fun e=>(r3 c hc).2 k _ hk (by rw [e]; exact hβ))
  refine ⟨r1,r1 _ _ r2 hne,fun c hc=>⟨(r3 c hc).1.keep (hne c hc),fun j m hj hjc=>?_⟩⟩
  rcases hsel hj with ⟨rfl,rfl⟩ | ⟨_,hj⟩
  ·exact (r3 c hc).2 _ _ hk hjc
  ·exact (r3 c hc).2 _ _ hj hjc
 ·have hx:=hm.ext
  refine ⟨hg.os.trans hx.os,hg.tape.trans hx.tape,hg.output.trans hx.output,Nat.le_trans hx.size hg.size,fun c hc hnx=>?_,Nat.le_trans hx.drawn hdr⟩
  refine (hoth c (Nat.lt_of_lt_of_le hc hx.size) (fun e=>?_)).trans (hx.block c hc hnx)
  subst e
  rcases (hm.ge _ _ _ hk hβ).1 with h7 | h7
  ·omega
  ·exact hnx h7
 ·rcases hsel hj with ⟨e,rfl⟩ | ⟨_,hj⟩
  ·have:=hm.rig j c _ hX (by rw [e]; exact hk); exact this
  ·exact hm.rig j c m hX hj
theorem KD.wrote {w w' : World} {b : Nat} {cs : Array Value} {t : TypeId} {fr : Nat×Nat} (hg : w.grownBy w' (some b)) (hc : w.heap[b]?=some (.cells cs t fr)) : KD w w':=fun c hcc=>by
 refine (hg.block c (Array.getElem?_eq_some_iff.1 hcc).1 (fun e=>?_)).trans hcc
 have e:=Option.some.inj e
 subst e
 rw [hc] at hcc; cases hcc
theorem zac.ws {g : FuncId} {vs : List Value} {re : List Res} {t n c k : Nat} {cs xs ys junk : List Value} {r : Value} {K : SV→SS→Prop} (h : FnW P g vs re t n xs ys r) (hk : lk k st.me=some (.sym cs t)) (hcs : cs=xs++junk) (hnc : n≤c)
  (hre : ∀ R∈re,R∈st.re) (hK : K (.o (.v r)) { st with me:=setL k (.sym (ys++junk) t) st.me }) {args : List SV} (ha : args=.o (.s k 0 n c)::vsv vs) : zac P C g args st K:=by
 subst ha hcs
 refine ⟨h.enters,fun E w hm=>?_⟩
 obtain ⟨b,hβ,hheap⟩:=hm.ent _ _ hk
 have hreal : (SV.o (.s k 0 n c)).real E=.slice (some ⟨b,0,none⟩) n c:=by simp [SV.real,AV.real,hβ]
 rw [List.map_cons,zbd,hreal]
 refine (h.calls w b c junk hheap hnc (fun R hR=>(hm.res R (hre R hR)).2.1) (fun R hR hb=>((hm.res R (hre R hR)).2.2 b hb).2 k _ hk hβ)).mono ?_
 rintro e w' ⟨rfl,hnew,hg,hdr⟩
 exact ⟨E,{ st with me:=setL k (.sym (ys++junk) t) st.me },.o (.v r),rfl,hm.wrote hk hβ hg hdr ⟨b,hβ,hnew⟩,KD.wrote hg hheap,fun i sv hi=>⟨sv,hi,rfl⟩,hK⟩
structure FnC (P : Program) (f : FuncId) (vs : List Value) (re : List Res) (t n : Nat) (xs : List Value) (m : Nat) (ys : List Value) : Prop where
 enters : Enters P f
 calls : ∀ (w : World) (b cap : Nat) (junk : List Value),w.heap[b]?=some (.cells (xs++junk).toArray t (0,0))→n≤cap→facts re w→(∀ R∈re,b ∉ R.bs) →
  Calls P f (Value.slice (some ⟨b,0,none⟩) n cap::vs).toArray w fun e w'=>e=.returned (.slice (some ⟨b,0,none⟩) m cap)∧(∃ jk,w'.heap[b]?=some (.cells (ys++jk).toArray t (0,0))∧(ys++jk).length=(xs++junk).length)∧w.grownBy w' (some b)∧w.drawn≤w'.drawn
theorem FnC.of (hT : zaQ P T) (hmix : P.follows .mixedOrders=true) {f : FuncId} {fn : Func} {c : Code} {vs : List Value} {re : List Res} {t n m : Nat} {xs ys : List Value}
  (hf : P.funcs[f]? = some fn) (hb : fn.body = some c) (hnm : (fn.name == "runtime.NumGoroutine") = false) (hn : vs.length + 1 ≤ fn.ntmps) (hok : ∀ R ∈ re, R.ok)
  (hs : ∀ w b cap (junk : List Value),n≤cap→facts re w→zc9 P T ⟨w,[b],fn.ntmps⟩ c ⟨zeS 0 (.o (.s fn.ntmps 0 n cap)::vsv vs),[(fn.ntmps,.sym (xs++junk) t)],re⟩ (retQ T fn (fun l st=>l=[.o (.s fn.ntmps 0 m cap)]∧∃ jk,lk fn.ntmps st.me=some (.sym (ys++jk) t)∧(ys++jk).length=(xs++junk).length))) :
  FnC P f vs re t n xs m ys:=by
 refine ⟨zeR hf hnm (by rw [hb]; rfl),fun w b cap junk hw hcap hfa hdis=>?_⟩
 have E0 : Env:=⟨fun _=>none,fun _=>(0,0)⟩
 have hlen : ∀ l : List Value,(vsv l).length=l.length:=fun l=>by induction l with | nil=>rfl | cons x r ih=>simp [vsv,ih]
 have hβ : (E0.setO fn.ntmps (some b) (0,0)).β fn.ntmps=some b:=by simp [Env.setO]
 have hlk : ∀ {k m},lk k [(fn.ntmps,ME.sym (xs++junk) t)]=some m→k=fn.ntmps∧m=.sym (xs++junk) t:=by
  intro k m h
  rw [zax] at h
  split at h
  ·rename_i e; cases h; exact ⟨e,rfl⟩
  ·cases h
 have hmem : zaT ⟨w,[b],fn.ntmps⟩ (E0.setO fn.ntmps (some b) (0,0)) [(fn.ntmps,.sym (xs++junk) t)] re w:=by
  refine ⟨fun k m hk=>?_,fun k m c' hk hc=>?_,fun k k' m m' c' hk hk' _ _=>?_,fun R hR=>⟨(hok R hR).1,hfa R hR,fun c' hc=>⟨(hok R hR).2 w (hfa R hR) c' hc,fun k m hk hkc=>?_⟩⟩,Ext.refl _ _,fun j c' m hX hj=>?_⟩
  ·obtain ⟨rfl,rfl⟩:=hlk hk
   exact ⟨b,hβ,hw⟩
  ·obtain ⟨rfl,rfl⟩:=hlk hk
   rw [hβ] at hc; cases hc
   exact ⟨.inr (List.mem_singleton.2 rfl),(Array.getElem?_eq_some_iff.1 hw).1⟩
  ·rw [(hlk hk).1,(hlk hk').1]
  ·obtain ⟨rfl,rfl⟩:=hlk hk
   rw [hβ] at hkc; cases hkc
   exact hdis R hR hc
  ·have:=(hlk hj).1
   have hj0 : j=0:=by simp only at this; omega
   subst hj0
   simp at hX
   subst hX
   exact hβ
 have:=zcc (T:=T) hT hmix (E:=E0.setO fn.ntmps (some b) (0,0)) (args:=.o (.s fn.ntmps 0 n cap)::vsv vs) hf hb (by rw [List.length_cons,hlen]; exact hn) hmem (WPS.of hT hmix (hs w b cap junk hcap hfa))
  (R:=fun e w'=>e=.returned (.slice (some ⟨b,0,none⟩) m cap)∧(∃ jk,w'.heap[b]?=some (.cells (ys++jk).toArray t (0,0))∧(ys++jk).length=(xs++junk).length)∧w.grownBy w' (some b)∧w.drawn≤w'.drawn) (fun l st E' w' hp hm=>by
   obtain ⟨rfl,jk,hk,hl⟩:=hp
   have h1:=hm.rig 0 b _ rfl hk
   obtain ⟨b',h2,h3⟩:=hm.ent _ _ hk
   rw [show fn.ntmps+0=fn.ntmps from rfl] at h1
   rw [h1] at h2; cases h2
   exact ⟨by simp [retV,SV.real,AV.real,h1],⟨jk,h3,hl⟩,⟨hm.ext.os,hm.ext.tape,hm.ext.output,hm.ext.size,fun k hk' hne=>hm.ext.block k hk' (fun hx=>hne (by rw [List.mem_singleton.1 hx]))⟩,hm.ext.drawn⟩)
 rw [List.map_cons,zbd] at this
 have hreal : (SV.o (.s fn.ntmps 0 n cap)).real (E0.setO fn.ntmps (some b) (0,0))=.slice (some ⟨b,0,none⟩) n cap:=by simp [SV.real,AV.real,hβ]
 rw [hreal] at this
 exact this
theorem zac.cs {g : FuncId} {vs : List Value} {re : List Res} {t n m c k : Nat} {cs xs ys junk : List Value} {K : SV→SS→Prop} (h : FnC P g vs re t n xs m ys) (hk : lk k st.me=some (.sym cs t)) (hcs : cs=xs++junk) (hnc : n≤c)
  (hre : ∀ R∈re,R∈st.re) (hK : ∀ jk,(ys++jk).length=(xs++junk).length→K (.o (.s k 0 m c)) { st with me:=setL k (.sym (ys++jk) t) st.me }) {args : List SV} (ha : args=.o (.s k 0 n c)::vsv vs) : zac P C g args st K:=by
 subst ha hcs
 refine ⟨h.enters,fun E w hm=>?_⟩
 obtain ⟨b,hβ,hheap⟩:=hm.ent _ _ hk
 have hreal : ∀ n,(SV.o (.s k 0 n c)).real E=.slice (some ⟨b,0,none⟩) n c:=fun n=>by simp [SV.real,AV.real,hβ]
 rw [List.map_cons,zbd,hreal]
 refine (h.calls w b c junk hheap hnc (fun R hR=>(hm.res R (hre R hR)).2.1) (fun R hR hb=>((hm.res R (hre R hR)).2.2 b hb).2 k _ hk hβ)).mono ?_
 rintro e w' ⟨rfl,⟨jk,hnew,hl⟩,hg,hdr⟩
 exact ⟨E,{ st with me:=setL k (.sym (ys++jk) t) st.me },.o (.s k 0 m c),by rw [hreal],hm.wrote hk hβ hg hdr ⟨b,hβ,hnew⟩,KD.wrote hg hheap,fun i sv hi=>⟨sv,hi,rfl⟩,hK jk hl⟩
theorem zac.cw (z : Nat) {g : FuncId} {vs : List Value} {re : List Res} {t es n m k : Nat} {xs ys : List Value} {K : SV→SS→Prop} (h : FnC P g vs re t n xs m ys) (hk : lk k st.me=some (.own t es n xs)) (hn : 0<n) (hmn : m≤n) (hys : ys.length=m*es)
  (hre : ∀ R∈re,R∈st.re) (hz : st.has z=false) (hzN : zbt C.N (some z)=true) (hK : K (.o (.w z)) { st with me:=(z,.own t es m ys)::rmL k st.me }) {args : List SV} (ha : args=.o (.w k)::vsv vs) : zac P C g args st K:=by
 subst ha
 refine ⟨h.enters,fun E w hm=>?_⟩
 have hent:=hm.ent _ _ hk
 obtain ⟨hl,hω,⟨_,_,h0⟩ | ⟨b,cur,hβ,hheap,h4,h5,h6,htake⟩⟩:=zbz hent
 ·omega
 have hreal : (SV.o (.w k)).real E=.slice (some ⟨b,0,none⟩) n (E.ω k).2:=by simp [SV.real,AV.real,hβ,hω]
 rw [List.map_cons,zbd,hreal]
 have hcur : cur.toList=xs++cur.toList.drop (n*es):=by rw [←htake,List.take_append_drop]
 have hheap' : w.heap[b]?=some (.cells (xs++cur.toList.drop (n*es)).toArray t (0,0)):=by rw [hheap,←hcur]
 refine (h.calls w b _ _ hheap' h4 (fun R hR=>(hm.res R (hre R hR)).2.1) (fun R hR hb=>((hm.res R (hre R hR)).2.2 b hb).2 k _ hk hβ)).mono ?_
 rintro e w' ⟨rfl,⟨jk,hnew,hjl⟩,hg,hdr⟩
 have hown : w'.ownsRow 0 t es (.slice (some ⟨b,0,none⟩) m (E.ω k).2) m ys:=by
  refine ⟨hys,.inr ⟨b,_,_,rfl,Nat.zero_le _,hnew,by omega,h5,?_,?_⟩⟩
  ·rw [List.size_toArray,hjl,←hcur,Array.length_toList]; exact h6
  ·show (ys++jk).take (m*es)=ys
   rw [←hys]; exact List.take_left
 have hfe : ({ st with tm:=[] } : SS).has z=false:=by
  unfold SS.has at hz ⊢
  rw [Bool.or_eq_false_iff] at hz
  simp only [List.any_nil,Bool.false_or]
  exact hz.2
 have hmo:=((zaT.act (st:=st) hm).own hzN hfe (kk:=some k) (row:=some b) hdr hg (fun b' hb'=>⟨k,_,rfl,hk,by rw [←hb']; exact hβ,by cases hb'; exact ⟨_,hheap,rfl⟩⟩) hown (fun b' hb'=>.inr (by cases hb'; rfl))).mem
 obtain ⟨hbut,hr2,_⟩:=zc3 (E:=E) (d:=z) hown
 exact ⟨zav E z (.slice (some ⟨b,0,none⟩) m (E.ω k).2),{ st with me:=(z,.own t es m ys)::rmL k st.me },.o (.w z),by rw [show (SV.o (.w z)).real (zav E z _)=_ from hr2],hmo,KD.wrote hg hheap,fun i sv hi=>⟨sv,hi,SV.real_but hbut (SS.has_tm hz hi)⟩,hK⟩
def Fr (w : World) (A : Option Addr) : Prop:=∀ a,A=some a→w.heap.size≤a.block
theorem Fr.bs {w : World} {A : Option Addr} {xs : List Value} (h : Fr w A) : ∀ b∈(zaf A xs).bs,w.heap.size≤b:=fun b hb=>by
 obtain ⟨a,h1,h2⟩:=zmd hb
 rw [h2]; exact h a h1
theorem zac.z {g : FuncId} {args : List SV} {t es n : Nat} {xs : List Value} {K : SV→SS→Prop} (hE : Enters P g) (h : zaB P g args st (zdn t es n xs)) (hk : ∀ A c,n≤c→Fr C.W0 A→K (.o (.v (.slice A n c))) { st with re:=zaf A xs::st.re }) : zac P C g args st K:=by
 refine ⟨hE,fun E w hm=>(h E w (fun k mm _ hk=>hm.ent k mm hk) (fun R hR=>(hm.res R hR).2.1)).mono ?_⟩
 rintro e w' ⟨v,rfl,hown,hb⟩
 obtain ⟨A,c,rfl,hn,hs,hge⟩ : ∃ A c,v=.slice A n c∧n≤c∧SlF A xs w'∧∀ a,A=some a→w.heap.size≤a.block:=by
  obtain ⟨A,c,hv,hs⟩:=zvE hown
  obtain ⟨h1,⟨rfl,rfl⟩ | ⟨g',cap,cur,rfl,h3,h4,h5,h6,h7,h8⟩⟩:=hown
  ·exact ⟨none,0,rfl,Nat.le_refl _,.inl (List.length_eq_zero_iff.1 (by simpa using h1)),fun a ha=>by cases ha⟩
  ·injection hv with e1 _ e3
   subst e1 e3
   exact ⟨_,_,rfl,h5,hs,fun a ha=>by cases ha; exact h3⟩
 refine ⟨E,{ st with re:=zaf A xs::st.re },.o (.v (.slice A n c)),rfl,(hm.world (st:=st) hb).more (zaf.ok _ _) hs (fun b hb' k m hkk hβ=>?_),KD.below hb,fun i sv hi=>⟨sv,hi,rfl⟩,hk A c hn (fun a ha=>Nat.le_trans hm.ext.size (hge a ha))⟩
 obtain ⟨a,h1,h2⟩:=zmd hb'
 have h3:=hge a h1
 have:=(hm.ge k m b hkk hβ).2
 omega
def zhU {ι : Type} (val : ι→Value) (re : ι→List Res) (w : World) (e : Ending) (w' : World) : Prop:=∃ i,e=.returned (val i)∧facts (re i) w'∧(∀ R∈re i,∀ b∈R.bs,w.heap.size≤b)∧Bel w.heap.size w w'
def zx5 {ι : Type} (val : ι→Value) (re : ι→List Res) (W0 : World) (l : List SV) (st : SS) : Prop:=∀ N E w',zaT ⟨W0,[],N⟩ E st.me st.re w'→∃ i,retV (l.map (SV.real E))=val i∧facts (re i) w'∧∀ R∈re i,∀ b∈R.bs,W0.heap.size≤b
theorem zaT.frz {W0 : World} {N : Nat} {w : World} (hm : zaT ⟨W0,[],N⟩ E st.me st.re w) {k t es n : Nat} {xs : List Value} (hk : lk k st.me=some (.own t es n xs)) : ∃ A c,(AV.w k).real E=.slice A n c∧n≤c∧SlF A xs w∧Fr W0 A:=by
 have hent:=hm.ent _ _ hk
 obtain ⟨A,c,hr,hn,hs⟩:=RdA.own hk E w (fun k' mm _ hk'=>hm.ent k' mm hk') (fun R hR=>(hm.res R hR).2.1)
 refine ⟨A,c,hr,hn,hs,fun a ha=>?_⟩
 have h4 : Value.slice ((E.β k).map fun b=>⟨b,0,none⟩) (E.ω k).1 (E.ω k).2=.slice A n c:=hr
 injection h4 with h5
 subst ha
 cases hβ : E.β k with
 | none=>rw [hβ] at h5; cases h5
 | some d =>
  rw [hβ] at h5
  simp only [Option.map_some,Option.some.injEq] at h5
  rw [←h5]
  rcases (hm.ge k _ d hk hβ).1 with h | h
  ·exact h
  ·cases h
theorem FnE.of (hT : zaQ P T) (hmix : P.follows .mixedOrders=true) {f : FuncId} {fn : Func} {c : Code} {vs : List Value} {re : List Res} {ι : Type} {val : ι→Value} {rs : ι→List Res}
  (hf : P.funcs[f]? = some fn) (hb : fn.body = some c) (hnm : (fn.name == "runtime.NumGoroutine") = false) (hn : vs.length ≤ fn.ntmps) (hok : ∀ R ∈ re, R.ok)
  (hs : ∀ w,facts re w→zc9 P T ⟨w,[],fn.ntmps⟩ c ⟨zeS 0 (vsv vs),[],re⟩ (retQ T fn (fun l st=>zx5 val rs w l st))) : FnM P f vs (facts re) (zhU val rs):=by
 refine ⟨zeR hf hnm (by rw [hb]; rfl),fun w hw=>?_⟩
 have E0 : Env:=⟨fun _=>none,fun _=>(0,0)⟩
 have:=zcc (T:=T) hT hmix (E:=E0) hf hb (by
  have : ∀ l : List Value,(vsv l).length=l.length:=fun l=>by induction l with | nil=>rfl | cons x r ih=>simp [vsv,ih]
  rw [this]; exact hn) (zaT.init w [] fn.ntmps E0 hok hw) (WPS.of hT hmix (hs w hw)) (R:=zhU val rs w) (fun l st E' w' hp hm=>by
   obtain ⟨i,h1,h2,h3⟩:=hp _ _ _ hm
   exact ⟨i,by rw [h1],h2,h3,hm.ext.below⟩)
 rw [zbd] at this
 exact this
theorem zac.e {ι : Type} {val : ι→Value} {re : ι→List Res} {g : FuncId} {args : List SV} {K : SV→SS→Prop} (hE : Enters P g) (h : zaB P g args st (zhU val re)) (hok : ∀ i,∀ R∈re i,R.ok)
  (hk : ∀ i,(∀ R∈re i,∀ b∈R.bs,C.W0.heap.size≤b)→K (.o (.v (val i))) { st with re:=re i++st.re }) : zac P C g args st K:=by
 refine ⟨hE,fun E w hm=>(h E w (fun k mm _ hk=>hm.ent k mm hk) (fun R hR=>(hm.res R hR).2.1)).mono ?_⟩
 rintro e w' ⟨i,rfl,hf,hge,hb⟩
 have hm':=hm.world (st:=st) hb
 have key : ∀ l : List Res,(∀ R∈l,R∈re i)→zaT C E st.me (l++st.re) w':=by
  intro l
  induction l with
  | nil=>intro _; exact hm'
  | cons R l ih =>
   intro hl
   refine (ih (fun R hR=>hl R (List.mem_cons_of_mem _ hR))).more (hok i R (hl R (List.mem_cons_self ..))) (hf R (hl R (List.mem_cons_self ..))) (fun b hb' k m hkk hβ=>?_)
   have h3:=hge R (hl R (List.mem_cons_self ..)) b hb'
   have:=(hm.ge k m b hkk hβ).2
   omega
 exact ⟨E,{ st with re:=re i++st.re },.o (.v (val i)),rfl,key _ (fun R hR=>hR),KD.below hb,fun i sv hi=>⟨sv,hi,rfl⟩,hk i (fun R hR b hb'=>Nat.le_trans hm.ext.size (hge R hR b hb'))⟩
theorem SLe.own (i k z t es n : Nat) {cs : List AV} {xs : List Value} (hi : lk i st.tm=some (.o (.s k 0 n n))) (hk : lk k st.me=some (.box cs t)) (hx : allV cs=some xs) (hl : xs.length=n*es) (hn : n≤1000000) (hz : st.has z=false) (hzN : zbt C.N (some z)=true) :
  SLe C st ⟨(i,.o (.w z))::st.tm,(z,.own t es n xs)::rmL k st.me,st.re⟩:=by
 rintro a w ⟨E,h⟩
 obtain ⟨b,hβ,hc⟩:=h.mem.ent _ _ hk
 rw [zba E hx] at hc
 have hreal : (SV.o (.s k 0 n n)).real E=.slice (some ⟨b,0,none⟩) n n:=by simp [SV.real,AV.real,hβ]
 have hown : w.ownsRow 0 t es (.slice (some ⟨b,0,none⟩) n n) n xs:=⟨hl,.inr ⟨b,n,_,rfl,Nat.zero_le _,hc,Nat.le_refl _,by unfold maxLen; omega,by simp [hl],by rw [←hl]; exact List.take_length⟩⟩
 have hfe : ({ st with tm:=[] } : SS).has z=false:=by
  unfold SS.has at hz ⊢
  rw [Bool.or_eq_false_iff] at hz
  simp only [List.any_nil,Bool.false_or]
  exact hz.2
 have hmo:=((zaT.act (st:=st) h.mem).own hzN hfe (kk:=some k) (row:=some b) (by exact Nat.le_refl _) (World.grownBy.refl_ w _) (fun b' hb'=>⟨k,_,rfl,hk,by rw [←hb']; exact hβ,by cases hb'; exact ⟨_,hc,rfl⟩⟩) hown (fun b' hb'=>.inr (by cases hb'; rfl))).mem
 obtain ⟨hbut,hr2,_⟩:=zc3 (E:=E) (d:=z) hown
 refine ⟨zav E z (.slice (some ⟨b,0,none⟩) n n),h.size,h.defers,fun j sv hj=>?_,hmo⟩
 simp only [zax] at hj
 split at hj
 ·rename_i e; subst e; cases hj
  rw [h.tm _ _ hi,hreal,show (SV.o (.w z)).real (zav E z _)=_ from hr2]
 ·rw [SV.real_but hbut (SS.has_tm hz hj)]; exact h.tm j sv hj
theorem zmj.of {p : SS→Prop} (h : SLX C st p) : zmj C st p:=⟨fun E a w hr=>let ⟨t,hp,E',h'⟩:=h a w ⟨E,hr⟩; ⟨E',t,hp,h'⟩⟩
theorem Fr.own {W0 : World} {N : Nat} {w : World} (hm : zaT ⟨W0,[],N⟩ E st.me st.re w) {k t es n : Nat} {xs : List Value} (hk : lk k st.me=some (.own t es n xs)) {A : Option Addr} {c : Nat} (hr : (AV.w k).real E=.slice A n c) : Fr W0 A:=fun a ha=>by
 have h4 : Value.slice ((E.β k).map fun b=>⟨b,0,none⟩) (E.ω k).1 (E.ω k).2=.slice A n c:=hr
 injection h4 with h5
 subst ha
 cases hβ : E.β k with
 | none=>rw [hβ] at h5; cases h5
 | some d =>
  rw [hβ] at h5
  simp only [Option.map_some,Option.some.injEq] at h5
  rw [←h5]
  rcases (hm.ge k _ d hk hβ).1 with h | h
  ·exact h
  ·cases h
theorem SLX.freezeF {W0 : World} {N : Nat} (k : Nat) {t es n : Nat} {xs : List Value} {p : SS→Prop} (hx : lk k st.me=some (.own t es n xs)) (h : ∀ A cp,n≤cp→Fr W0 A→SLX ⟨W0,[],N⟩ (st.fz k (AV.fzO k (.slice A n cp)) (zaf A xs)) p) : SLX ⟨W0,[],N⟩ st p:=by
 rintro a w ⟨E,hE⟩
 obtain ⟨A,cp,hr2,hn,hs⟩:=RdA.own hx E w (fun k' mm _ hk'=>hE.mem.ent k' mm hk') (fun R hR=>(hE.mem.res R hR).2.1)
 refine h A cp hn (Fr.own hE.mem hx hr2) a w ⟨E,hE.fz hx (zyU hr2) (zaf.ok _ _) hs (fun b' hb'=>?_)⟩
 obtain ⟨a',h1,h2⟩:=zmd hb'
 subst h1
 have h4 : Value.slice ((E.β k).map fun b=>⟨b,0,none⟩) (E.ω k).1 (E.ω k).2=.slice (some a') n cp:=hr2
 injection h4 with h5
 cases hβ : E.β k with
 | none=>rw [hβ] at h5; cases h5
 | some d=>rw [hβ] at h5; simp only [Option.map_some,Option.some.injEq] at h5; rw [h2,←h5]
theorem WPS.ofX {c : Code} {Q : Exit→SS→Prop} (h : SLX C st (fun s=>WPS P C c s Q)) : WPS P C c st Q:=⟨fun a w hr=>let ⟨t,hp,ht⟩:=h a w hr; hp.wp a w ht⟩
theorem SLX.here {p : SS→Prop} (h : p st) : SLX C st p:=fun a w hr=>⟨st,h,hr⟩
theorem SLe.nilB (k z t es : Nat) {cs ds : List AV} {ty : TypeId} (hk : lk k st.me=some (.box (cs++.v (.slice none 0 0)::ds) ty)) (hz : st.has z=false) (hX : C.X=[]:=by rfl) :
  SLe C st ⟨st.tm,(k,.box (cs++.w z::ds) ty)::(z,.own t es 0 [])::st.me,st.re⟩:=by
 rintro a w ⟨E,h⟩
 have hbut:=Env.setO_but E z none (0,0)
 have hkz : k≠z:=(SS.has_me hz hk).1
 have hlk : ∀ {j m},lk j ((k,ME.box (cs++.w z::ds) ty)::(z,.own t es 0 [])::st.me)=some m→(j=k∧m=.box (cs++.w z::ds) ty)∨(j=z∧m=.own t es 0 [])∨(j≠z∧j≠k∧lk j st.me=some m):=fun {j m} hj=>by
  simp only [zax] at hj
  split at hj
  ·rename_i e; exact .inl ⟨e,by cases hj; rfl⟩
  ·rename_i e1
   split at hj
   ·rename_i e; exact .inr (.inl ⟨e,by cases hj; rfl⟩)
   ·rename_i e2; exact .inr (.inr ⟨e2,e1,hj⟩)
 have hold : ∀ {j m},lk j ((k,ME.box (cs++.w z::ds) ty)::(z,.own t es 0 [])::st.me)=some m→(j=z∧(E.setO z none (0,0)).β j=none)∨(j≠z∧(∃ m',lk j st.me=some m')∧(E.setO z none (0,0)).β j=E.β j):=fun {j m} hj=>by
  rcases hlk hj with ⟨rfl,_⟩ | ⟨rfl,_⟩ | ⟨hjz,_,hj'⟩
  ·exact .inr ⟨hkz,⟨_,hk⟩,(hbut _ hkz).1⟩
  ·exact .inl ⟨rfl,by simp [Env.setO]⟩
  ·exact .inr ⟨hjz,⟨_,hj'⟩,(hbut _ hjz).1⟩
 refine ⟨E.setO z none (0,0),h.size,h.defers,fun j sv hj=>?_,fun j m hj=>?_,fun j m b hj hb=>?_,fun j j' m m' b hj hj' hb hb'=>?_,fun R hR=>?_,h.mem.ext,fun j b m hXj hj=>by rw [hX] at hXj; simp at hXj⟩
 ·rw [SV.real_but hbut (SS.has_tm hz hj)]; exact h.tm j sv hj
 ·rcases hlk hj with ⟨rfl,rfl⟩ | ⟨rfl,rfl⟩ | ⟨hjz,_,hj'⟩
  ·obtain ⟨b,hb,hc⟩:=h.mem.ent _ _ hk
   refine ⟨b,by rw [(hbut _ hkz).1]; exact hb,?_⟩
   rw [hc]
   have hh:=(SS.has_me hz hk).2
   simp only [ME.has,List.any_append,List.any_cons,Bool.or_eq_false_iff] at hh
   rw [List.map_append,List.map_append,List.map_cons,List.map_cons,AV.map_but hbut hh.1,AV.map_but hbut hh.2.2]
   have : (AV.w z).real (E.setO z none (0,0))=(AV.v (.slice none 0 0)).real E:=by simp [AV.real,Env.setO]
   rw [this]
  ·simp only [MEok,Env.setO,if_true,Option.map_none]
   exact World.ownsRow_nil _ _ _ _
  ·exact (h.mem.ent _ _ hj').but hbut hjz (SS.has_me hz hj').2
 ·rcases hold hj with ⟨_,e⟩ | ⟨_,⟨m',hm'⟩,e⟩
  ·rw [e] at hb; cases hb
  ·rw [e] at hb; exact h.mem.ge _ _ _ hm' hb
 ·rcases hold hj with ⟨_,e⟩ | ⟨_,⟨m1,hm1⟩,e⟩
  ·rw [e] at hb; cases hb
  ·rcases hold hj' with ⟨_,e'⟩ | ⟨_,⟨m2,hm2⟩,e'⟩
   ·rw [e'] at hb'; cases hb'
   ·rw [e] at hb; rw [e'] at hb'; exact h.mem.inj _ _ _ _ _ hm1 hm2 hb hb'
 ·obtain ⟨r1,r2,r3⟩:=h.mem.res R hR
  refine ⟨r1,r2,fun b hb=>⟨(r3 b hb).1,fun j m hj=>?_⟩⟩
  rcases hold hj with ⟨_,e⟩ | ⟨_,⟨m',hm'⟩,e⟩
  ·rw [e]; simp
  ·rw [e]; exact (r3 b hb).2 _ _ hm'
end
end Go.Sx
end
section
/- The layings of the library's sorts at this program. -/
namespace Go.Proofs
open Go.Shelf
def Tryz.sort_crossing_ren : Go.Shelf.Ren:=⟨fun | 6=>91 | 15=>163 | 14=>162 | 28=>224 | 29=>225 | 20=>216 | 21=>217 | 22=>218 | 23=>219 | 24=>220 | 25=>221 | 26=>222 | 27=>223 | 46=>252 | 47=>253 | 48=>254 | 49=>255 | 50=>256 | 57=>274 | n=>n,fun | 22=>131 | 24=>133 | 25=>137 | 3=>3 | 39=>182 | 0=>0 | 53=>199 | 55=>198 | 4=>4 | 46=>214 | 45=>213 | 50=>218 | 5=>5 | 9=>9 | 66=>239 | 70=>243 | 76=>259 | 77=>260 | n=>n,fun | n=>n⟩
theorem Tryz.sort_crossing : Go.Proofs.SlLaysF0.n6 Tryz.prog Tryz.sort_crossing_ren:={
 mixed:=by kernel_rfl
 f6:=⟨Tryz.f91.name,by decide,Tryz.func91.trans (congrArg some (by kernel_rfl))⟩
 f14:=⟨Tryz.f162.name,by decide,Tryz.func162.trans (congrArg some (by kernel_rfl))⟩
 f15:=Tryz.func163.trans (congrArg some (by kernel_rfl))
 f20:=⟨Tryz.f216.name,by decide,Tryz.func216.trans (congrArg some (by kernel_rfl))⟩
 f21:=⟨Tryz.f217.name,by decide,Tryz.func217.trans (congrArg some (by kernel_rfl))⟩
 f22:=⟨Tryz.f218.name,by decide,Tryz.func218.trans (congrArg some (by kernel_rfl))⟩
 f23:=⟨Tryz.f219.name,by decide,Tryz.func219.trans (congrArg some (by kernel_rfl))⟩
 f24:=⟨Tryz.f220.name,by decide,Tryz.func220.trans (congrArg some (by kernel_rfl))⟩
 f25:=⟨Tryz.f221.name,by decide,Tryz.func221.trans (congrArg some (by kernel_rfl))⟩
 f26:=⟨Tryz.f222.name,by decide,Tryz.func222.trans (congrArg some (by kernel_rfl))⟩
 f27:=⟨Tryz.f223.name,by decide,Tryz.func223.trans (congrArg some (by kernel_rfl))⟩
 f28:=Tryz.func224.trans (congrArg some (by kernel_rfl))
 f29:=Tryz.func225.trans (congrArg some (by kernel_rfl))
 f46:=⟨Tryz.f252.name,by decide,Tryz.func252.trans (congrArg some (by kernel_rfl))⟩
 f47:=Tryz.func253.trans (congrArg some (by kernel_rfl))
 f48:=Tryz.func254.trans (congrArg some (by kernel_rfl))
 f49:=⟨Tryz.f255.name,by decide,Tryz.func255.trans (congrArg some (by kernel_rfl))⟩
 f50:=⟨Tryz.f256.name,by decide,Tryz.func256.trans (congrArg some (by kernel_rfl))⟩
 f57:=⟨Tryz.f274.name,by decide,Tryz.func274.trans (congrArg some (by kernel_rfl))⟩
 t0:=Tryz.underlying0
 a0:=Tryz.isAgg0
 z0:=Tryz.sizeOf0
 v0:=Tryz.zeroValue0
 t3:=Tryz.underlying3
 a3:=Tryz.isAgg3
 z3:=Tryz.sizeOf3
 v3:=Tryz.zeroValue3
 t4:=Tryz.underlying4
 a4:=Tryz.isAgg4
 z4:=Tryz.sizeOf4
 v4:=Tryz.zeroValue4
 t5:=Tryz.underlying5
 a5:=Tryz.isAgg5
 z5:=Tryz.sizeOf5
 v5:=Tryz.zeroValue5
 t9:=Tryz.underlying9
 a9:=Tryz.isAgg9
 z9:=Tryz.sizeOf9
 v9:=Tryz.zeroValue9
 t22:=Tryz.underlying131
 a22:=Tryz.isAgg131
 z22:=Tryz.sizeOf131
 v22:=Tryz.zeroValue131
 t25:=Tryz.underlying137
 a25:=Tryz.isAgg137
 z25:=Tryz.sizeOf137
 v25:=Tryz.zeroValue137
 t39:=Tryz.underlying182
 a39:=Tryz.isAgg182
 z39:=Tryz.sizeOf182
 v39:=Tryz.zeroValue182
 t45:=Tryz.underlying213
 a45:=Tryz.isAgg213
 z45:=Tryz.sizeOf213
 v45:=Tryz.zeroValue213
 t46:=Tryz.underlying214
 a46:=Tryz.isAgg214
 z46:=Tryz.sizeOf214
 v46:=Tryz.zeroValue214
 t50:=Tryz.underlying218
 a50:=Tryz.isAgg218
 z50:=Tryz.sizeOf218
 v50:=Tryz.zeroValue218
 t53:=Tryz.underlying199
 a53:=Tryz.isAgg199
 z53:=Tryz.sizeOf199
 v53:=Tryz.zeroValue199
 t55:=Tryz.underlying198
 a55:=Tryz.isAgg198
 z55:=Tryz.sizeOf198
 v55:=Tryz.zeroValue198
 t66:=Tryz.underlying239
 a66:=Tryz.isAgg239
 z66:=Tryz.sizeOf239
 v66:=Tryz.zeroValue239
 t70:=Tryz.underlying243
 a70:=Tryz.isAgg243
 z70:=Tryz.sizeOf243
 v70:=Tryz.zeroValue243
 t76:=Tryz.underlying259
 a76:=Tryz.isAgg259
 z76:=Tryz.sizeOf259
 v76:=Tryz.zeroValue259
 t77:=Tryz.underlying260
 a77:=Tryz.isAgg260
 z77:=Tryz.sizeOf260
 v77:=Tryz.zeroValue260 }
def Tryz.sort_Rat_ren : Go.Shelf.Ren:=⟨fun | 6=>159 | 15=>163 | 14=>215 | 28=>224 | 29=>225 | 20=>244 | 21=>245 | 22=>246 | 23=>247 | 24=>248 | 25=>249 | 26=>250 | 27=>251 | 46=>271 | 47=>253 | 48=>254 | 49=>272 | 50=>273 | 57=>280 | n=>n,fun | 22=>31 | 24=>23 | 25=>108 | 3=>3 | 39=>182 | 0=>0 | 53=>199 | 55=>198 | 4=>4 | 46=>214 | 45=>213 | 50=>218 | 5=>5 | 9=>9 | 66=>239 | 70=>243 | 76=>259 | 77=>260 | n=>n,fun | n=>n⟩
theorem Tryz.sort_Rat : Go.Proofs.SlLaysF0.n6 Tryz.prog Tryz.sort_Rat_ren:={
 mixed:=by kernel_rfl
 f6:=⟨Tryz.f159.name,by decide,Tryz.func159.trans (congrArg some (by kernel_rfl))⟩
 f14:=⟨Tryz.f215.name,by decide,Tryz.func215.trans (congrArg some (by kernel_rfl))⟩
 f15:=Tryz.func163.trans (congrArg some (by kernel_rfl))
 f20:=⟨Tryz.f244.name,by decide,Tryz.func244.trans (congrArg some (by kernel_rfl))⟩
 f21:=⟨Tryz.f245.name,by decide,Tryz.func245.trans (congrArg some (by kernel_rfl))⟩
 f22:=⟨Tryz.f246.name,by decide,Tryz.func246.trans (congrArg some (by kernel_rfl))⟩
 f23:=⟨Tryz.f247.name,by decide,Tryz.func247.trans (congrArg some (by kernel_rfl))⟩
 f24:=⟨Tryz.f248.name,by decide,Tryz.func248.trans (congrArg some (by kernel_rfl))⟩
 f25:=⟨Tryz.f249.name,by decide,Tryz.func249.trans (congrArg some (by kernel_rfl))⟩
 f26:=⟨Tryz.f250.name,by decide,Tryz.func250.trans (congrArg some (by kernel_rfl))⟩
 f27:=⟨Tryz.f251.name,by decide,Tryz.func251.trans (congrArg some (by kernel_rfl))⟩
 f28:=Tryz.func224.trans (congrArg some (by kernel_rfl))
 f29:=Tryz.func225.trans (congrArg some (by kernel_rfl))
 f46:=⟨Tryz.f271.name,by decide,Tryz.func271.trans (congrArg some (by kernel_rfl))⟩
 f47:=Tryz.func253.trans (congrArg some (by kernel_rfl))
 f48:=Tryz.func254.trans (congrArg some (by kernel_rfl))
 f49:=⟨Tryz.f272.name,by decide,Tryz.func272.trans (congrArg some (by kernel_rfl))⟩
 f50:=⟨Tryz.f273.name,by decide,Tryz.func273.trans (congrArg some (by kernel_rfl))⟩
 f57:=⟨Tryz.f280.name,by decide,Tryz.func280.trans (congrArg some (by kernel_rfl))⟩
 t0:=Tryz.underlying0
 a0:=Tryz.isAgg0
 z0:=Tryz.sizeOf0
 v0:=Tryz.zeroValue0
 t3:=Tryz.underlying3
 a3:=Tryz.isAgg3
 z3:=Tryz.sizeOf3
 v3:=Tryz.zeroValue3
 t4:=Tryz.underlying4
 a4:=Tryz.isAgg4
 z4:=Tryz.sizeOf4
 v4:=Tryz.zeroValue4
 t5:=Tryz.underlying5
 a5:=Tryz.isAgg5
 z5:=Tryz.sizeOf5
 v5:=Tryz.zeroValue5
 t9:=Tryz.underlying9
 a9:=Tryz.isAgg9
 z9:=Tryz.sizeOf9
 v9:=Tryz.zeroValue9
 t22:=Tryz.underlying31
 a22:=Tryz.isAgg31
 z22:=Tryz.sizeOf31
 v22:=Tryz.zeroValue31
 t25:=Tryz.underlying108
 a25:=Tryz.isAgg108
 z25:=Tryz.sizeOf108
 v25:=Tryz.zeroValue108
 t39:=Tryz.underlying182
 a39:=Tryz.isAgg182
 z39:=Tryz.sizeOf182
 v39:=Tryz.zeroValue182
 t45:=Tryz.underlying213
 a45:=Tryz.isAgg213
 z45:=Tryz.sizeOf213
 v45:=Tryz.zeroValue213
 t46:=Tryz.underlying214
 a46:=Tryz.isAgg214
 z46:=Tryz.sizeOf214
 v46:=Tryz.zeroValue214
 t50:=Tryz.underlying218
 a50:=Tryz.isAgg218
 z50:=Tryz.sizeOf218
 v50:=Tryz.zeroValue218
 t53:=Tryz.underlying199
 a53:=Tryz.isAgg199
 z53:=Tryz.sizeOf199
 v53:=Tryz.zeroValue199
 t55:=Tryz.underlying198
 a55:=Tryz.isAgg198
 z55:=Tryz.sizeOf198
 v55:=Tryz.zeroValue198
 t66:=Tryz.underlying239
 a66:=Tryz.isAgg239
 z66:=Tryz.sizeOf239
 v66:=Tryz.zeroValue239
 t70:=Tryz.underlying243
 a70:=Tryz.isAgg243
 z70:=Tryz.sizeOf243
 v70:=Tryz.zeroValue243
 t76:=Tryz.underlying259
 a76:=Tryz.isAgg259
 z76:=Tryz.sizeOf259
 v76:=Tryz.zeroValue259
 t77:=Tryz.underlying260
 a77:=Tryz.isAgg260
 z77:=Tryz.sizeOf260
 v77:=Tryz.zeroValue260 }
end Go.Proofs
end
section
set_option maxRecDepth 10000
set_option maxHeartbeats 2000000
namespace Go.Sx
open Go Go.Proofs
abbrev SzN:={ x : Rat // Sz KV x }
instance : Inhabited SzN:=⟨⟨0,(show Sz 1 (0 : Rat) from ⟨by decide,by decide⟩).le (by decide)⟩⟩
theorem zgl {α β : Type} {f : β→List Value} (g : α→β) : ∀ l : List α,rowV f (l.map g)=rowV (fun x=>f (g x)) l
 | []=>rfl
 | x::l=>by simp only [List.map_cons,rowV,zgl g l]
theorem zuc (r : Raw) : ∀ v∈ratC r,v.oneCell'=true:=fun v hv=>by
 simp only [ratC,List.mem_cons,List.not_mem_nil,or_false] at hv
 rcases hv with rfl | rfl | rfl <;> rfl
theorem zzS (xs : List Rat) (hs : ∀ x∈xs,Sz KV x) (hl : xs.length≤1000000) :
  FnW PP zcA [fnV zb1] [] zaq xs.length (rowV ratC (xs.map Q)) (rowV ratC ((zs4 xs).map Q)) (.tuple #[]):=by
 obtain ⟨d,hd⟩ : ∃ d : List SzN,d.map (·.1)=xs:=⟨xs.attach.map fun x=>⟨x.1,hs x.1 x.2⟩,by simp⟩
 have hlen : d.length=xs.length:=by rw [←hd,List.length_map]
 have hlt : ∀ x y : SzN,ltOf (fun a b : SzN=>cmpQ a.1 b.1) x y=decide (x.1<y.1):=fun x y=>decide_eq_decide.2 zbg
 have h:=FnW.sortK (P:=PP) Tryz.sort_Rat 3 (fun w=>(zab zaq _ rfl).1.run_isAgg) (fun w=>(zab zaq _ rfl).1.run_size) (fun x : SzN=>ratC (Q x.1)) (fun x=>rfl) (fun x=>zuc _) (fun a b=>cmpQ a.1 b.1)
  ⟨fun x=>by rw [hlt]; simp,fun x y z h1 h2=>by rw [hlt] at *; simp at *; grind,fun x y z h1 h2=>by rw [hlt] at *; simp at *; grind⟩
  (fun x y h1 h2=>by rw [hlt] at h1 h2; simp at h1 h2; exact Subtype.ext (by grind)) zb1
  (fun x y=>by have:=zbp (Q x.1) (Q y.1) (x.2.q.le (by decide)) (y.2.q.le (by decide)); rw [Q_v,Q_v] at this; exact this) zaq d (by omega)
 rw [hlen] at h
 have e1 : rowV (fun x : SzN=>ratC (Q x.1)) d=rowV ratC (xs.map Q):=by rw [←hd,List.map_map,zgl]; rfl
 have e2 : rowV (fun x : SzN=>ratC (Q x.1)) (d.mergeSort fun x y=>!(ltOf fun a b : SzN=>cmpQ a.1 b.1) y x)=rowV ratC ((zs4 xs).map Q):=by
  rw [zs4,←hd,←List.map_mergeSort (r:=fun x y : SzN=>!(ltOf fun a b : SzN=>cmpQ a.1 b.1) y x) (s:=fun x y=>decide (x≤y)) (f:=fun x : SzN=>x.1) (fun a _ b _=>by rw [hlt]; by_cases h : b.1<a.1 <;> simp [h] <;> grind),List.map_map,zgl]; rfl
 rw [e1,e2] at h
 exact h
end Go.Sx
end
section
set_option maxRecDepth 10000
set_option maxHeartbeats 2000000
namespace Go.Sx
open Go Go.Proofs
theorem zwz {α : Type} {f : α→List Value} {es : Nat} (hf : ∀ x,(f x).length=es) {k : Nat} {l : List α} {junk : List Value} (x : α) (hk : k<l.length) {off : Nat} (ho : off=k*es) : putN off (f x) (rowV f l++junk)=rowV f (l.set k x)++junk:=by
 subst ho
 have hlen:=zag hf l
 have h1 : (k+1)*es≤l.length*es:=Nat.mul_le_mul_right _ hk
 rw [Nat.add_mul] at h1
 rw [←zci hf x hk,zcz _ _ _ (by rw [List.length_append,hf,hlen]; omega),zcz _ _ _ (by rw [hf,hlen]; omega),hf,List.take_append_of_le_length (by rw [hlen]; omega),List.drop_append_of_le_length (by rw [hlen]; omega),List.append_assoc,List.append_assoc,List.append_assoc]
theorem zug {α : Type} [DecidableEq α] {L : List α} {k : Nat} {x y : α} (hk : 0<k) (hx : L[k]?=some x) (hy : L[k-1]?=some y) : ddp (L.take (k+1))=if x=y then ddp (L.take k) else ddp (L.take k)++[x]:=by
 have hkl:=(List.getElem?_eq_some_iff.1 hx).1
 have hne : L.take k≠[]:=fun h=>by have:=congrArg List.length h; rw [List.length_take,List.length_nil] at this; omega
 rw [zaE hx,zyq hne]
 have : (L.take k).getLast hne=y:=by
  rw [List.getLast_eq_getElem]
  have h2:=(List.getElem?_eq_some_iff.1 hy).2
  simp only [List.getElem_take,List.length_take,Nat.min_eq_left (show k≤L.length by omega)]
  exact h2
 rw [this]
theorem zvb (L : List Raw) (hl : L.length≤1000000) : FnC PP zbl [] [] zaq L.length (rowV ratC L) (ddp L).length (rowV ratC (ddp L)):=by
 refine FnC.of zab mixed zcN rfl rfl (Nat.le_of_ble_eq_true rfl) (by simp) ?_
 intro w b cap junk hcap _
 obtain ⟨n,hn⟩ : ∃ n,n=L.length:=⟨_,rfl⟩
 rw [←hn] at hl hcap ⊢
 have wr : ∀ {i : Nat},i<1000001→IntKind.i64.wrap ((i : Int)+1)=((i+1 : Nat) : Int):=fun h=>by rw [wrap_i64 (by omega) (by omega)]; rfl
 have wl : ∀ {i : Nat},0<i→i<1000001→IntKind.i64.wrap ((i : Int)-1)=((i-1 : Nat) : Int):=fun h h'=>by rw [wrap_i64 (by omega) (by omega)]; omega
 conv=>whnf
 by_cases h2 : n<2
 · refine zai (decide_eq_true (show (n : Int)<2 by omega)) ?_
   conv=>whnf
   have hd : ddp L=L:=by
     match L,hn with
     | [],_=>rfl
     | [x],_=>rfl
     | x::y::r,hn=>simp at hn; omega
   refine ⟨by rw [hd,←hn],junk,by rw [hd]; rfl,by rw [hd]⟩
 refine zae (decide_eq_false (show ¬(n : Int)<2 by omega)) ?_
 conv=>whnf
 refine zak (ι:=Nat) (fun k=>⟨[(0,.o (.s 61 0 n cap)),(3,.o (.v (.int .i64 k)))],[(61,.sym (rowV ratC L++junk) zaq)],[]⟩)
   (fun k=>(1≤k∧k≤n)∧ddp (L.take k)=L.take k) (fun k=>n-k) 1 ⟨⟨by omega,by omega⟩,by rcases L with _ | ⟨x,r⟩ <;> simp [ddp,ddpG]⟩
   (SLe.id ⟨rfl,rfl,trivial⟩ ⟨⟨_,rfl,.refl _⟩,trivial⟩ (fun R hR=>hR)) ?_
 rintro k ⟨⟨hk1,hkn⟩,hdk⟩
 conv=>whnf
 by_cases hk : k<n
 rotate_left
 · refine zae (decide_eq_false (show ¬(k : Int)<(n : Int) by omega)) ?_
   conv=>whnf
   have hd : ddp L=L:=by rw [List.take_of_length_le (by omega)] at hdk; exact hdk
   exact ⟨by rw [hd,←hn]; rfl,junk,by rw [hd]; rfl,by rw [hd]⟩
 refine zai (decide_eq_true (show (k : Int)<(n : Int) by omega)) ?_
 obtain ⟨x,hx⟩ : ∃ x,L[k]?=some x:=⟨_,List.getElem?_eq_getElem (by omega)⟩
 obtain ⟨y,hy⟩ : ∃ y,L[k-1]?=some y:=⟨_,List.getElem?_eq_getElem (by omega)⟩
 conv=>whnf
 refine zaj.quiet (by kernel_rfl) ?_
 conv=>whnf
 refine ⟨⟨by omega,by omega⟩,?_⟩
 conv=>whnf
 refine zbU.elemJ ratC zbf (k:=k) (by show 0+(k : Int).toNat*3=k*3; rw [Int.toNat_natCast]; omega) (by omega) (by decide) (fun h=>by cases h) ?_
 intro x' hx'
 obtain rfl : x'=x:=by rw [hx] at hx'; exact (Option.some.inj hx').symm
 conv=>whnf
 refine ⟨by rw [wl (by omega) (by omega)]; omega,?_⟩
 conv=>whnf
 refine zbU.elemJ ratC zbf (k:=k-1) (by show 0+(IntKind.i64.wrap ((k : Int)-1)).toNat*3=(k-1)*3; rw [wl (by omega) (by omega),Int.toNat_natCast]; omega) (by omega) (by decide) (fun h=>by cases h) ?_
 intro y' hy'
 obtain rfl : y'=y:=by rw [hy] at hy'; exact (Option.some.inj hy').symm
 conv=>whnf
 have hstep:=zug (by omega) hx hy
 by_cases he : x'=y'
 rotate_left
 · refine zae ((eqR x' y').trans (decide_eq_false he)) ?_
   conv=>whnf
   rw [if_neg he,hdk,←zaE hx] at hstep
   exact ⟨k+1,⟨⟨by omega,by omega⟩,hstep⟩,by show n-(k+1)<n-k; omega,SLe.id ⟨rfl,congrArg (fun z=>some (SV.o (.v (.int .i64 z)))) (wr (by omega)),trivial⟩ ⟨⟨_,rfl,.refl _⟩,trivial⟩ (fun R hR=>hR)⟩
 refine zai ((eqR x' y').trans (decide_eq_true he)) ?_
 rw [if_pos he] at hstep
 conv=>whnf
 refine ⟨by omega,?_⟩
 conv=>whnf
 refine zak (ι:=Nat×Nat×List Raw) (fun ⟨j,m,R⟩=>⟨[(0,.o (.s 61 0 n cap)),(3,.o (.v (.int .i64 m))),(4,.o (.s 61 (k*3) (n-k) (cap-k))),(5,.o (.v (.int .i64 j)))],[(61,.sym (rowV ratC R++junk) zaq)],[]⟩)
   (fun ⟨j,m,R⟩=>(1≤j∧k+j≤n)∧R.length=n∧(m<k+j∧R.take m=ddp (L.take (k+j))∧m=(ddp (L.take (k+j))).length)∧R.drop (k+j-1)=L.drop (k+j-1)) (fun ⟨j,m,R⟩=>n-(k+j)) (1,k,L)
   ⟨⟨by omega,by omega⟩,hn.symm,⟨by omega,by rw [hstep,hdk],by rw [hstep,hdk,List.length_take]; omega⟩,rfl⟩
   (SLe.id ⟨rfl,rfl,congrArg (fun z=>some (SV.o (.s 61 z (n-k) (cap-k)))) (by show 0+(k : Int).toNat*3=k*3; rw [Int.toNat_natCast]; omega),rfl,trivial⟩ ⟨⟨_,rfl,.refl _⟩,trivial⟩ (fun R hR=>hR)) ?_
 rintro ⟨j,m,R⟩ ⟨⟨hj1,hjn⟩,hRl,⟨hmk,hRt,hml⟩,hRd⟩
 conv=>whnf
 by_cases hj : k+j<n
 · refine zai (decide_eq_true (show (j : Int)<((n-k : Nat) : Int) by omega)) ?_
   have hget : ∀ i,k+j-1≤i→R[i]?=L[i]?:=fun i hi=>by
     have:=congrArg (fun l=>l[i-(k+j-1)]?) hRd
     simpa [List.getElem?_drop,show k+j-1+(i-(k+j-1))=i by omega] using this
   obtain ⟨u,hu⟩ : ∃ u,L[k+j]?=some u:=⟨_,List.getElem?_eq_getElem (by omega)⟩
   obtain ⟨v,hv⟩ : ∃ v,L[k+j-1]?=some v:=⟨_,List.getElem?_eq_getElem (by omega)⟩
   have hu2:=(hget (k+j) (by omega)).trans hu
   have hv2:=(hget (k+j-1) (by omega)).trans hv
   have hst2:=zug (k:=k+j) (by omega) hu hv
   conv=>whnf
   refine zaj.quiet (by kernel_rfl) ?_
   conv=>whnf
   refine ⟨by omega,?_⟩
   conv=>whnf
   refine zbU.elemJ ratC zbf (k:=k+j) (by show k*3+(j : Int).toNat*3=(k+j)*3; rw [Int.toNat_natCast]; omega) (by omega) (by decide) (fun h=>by cases h) ?_
   intro u' hu'
   obtain rfl : u'=u:=by rw [hu2] at hu'; exact (Option.some.inj hu').symm
   conv=>whnf
   refine ⟨by rw [wl (by omega) (by omega)]; omega,?_⟩
   conv=>whnf
   refine zbU.elemJ ratC zbf (k:=k+j-1) (by show k*3+(IntKind.i64.wrap ((j : Int)-1)).toNat*3=(k+j-1)*3; rw [wl (by omega) (by omega),Int.toNat_natCast]; omega) (by omega) (by decide) (fun h=>by cases h) ?_
   intro v' hv'
   obtain rfl : v'=v:=by rw [hv2] at hv'; exact (Option.some.inj hv').symm
   conv=>whnf
   by_cases hne : u'=v'
   · refine zae (congrArg (!·) ((eqR u' v').trans (decide_eq_true hne))) ?_
     conv=>whnf
     rw [if_pos hne] at hst2
     exact ⟨(j+1,m,R),⟨⟨by omega,by omega⟩,hRl,⟨by omega,by rw [←Nat.add_assoc,hst2]; exact hRt,by rw [←Nat.add_assoc,hst2]; exact hml⟩,by
       have:=congrArg (fun l=>l.drop 1) hRd
       simpa [List.drop_drop,show k+j-1+1=k+(j+1)-1 by omega,show 1+(k+j-1)=k+(j+1)-1 by omega] using this⟩,by show n-(k+(j+1))<n-(k+j); omega,
       SLe.id ⟨rfl,rfl,rfl,congrArg (fun z=>some (SV.o (.v (.int .i64 z)))) (wr (by omega)),trivial⟩ ⟨⟨_,rfl,.refl _⟩,trivial⟩ (fun R hR=>hR)⟩
   · refine zai (by show (!_)=true; rw [eqR,decide_eq_false hne]; rfl) ?_
     rw [if_neg hne] at hst2
     conv=>whnf
     refine ⟨by omega,?_⟩
     conv=>whnf
     refine zbU.elemJ ratC zbf (k:=k+j) (by show k*3+(j : Int).toNat*3=(k+j)*3; rw [Int.toNat_natCast]; omega) (by omega) (by decide) (fun h=>by cases h) ?_
     intro u2 hu2'
     obtain rfl : u2=u':=by rw [hu2] at hu2'; exact (Option.some.inj hu2').symm
     conv=>whnf
     refine ⟨by omega,?_⟩
     conv=>whnf
     refine ⟨?_,?_⟩
     · show 0+(m : Int).toNat*3+3≤(rowV ratC R++junk).length
       rw [List.length_append,zag zbf,hRl,Int.toNat_natCast]; omega
     conv=>whnf
     refine ⟨(j+1,m+1,R.set m u2),⟨⟨by omega,by omega⟩,by rw [List.length_set]; exact hRl,⟨by omega,?_,?_⟩,?_⟩,by show n-(k+(j+1))<n-(k+j); omega,
       SLe.id ⟨rfl,congrArg (fun z=>some (SV.o (.v (.int .i64 z)))) (wr (by omega)),rfl,congrArg (fun z=>some (SV.o (.v (.int .i64 z)))) (wr (by omega)),trivial⟩ ⟨⟨_,rfl,?_⟩,trivial⟩ (fun R hR=>hR)⟩
     · rw [←Nat.add_assoc,hst2,←hRt,List.take_add_one,List.getElem?_set_self (by omega),List.take_set_of_le (Nat.le_refl m)]; rfl
     · rw [←Nat.add_assoc,hst2,List.length_append,←hml]; rfl
     · rw [List.drop_set_of_lt (by omega)]
       have:=congrArg (fun l=>l.drop 1) hRd
       simpa [List.drop_drop,show k+j-1+1=k+(j+1)-1 by omega,show 1+(k+j-1)=k+(j+1)-1 by omega] using this
     · have:=zwz zbf (junk:=junk) u2 (show m<R.length by omega) (show 0+(m : Int).toNat*3=m*3 by rw [Int.toNat_natCast]; omega)
       show MEle (ME.sym (putN (0+(m : Int).toNat*3) (ratC u2) (rowV ratC R++junk)) zaq) _
       rw [this]
       exact .refl _
 · refine zae (decide_eq_false (show ¬(j : Int)<((n-k : Nat) : Int) by omega)) ?_
   rw [List.take_of_length_le (show L.length≤k+j by omega)] at hRt hml
   conv=>whnf
   refine ⟨by omega,?_⟩
   conv=>whnf
   refine ⟨?_,?_⟩
   · refine ⟨by show 0<n-(m : Int).toNat; rw [Int.toNat_natCast]; omega,rfl,?_,?_⟩
     · show 0+(m : Int).toNat*3+(n-(m : Int).toNat)*3≤(rowV ratC R++junk).length
       rw [List.length_append,zag zbf,hRl,Int.toNat_natCast]; omega
     · intro v hv
       have hv : v∈[Value.bool false,.string ⟨#[]⟩,.string ⟨#[]⟩]:=hv
       simp only [List.mem_cons,List.not_mem_nil,or_false] at hv
       rcases hv with rfl | rfl | rfl <;> rfl
   conv=>whnf
   refine ⟨by omega,?_⟩
   conv=>whnf
   obtain ⟨z,hz⟩ : ∃ z,z=repl (n-(m : Int).toNat) [Value.bool false,.string ⟨#[]⟩,.string ⟨#[]⟩]:=⟨_,rfl⟩
   have hzl : z.length=(n-m)*3:=by rw [hz,zb6,Int.toNat_natCast]; rfl
   refine ⟨?_,z++junk,?_,?_⟩
   · rw [←hml]; rfl
   · show some (ME.sym (putN (0+(m : Int).toNat*3) (repl (n-(m : Int).toNat) [Value.bool false,.string ⟨#[]⟩,.string ⟨#[]⟩]) (rowV ratC R++junk)) zaq)=_
     rw [←hz,zcz _ _ _ (by rw [List.length_append,zag zbf,hRl,hzl,Int.toNat_natCast]; omega),hzl,Int.toNat_natCast]
     have e1 : (rowV ratC R++junk).take (0+m*3)=rowV ratC (ddp L):=by
       rw [Nat.zero_add,List.take_append_of_le_length (by rw [zag zbf,hRl]; omega),zbm zbf,hRt]
     have e2 : (rowV ratC R++junk).drop (0+m*3+(n-m)*3)=junk:=by
       rw [show 0+m*3+(n-m)*3=(rowV ratC R).length by rw [zag zbf,hRl]; omega,List.drop_left]
     rw [e1,e2,List.append_assoc]
   · rw [List.length_append,List.length_append,List.length_append,zag zbf,zag zbf,hzl,←hml,←hn]; omega
end Go.Sx
end
section
set_option maxRecDepth 10000
set_option maxHeartbeats 2000000
namespace Go.Sx
open Go Go.Proofs
abbrev Ply.R (p : Ply) : List Hd:=p.o::p.hs
end Go.Sx
end
section
set_option maxRecDepth 10000
set_option maxHeartbeats 2000000
namespace Go.Sx
open Go Go.Proofs
end Go.Sx
end
section
set_option maxRecDepth 10000
set_option maxHeartbeats 2000000
namespace Go.Sx
open Go Go.Proofs
end Go.Sx
end
section
set_option maxRecDepth 10000
set_option maxHeartbeats 2000000
namespace Go.Sx
open Go Go.Proofs
end Go.Sx
end
section
set_option maxRecDepth 10000
set_option maxHeartbeats 2000000
namespace Go.Sx
open Go Go.Proofs
end Go.Sx
end
section
set_option maxRecDepth 10000
set_option maxHeartbeats 2000000
namespace Go.Sx
open Go Go.Proofs
theorem zAq {k : Nat} {a b c d : V} (ha : SzV k a) (hb : SzV k b) (hc : SzV k c) (hd : SzV k d) {x : V×V} (h : zbX a b c d=some x) : SzV (19*k+13) x.1∧SzV (19*k+13) x.2:=by
 unfold zbX at h
 split at h
 ·split at h
  ·cases h
  ·cases h
   have:=(ha.at hb (((hc.sub ha).cross (hd.sub hc)).div ((hb.sub ha).cross (hd.sub hc)))).le (show _≤19*k+13 by omega)
   exact ⟨this,this⟩
 ·split at h
  ·cases h
  ·split at h
   ·cases h
   ·cases h
    exact ⟨(zz5 (zmp ha hb).1 (zmp hc hd).1).le (by omega),(zAO (zmp ha hb).2 (zmp hc hd).2).le (by omega)⟩
def P00 : Pt×Pt:=(P0,P0)
def cc (b : Option Pt) : Pt×Pt:=match b with
 | none=>P00
 | some c=>(c,c)
end Go.Sx
end
section
set_option maxRecDepth 10000
set_option maxHeartbeats 2000000
namespace Go.Sx
open Go Go.Proofs
abbrev pt (x y : Int) : Pt:=PQ ⟨(x : Rat),(y : Rat)⟩
theorem c_pt (x y : Int) (h1 : x.natAbs<256) (h2 : y.natAbs<256) : Fn PP zjo [.int .i64 x,.int .i64 y] (pV (pt x y)):=zCL x y (by omega) (by omega) (by omega) (by omega)
end Go.Sx
end
section
set_option maxRecDepth 10000
set_option maxHeartbeats 2000000
namespace Go.Sx
open Go Go.Proofs
theorem zao.fld {α : Type} {st : SS} {A A' : Option Addr} {xs : List α} {j o m n : Nat} {agg : Bool} {K : SV→Prop} {x : α} (f : α→List Value) (hf : ∀ x,(f x).length=n) (hR : zaf A (rowV f xs)∈st.re) (hx : xs[j]?=some x) (hA : A'=A.map (·.add (j*n+o)))
  (ho : o+m≤n) (h0 : 0<m) (h1 : agg=false→m=1) (hk : K (mkV agg (((f x).drop o).take m))) : zao st m agg A' K:=by
 have hj : j<xs.length:=(List.getElem?_eq_some_iff.1 hx).1
 have hlen : (rowV f xs).length=xs.length*n:=zag hf xs
 have hle : j*n+n≤xs.length*n:=by rw [←Nat.succ_mul]; exact Nat.mul_le_mul_right n hj
 refine zao.row (off:=j*n+o) hR hA (by omega) h0 h1 ?_
 have hp : ((rowV f xs).drop (j*n)).take n=f x:=zfP hf hx
 have he : ((rowV f xs).drop (j*n+o)).take m=((f x).drop o).take m:=by
  rw [←hp,←List.drop_drop,List.drop_take,List.take_take,Nat.min_eq_left (by omega)]
 rw [he]; exact hk
def bigP (k : Nat) (p : Pt) : Bool:=decide (k<p.x.num.length)||(decide (k<p.x.den.length)||(decide (k<p.y.num.length)||decide (k<p.y.den.length)))
theorem zqP {k : Nat} {p : Pt} (h : bigP k p=false) : p.sm k:=by
 simp only [bigP,Bool.or_eq_false_iff,decide_eq_false_iff_not,Nat.not_lt] at h
 exact ⟨⟨h.1,h.2.1⟩,h.2.2.1,h.2.2.2⟩
end Go.Sx
end
section
set_option maxRecDepth 10000
set_option maxHeartbeats 2000000
namespace Go.Sx
open Go Go.Proofs
end Go.Sx
end
section
set_option maxRecDepth 10000
set_option maxHeartbeats 2000000
namespace Go.Sx
open Go Go.Proofs
theorem zpF {P : Program} {E : Env} {st : SS} {w : World} {k : Nat} {xs : List Value} (hx : boxV st k=some xs) (he : ∀ mm,lk k st.me=some mm→MEok E w k mm) : ∃ b,E.β k=some b∧SlF (some ⟨b,0,none⟩) xs w:=by
 have hb : ∃ b ty,E.β k=some b∧w.heap[b]?=some (.cells xs.toArray ty (0,0)):=by
  unfold boxV at hx
  split at hx
  ·rename_i cs' ty hl
   obtain ⟨b,hb,hcells⟩:=he _ hl
   rw [zba E hx] at hcells
   exact ⟨b,ty,hb,hcells⟩
  ·rename_i cs' ty hl
   cases hx
   obtain ⟨b,hb,hcells⟩:=he _ hl
   exact ⟨b,ty,hb,hcells⟩
  ·cases hx
 obtain ⟨b,ty,hb,hcells⟩:=hb
 exact ⟨b,hb,.inr ⟨b,0,rfl,fun j v hj=>by rw [zbY hcells,Nat.zero_add]; simpa using hj⟩⟩
theorem zaB.c2 {P : Program} {st : SS} {g g0 : FuncId} {args : List SV} {R : World→Ending→World→Prop} {k1 k2 : Nat} {x1 x2 : List Value} {re : List Res} (mk : Value→List Value) (h1 : boxV st k1=some x1) (h2 : boxV st k2=some x2) (hm : SV.o (.clo g0 [.l k1,.l k2])∈args)
  (hargs : ∀ E,args.map (SV.real E)=mk ((SV.o (.clo g0 [.l k1,.l k2])).real E)) (hre : ∀ w,Sx.facts st.re w→Sx.facts re w) (h : ∀ a b,FnM P g (mk (cloV g0 [ptrV a,ptrV b])) (Sx.facts (zaf (some a) x1::zaf (some b) x2::re)) R) : zaB P g args st R:=by
 intro E w he hw
 obtain ⟨b1,e1,f1⟩:=zpF (P:=P) h1 (fun mm hl=>he k1 mm (zdq hm (by simp [SV.has,AV.has,CP.has])) hl)
 obtain ⟨b2,e2,f2⟩:=zpF (P:=P) h2 (fun mm hl=>he k2 mm (zdq hm (by simp [SV.has,AV.has,CP.has])) hl)
 have hp : (SV.o (.clo g0 [.l k1,.l k2])).real E=cloV g0 [ptrV ⟨b1,0,none⟩,ptrV ⟨b2,0,none⟩]:=by simp [SV.real,AV.real,CP.real,e1,e2,ptrV]
 rw [hargs,hp]
 refine (h ⟨b1,0,none⟩ ⟨b2,0,none⟩).calls w (fun R hR=>?_)
 rcases List.mem_cons.1 hR with rfl | hR
 ·exact f1
 rcases List.mem_cons.1 hR with rfl | hR
 ·exact f2
 ·exact hre w hw R hR
theorem zaB.c3 {P : Program} {st : SS} {g g0 : FuncId} {args : List SV} {R : World→Ending→World→Prop} {k1 k2 k3 : Nat} {x1 x2 x3 : List Value} {re : List Res} (mk : Value→List Value) (h1 : boxV st k1=some x1) (h2 : boxV st k2=some x2) (h3 : boxV st k3=some x3) (hm : SV.o (.clo g0 [.l k1,.l k2,.l k3])∈args)
  (hargs : ∀ E,args.map (SV.real E)=mk ((SV.o (.clo g0 [.l k1,.l k2,.l k3])).real E)) (hre : ∀ w,Sx.facts st.re w→Sx.facts re w) (h : ∀ a b c,FnM P g (mk (cloV g0 [ptrV a,ptrV b,ptrV c])) (Sx.facts (zaf (some a) x1::zaf (some b) x2::zaf (some c) x3::re)) R) : zaB P g args st R:=by
 intro E w he hw
 obtain ⟨b1,e1,f1⟩:=zpF (P:=P) h1 (fun mm hl=>he k1 mm (zdq hm (by simp [SV.has,AV.has,CP.has])) hl)
 obtain ⟨b2,e2,f2⟩:=zpF (P:=P) h2 (fun mm hl=>he k2 mm (zdq hm (by simp [SV.has,AV.has,CP.has])) hl)
 obtain ⟨b3,e3,f3⟩:=zpF (P:=P) h3 (fun mm hl=>he k3 mm (zdq hm (by simp [SV.has,AV.has,CP.has])) hl)
 have hp : (SV.o (.clo g0 [.l k1,.l k2,.l k3])).real E=cloV g0 [ptrV ⟨b1,0,none⟩,ptrV ⟨b2,0,none⟩,ptrV ⟨b3,0,none⟩]:=by simp [SV.real,AV.real,CP.real,e1,e2,e3,ptrV]
 rw [hargs,hp]
 refine (h ⟨b1,0,none⟩ ⟨b2,0,none⟩ ⟨b3,0,none⟩).calls w (fun R hR=>?_)
 rcases List.mem_cons.1 hR with rfl | hR
 ·exact f1
 rcases List.mem_cons.1 hR with rfl | hR
 ·exact f2
 rcases List.mem_cons.1 hR with rfl | hR
 ·exact f3
 ·exact hre w hw R hR
end Go.Sx
end
section
set_option maxRecDepth 10000
set_option maxHeartbeats 2000000
namespace Go.Sx
open Go Go.Proofs
theorem znY (xs : List Rat) (hs : ∀ x∈xs,Sz KV x) (hl : xs.length≤1000000) : FnC PP zgu [] [] zaq xs.length (rowV ratC (xs.map Q)) (ascL xs).length (rowV ratC ((ascL xs).map Q)):=by
 refine FnC.of zab mixed zm3 rfl rfl (Nat.le_of_ble_eq_true rfl) (by simp) ?_
 intro w b cap junk hcap _
 have hc:=zvb ((zs4 xs).map Q) (by rw [List.length_map,(zdl xs).length_eq]; exact hl)
 rw [zzV (fun _ _ h=>zo9.1 h),zgd,List.length_map,List.length_map,(zdl xs).length_eq] at hc
 conv=>whnf
 refine zac.ws (zzS xs hs hl) rfl rfl hcap (by simp) ?_ rfl
 conv=>whnf
 refine zac.cs hc rfl rfl hcap (by simp) (fun jk hjk=>?_) rfl
 conv=>whnf
 refine ⟨rfl,jk,rfl,?_⟩
 rw [hjk,List.length_append,List.length_append,zag zbf,zag zbf,List.length_map,List.length_map,(zdl xs).length_eq]
structure Pc where
 a : V
 b : V
 i : Nat
def pcC (p : Pc) : List Value:=sgC (PQ p.a,PQ p.b)++[.int .i64 p.i]
theorem zjF (p : Pc) : (pcC p).length=13:=rfl
abbrev pcV (p : Pc) : Value:=.agg ⟨pcC p⟩
def Pc.sg (p : Pc) : Sg:=⟨PQ p.a,PQ p.b⟩
def Pc.sm (k : Nat) (p : Pc) : Prop:=SzV k p.a∧SzV k p.b
abbrev KP : Nat:=2000
def hgtO (p : Pc) (x : Rat) : Option Rat:=if (hgtE p.a p.b x).2=0 then some (hgtE p.a p.b x).1 else none
theorem zxf (A B : V) (x : Rat) (h : (hgtE A B x).2≠0) : (hgtE A B x).1=0:=by
 unfold hgtE at *
 split at h
 ·rename_i k; rw [if_pos k]
 ·rename_i k; rw [if_neg k]
  split at h
  ·exact absurd rfl h
  ·rename_i k2; rw [if_neg k2]
theorem zvw (p : Pc) : Fn PP zdv [pcV p] (.bool (decide (p.a.x=p.b.x))):=by
 refine Fn.of zab mixed zhx rfl rfl (Nat.le_of_ble_eq_true rfl) ?_
 intro w
 conv=>whnf
 refine zaa (congrArg Value.bool ((eqR (Q p.a.x) (Q p.b.x)).trans (decide_eq_decide.2 zo9)))
theorem zhS (p : Pc) (x : Rat) (hp : p.sm KP) (hx : Sz KV x) (hne : p.a≠p.b) : Fn PP zeE [pcV p,qV x] (.tuple #[qV ((hgtO p x).getD 0),.bool (hgtO p x).isSome]):=by
 refine Fn.of zab mixed zjW rfl rfl (Nat.le_of_ble_eq_true rfl) ?_
 intro w
 conv=>whnf
 have hd : ¬zb5 p.sg:=fun h=>hne (by have:=zca.1 h; simpa [Pc.sg] using this)
 refine cf (zuM p.sg (Q x) ⟨hp.1.q.le (by decide),hp.2.q.le (by decide)⟩ hx.q) ?_
 rw [zdP,if_neg hd,Q_v,show p.sg.A.v=p.a from PQ_v _,show p.sg.B.v=p.b from PQ_v _]
 unfold hgtO
 have hz:=zxf p.a p.b x
 generalize hgtE p.a p.b x=e at hz ⊢
 obtain ⟨y,k⟩:=e
 by_cases hk : k=0
 ·subst hk
  conv=>whnf
  exact zas rfl
 ·rw [if_neg hk,show y=0 from hz hk]
  conv=>whnf
  refine zas ?_
  show Value.tuple #[qV 0,.bool (k==0)]=_
  rw [beq_eq_false_iff_ne.2 hk]; rfl
def zaR (b : Bx) (p : V) : Nat→Rat
 | 0=>p.x-b.lo.x.v
 | 1=>b.hi.x.v-p.x
 | 2=>p.y-b.lo.y.v
 | _=>b.hi.y.v-p.y
theorem zz6 (a : Addr) (b : Bx) (p : Pt) (hb : b.sm KK) (hp : p.sm KK) : FnM PP zch [pV p,ptrV a] (facts [zaf (some a) (boxC b)]) (zbu (qV (zaR b p.v 0))):=by
 refine FnS.of zab mixed zl2 rfl rfl (Nat.le_of_ble_eq_true rfl) (by simp [zaf.ok]) ?_
 intro w hw
 obtain ⟨b1,o1,rfl⟩:=zck (zaK hw) (by simp [boxC,ptC])
 conv=>whnf
 refine zao.row (off:=0) (List.mem_cons_self ..) (zbQ _ _) (Nat.le_of_ble_eq_true rfl) (by decide) (fun h=>by cases h) ?_
 conv=>whnf
 refine cf (zj9 p.x b.lo.x hp.1 hb.1.1) ?_
 conv=>whnf
 exact zaa rfl
theorem zz7 (a : Addr) (b : Bx) (p : Pt) (hb : b.sm KK) (hp : p.sm KK) : FnM PP zcl [pV p,ptrV a] (facts [zaf (some a) (boxC b)]) (zbu (qV (zaR b p.v 1))):=by
 refine FnS.of zab mixed zlX rfl rfl (Nat.le_of_ble_eq_true rfl) (by simp [zaf.ok]) ?_
 intro w hw
 obtain ⟨b1,o1,rfl⟩:=zck (zaK hw) (by simp [boxC,ptC])
 conv=>whnf
 refine zao.row (off:=6) (List.mem_cons_self ..) rfl (Nat.le_of_ble_eq_true rfl) (by decide) (fun h=>by cases h) ?_
 conv=>whnf
 refine cf (zj9 b.hi.x p.x hb.2.1 hp.1) ?_
 conv=>whnf
 exact zaa rfl
theorem zAK (a : Addr) (b : Bx) (p : Pt) (hb : b.sm KK) (hp : p.sm KK) : FnM PP zcn [pV p,ptrV a] (facts [zaf (some a) (boxC b)]) (zbu (qV (zaR b p.v 2))):=by
 refine FnS.of zab mixed zlF rfl rfl (Nat.le_of_ble_eq_true rfl) (by simp [zaf.ok]) ?_
 intro w hw
 obtain ⟨b1,o1,rfl⟩:=zck (zaK hw) (by simp [boxC,ptC])
 conv=>whnf
 refine zao.row (off:=3) (List.mem_cons_self ..) rfl (Nat.le_of_ble_eq_true rfl) (by decide) (fun h=>by cases h) ?_
 conv=>whnf
 refine cf (zj9 p.y b.lo.y hp.2 hb.1.2) ?_
 conv=>whnf
 exact zaa rfl
theorem zzM (a : Addr) (b : Bx) (p : Pt) (hb : b.sm KK) (hp : p.sm KK) : FnM PP zcg [pV p,ptrV a] (facts [zaf (some a) (boxC b)]) (zbu (qV (zaR b p.v 3))):=by
 refine FnS.of zab mixed zl3 rfl rfl (Nat.le_of_ble_eq_true rfl) (by simp [zaf.ok]) ?_
 intro w hw
 obtain ⟨b1,o1,rfl⟩:=zck (zaK hw) (by simp [boxC,ptC])
 conv=>whnf
 refine zao.row (off:=9) (List.mem_cons_self ..) rfl (Nat.le_of_ble_eq_true rfl) (by decide) (fun h=>by cases h) ?_
 conv=>whnf
 refine cf (zj9 b.hi.y p.y hb.2.2 hp.2) ?_
 conv=>whnf
 exact zaa rfl
abbrev zzu (a : Addr) : Value:=.agg ⟨[cloV zch [ptrV a],cloV zcl [ptrV a],cloV zcn [ptrV a],cloV zcg [ptrV a]]⟩
theorem zaT.boxF {st : SS} {E : Env} {W0 : World} {N : Nat} {w : World} (hm : zaT ⟨W0,[],N⟩ E st.me st.re w) {k : Nat} {xs : List Value} (hx : boxV st k=some xs) : ∃ b,E.β k=some b∧SlF (some ⟨b,0,none⟩) xs w∧Fr W0 (some ⟨b,0,none⟩):=by
 obtain ⟨b,h1,h2⟩:=zpF (P:=PP) hx (fun mm hl=>hm.ent k mm hl)
 refine ⟨b,h1,h2,fun a ha=>?_⟩
 cases ha
 have : ∃ mm,lk k st.me=some mm:=by
  unfold boxV at hx
  cases h : lk k st.me with
  | none=>rw [h] at hx; cases hx
  | some mm=>exact ⟨mm,rfl⟩
 obtain ⟨mm,hl⟩:=this
 rcases (hm.ge k mm b hl h1).1 with h | h
 ·exact h
 ·cases h
theorem zww (b : Bx) : FnM PP zhO [bxV b] (facts []) (zhU zzu (fun a=>[zaf (some a) (boxC b)])):=by
 refine FnE.of zab mixed znZ rfl rfl (Nat.le_of_ble_eq_true rfl) (by simp) ?_
 intro w hw
 conv=>whnf
 intro N E w' hm
 obtain ⟨b0,h1,h2,h3⟩:=hm.boxF (k:=1) (xs:=boxC b) rfl
 refine ⟨⟨b0,0,none⟩,?_,fun R hR=>by rw [List.mem_singleton.1 hR]; exact h2,fun R hR=>by rw [List.mem_singleton.1 hR]; exact h3.bs⟩
 show Value.agg ([AV.clo zch [.l 1],.clo zcl [.l 1],.clo zcn [.l 1],.clo zcg [.l 1]].map (AV.real E)).toArray=_
 simp [AV.real,CP.real,h1,ptrV,cloV]
end Go.Sx
end
section
set_option maxRecDepth 10000
set_option maxHeartbeats 2000000
namespace Go.Sx
open Go Go.Proofs
def zcw (b : Bx) (A B : V) : Nat→Option (Rat×Rat)
 | 0=>some (0,1)
 | k+1=>match zcw b A B k with
  | none=>none
  | some (l,h)=>if zaR b B k-zaR b A k=0 then (if zaR b A k<0 then none else some (l,h))
   else if 0<zaR b B k-zaR b A k∧l < -zaR b A k/(zaR b B k-zaR b A k) then some (-zaR b A k/(zaR b B k-zaR b A k),h)
   else if zaR b B k-zaR b A k<0∧-zaR b A k/(zaR b B k-zaR b A k)<h then some (l,-zaR b A k/(zaR b B k-zaR b A k)) else some (l,h)
def zdb (b : Bx) (A B : V) : Option (V×V):=match zcw b A B 4 with
 | none=>none
 | some (l,h)=>if h<l then none else some (A.at B l,A.at B h)
abbrev K0 : Nat:=100
theorem zia {b : Bx} (hb : b.sm K0) {p : V} (hp : SzV K0 p) (k : Nat) : Sz 201 (zaR b p k):=by
 have h1:=hb.1.sz (by decide)
 have h2:=hb.2.sz (by decide)
 unfold zaR
 split
 ·exact hp.1.sub h1.1
 ·exact h2.1.sub hp.1
 ·exact hp.2.sub h1.2
 ·exact h2.2.sub hp.2
theorem znx {b : Bx} (hb : b.sm K0) {A B : V} (hA : SzV K0 A) (hB : SzV K0 B) : ∀ (k : Nat) (l h : Rat),zcw b A B k=some (l,h)→Sz 605 l∧Sz 605 h
 | 0,l,h,e=>by
  cases e
  exact ⟨(show Sz 1 (0 : Rat) from ⟨by decide,by decide⟩).le (by decide),(show Sz 1 (1 : Rat) from ⟨by decide,by decide⟩).le (by decide)⟩
 | k+1,l,h,e=>by
  have zf:=zia hb hA k
  have zt : Sz 605 (-zaR b A k/(zaR b B k-zaR b A k)):=(zf.neg.div ((zia hb hB k).sub zf)).le (by decide)
  unfold zcw at e
  cases hc : zcw b A B k with
  | none=>rw [hc] at e; cases e
  | some p =>
   obtain ⟨l0,h0⟩:=p
   obtain ⟨z1,z2⟩:=znx hb hA hB k l0 h0 hc
   rw [hc] at e
   simp only at e
   split at e
   ·split at e
    ·cases e
    ·cases e; exact ⟨z1,z2⟩
   ·split at e
    ·cases e; exact ⟨zt,z2⟩
    ·split at e
     ·cases e; exact ⟨z1,zt⟩
     ·cases e; exact ⟨z1,z2⟩
def zxw (e : Int) : Value:=.tuple #[sV S0,.bool false,.int .i64 e]
def zr6 (s : Sg) (b : Bx) : Value:=if zb5 s then zxw 12 else if b.hi.x.v<b.lo.x.v∨b.hi.y.v<b.lo.y.v then zxw 1 else match zdb b s.A.v s.B.v with
 | none=>zxw 0
 | some (c,d)=>.tuple #[sV ⟨PQ c,PQ d⟩,.bool true,.int .i64 0]
theorem zBp (s : Sg) (b : Bx) (hs : s.sm K0) (hb : b.sm K0) : Fn PP zjc [sV s,bxV b] (zr6 s b):=by
 refine Fn.of zab mixed zpa rfl rfl (Nat.le_of_ble_eq_true rfl) ?_
 intro w
 have zA:=hs.1.sz (by decide)
 have zB:=hs.2.sz (by decide)
 conv=>whnf
 refine cf (zno s (hs.le (by decide))) ?_
 rw [zdc,zr6]
 by_cases hd : zb5 s
 ·rw [if_pos hd,if_pos hd]
  conv=>whnf
  exact zam rfl
 rw [if_neg hd,if_neg hd]
 conv=>whnf
 refine cf (zbp b.lo.x b.hi.x (hb.1.1.le (by decide)) (hb.2.1.le (by decide))) ?_
 conv=>whnf
 by_cases h1 : b.hi.x.v<b.lo.x.v
 ·rw [if_pos (.inl h1)]
  refine zai (decide_eq_true (zbC.2 h1)) ?_
  conv=>whnf
  exact zam rfl
 refine zae (decide_eq_false (fun h=>h1 (zbC.1 h))) ?_
 conv=>whnf
 refine cf (zbp b.lo.y b.hi.y (hb.1.2.le (by decide)) (hb.2.2.le (by decide))) ?_
 conv=>whnf
 by_cases h2 : b.hi.y.v<b.lo.y.v
 ·rw [if_pos (.inr h2)]
  refine zai (decide_eq_true (zbC.2 h2)) ?_
  conv=>whnf
  exact zam rfl
 rw [if_neg (fun h=>h.elim h1 h2)]
 refine zae (decide_eq_false (fun h=>h2 (zbC.1 h))) ?_
 conv=>whnf
 refine cf (zwI 1 (by decide) (by decide)) ?_
 conv=>whnf
 refine zac.e (zww b).enters (zaB.facts (zww b) rfl (by simp)) (by simp [zaf.ok]) (fun a _=>?_)
 conv=>whnf
 refine zak (ι:=Nat×Rat×Rat) (fun ⟨i,l,h⟩=>⟨[(2,.o (.p 2 0)),(3,.o (.p 3 0)),(4,.o (.p 4 0)),(7,.o (.p 7 0)),(8,.o (.p 8 0)),(42,.o (.v (zzu a))),(43,.o (.v (.int .i64 i)))],[(2,sgB s),(3,.box ((boxC b).map AV.v) zaG),(4,sgB S0),(7,ratM (Q l)),(8,ratM (Q h))],[zaf (some a) (boxC b)]⟩)
  (fun ⟨i,l,h⟩=>i≤4∧zcw b s.A.v s.B.v i=some (l,h)) (fun ⟨i,l,h⟩=>4-i) (0,0,1) ⟨by omega,rfl⟩
  (SLe.id ⟨rfl,rfl,rfl,rfl,rfl,rfl,rfl,trivial⟩ ⟨⟨_,rfl,.refl _⟩,⟨_,rfl,.refl _⟩,⟨_,rfl,.refl _⟩,⟨_,rfl,by rw [zhg]; exact .refl _⟩,⟨_,rfl,.refl _⟩,trivial⟩ (fun R hR=>hR)) ?_
 rintro ⟨i,l,h⟩ ⟨hi,hc⟩
 obtain ⟨zl,zh⟩:=znx hb zA zB i l h hc
 have hnone : ∀ k,zcw b s.A.v s.B.v k=none→∀ j,zcw b s.A.v s.B.v (k+j)=none:=fun k hk j=>by
  induction j with
  | zero=>exact hk
  | succ j ih=>rw [←Nat.add_assoc,zcw,ih]
 by_cases hi4 : i=4
 ·subst hi4
  conv=>whnf
  refine cf (zbp (Q l) (Q h) (zl.q.le (by decide)) (zh.q.le (by decide))) ?_
  rw [Q_v,Q_v,zdb,hc]
  conv=>whnf
  by_cases hlh : h<l
  ·simp only [if_pos hlh]
   refine zai (decide_eq_true (zbC.2 hlh)) ?_
   conv=>whnf
   exact zam rfl
  simp only [if_neg hlh]
  refine zae (decide_eq_false (fun k=>hlh (zbC.1 k))) ?_
  conv=>whnf
  refine zaj.quiet (by kernel_rfl) ?_
  conv=>whnf
  refine cd (zAJ s.A s.B (Q l) (hs.1.le (by decide)) (hs.2.le (by decide)) (zl.q.le (by decide))) ?_
  rw [Q_v]
  conv=>whnf
  refine cd (zAJ s.A s.B (Q h) (hs.1.le (by decide)) (hs.2.le (by decide)) (zh.q.le (by decide))) ?_
  rw [Q_v]
  conv=>whnf
  exact zam rfl
 have hnx : zcw b s.A.v s.B.v (i+1)=none→zdb b s.A.v s.B.v=none:=fun k=>by
  have:=hnone _ k (4-(i+1))
  rw [show i+1+(4-(i+1))=4 by omega] at this
  rw [zdb,this]
 have hcl : zcw b s.A.v s.B.v (i+1)=if zaR b s.B.v i-zaR b s.A.v i=0 then (if zaR b s.A.v i<0 then none else some (l,h))
   else if 0<zaR b s.B.v i-zaR b s.A.v i∧l < -zaR b s.A.v i/(zaR b s.B.v i-zaR b s.A.v i) then some (-zaR b s.A.v i/(zaR b s.B.v i-zaR b s.A.v i),h)
   else if zaR b s.B.v i-zaR b s.A.v i<0∧-zaR b s.A.v i/(zaR b s.B.v i-zaR b s.A.v i)<h then some (l,-zaR b s.A.v i/(zaR b s.B.v i-zaR b s.A.v i)) else some (l,h):=by rw [zcw,hc]
 have hbk : b.sm KK:=⟨hb.1.le (by decide),hb.2.le (by decide)⟩
 have q1:=fun p (hp : Pt.sm K0 p)=>zz6 a b p hbk (hp.le (by decide))
 have q2:=fun p (hp : Pt.sm K0 p)=>zz7 a b p hbk (hp.le (by decide))
 have q3:=fun p (hp : Pt.sm K0 p)=>zAK a b p hbk (hp.le (by decide))
 have q4:=fun p (hp : Pt.sm K0 p)=>zzM a b p hbk (hp.le (by decide))
 have zf:=zia hb zA i
 have zg:=zia hb zB i
 have hi' : i=0∨i=1∨i=2∨i=3:=by omega
 rcases hi' with rfl | rfl | rfl | rfl <;>
 ·conv=>whnf
  refine ⟨by decide,?_⟩
  conv=>whnf
  refine zaj.quiet (by kernel_rfl) ?_
  conv=>whnf
  first | refine cds (q1 s.A hs.1) ?_ | refine cds (q2 s.A hs.1) ?_ | refine cds (q3 s.A hs.1) ?_ | refine cds (q4 s.A hs.1) ?_
  conv=>whnf
  first | refine cds (q1 s.B hs.2) ?_ | refine cds (q2 s.B hs.2) ?_ | refine cds (q3 s.B hs.2) ?_ | refine cds (q4 s.B hs.2) ?_
  generalize zaR b s.A.v _=f at *
  generalize zaR b s.B.v _=g at *
  conv=>whnf
  refine cf (zj9 (Q g) (Q f) (zg.q.le (by decide)) (zf.q.le (by decide))) ?_
  rw [Q_v,Q_v]
  have zs:=zg.sub zf
  generalize g-f=e at zs hcl ⊢
  conv=>whnf
  refine zaj.late [(8,14,[6])] (by kernel_rfl) ?_
  conv=>whnf
  refine cd (zBo (Q f) (zf.q.le (by decide))) ?_
  rw [Q_v]
  conv=>whnf
  refine cd (zsK (Q (-f)) (Q e) (zf.neg.q.le (by decide)) (zs.q.le (by decide))) ?_
  rw [Q_v,Q_v,quoV]
  by_cases h0 : e=0
  ·rw [if_pos h0] at hcl ⊢
   conv=>whnf
   refine cf (zjZ (Q f) (zf.q.le (by decide))) ?_
   rw [Q_v]
   conv=>whnf
   by_cases hf : f<0
   ·refine zai (decide_eq_true (zbg.2 hf)) ?_
    rw [if_pos hf] at hcl
    rw [hnx hcl]
    conv=>whnf
    exact zam rfl
   ·refine zae (decide_eq_false (fun k=>hf (zbg.1 k))) ?_
    rw [if_neg hf] at hcl
    conv=>whnf
    exact ⟨(_,l,h),⟨by decide,hcl⟩,Nat.le_of_ble_eq_true rfl,SLe.id ⟨rfl,rfl,rfl,rfl,rfl,rfl,rfl,trivial⟩ ⟨⟨_,rfl,.refl _⟩,⟨_,rfl,.refl _⟩,⟨_,rfl,.refl _⟩,⟨_,rfl,.refl _⟩,⟨_,rfl,.refl _⟩,trivial⟩ (fun R hR=>hR)⟩
  rw [if_neg h0] at hcl ⊢
  have zt : Sz 605 (-f/e):=(zf.neg.div zs).le (by decide)
  generalize -f/e=t at zt hcl ⊢
  conv=>whnf
  refine cf (zjZ (Q e) (zs.q.le (by decide))) ?_
  rw [Q_v]
  conv=>whnf
  by_cases hp : 0<e
  ·refine zai (decide_eq_true (zbC.2 hp)) ?_
   conv=>whnf
   refine cf (zbp (Q t) (Q l) (zt.q.le (by decide)) (zl.q.le (by decide))) ?_
   rw [Q_v,Q_v]
   conv=>whnf
   by_cases hlt : l<t
   ·refine zai (decide_eq_true (zbC.2 hlt)) ?_
    rw [if_pos ⟨hp,hlt⟩] at hcl
    conv=>whnf
    exact ⟨(_,t,h),⟨by decide,hcl⟩,Nat.le_of_ble_eq_true rfl,SLe.id ⟨rfl,rfl,rfl,rfl,rfl,rfl,rfl,trivial⟩ ⟨⟨_,rfl,.refl _⟩,⟨_,rfl,.refl _⟩,⟨_,rfl,.refl _⟩,⟨_,rfl,.refl _⟩,⟨_,rfl,.refl _⟩,trivial⟩ (fun R hR=>hR)⟩
   ·refine zae (decide_eq_false (fun k=>hlt (zbC.1 k))) ?_
    rw [if_neg (fun k=>hlt k.2),if_neg (fun k=>by have:=k.1; grind)] at hcl
    conv=>whnf
    refine cf (zjZ (Q e) (zs.q.le (by decide))) ?_
    rw [Q_v]
    conv=>whnf
    refine zae (decide_eq_false (fun k=>by have:=zbg.1 k; grind)) ?_
    conv=>whnf
    exact ⟨(_,l,h),⟨by decide,hcl⟩,Nat.le_of_ble_eq_true rfl,SLe.id ⟨rfl,rfl,rfl,rfl,rfl,rfl,rfl,trivial⟩ ⟨⟨_,rfl,.refl _⟩,⟨_,rfl,.refl _⟩,⟨_,rfl,.refl _⟩,⟨_,rfl,.refl _⟩,⟨_,rfl,.refl _⟩,trivial⟩ (fun R hR=>hR)⟩
  ·refine zae (decide_eq_false (fun k=>hp (zbC.1 k))) ?_
   rw [if_neg (fun k=>hp k.1)] at hcl
   conv=>whnf
   refine cf (zjZ (Q e) (zs.q.le (by decide))) ?_
   rw [Q_v]
   conv=>whnf
   have hm : e<0:=by grind
   refine zai (decide_eq_true (zbg.2 hm)) ?_
   conv=>whnf
   refine cf (zbp (Q t) (Q h) (zt.q.le (by decide)) (zh.q.le (by decide))) ?_
   rw [Q_v,Q_v]
   conv=>whnf
   by_cases hth : t<h
   ·refine zai (decide_eq_true (zbg.2 hth)) ?_
    rw [if_pos ⟨hm,hth⟩] at hcl
    conv=>whnf
    exact ⟨(_,l,t),⟨by decide,hcl⟩,Nat.le_of_ble_eq_true rfl,SLe.id ⟨rfl,rfl,rfl,rfl,rfl,rfl,rfl,trivial⟩ ⟨⟨_,rfl,.refl _⟩,⟨_,rfl,.refl _⟩,⟨_,rfl,.refl _⟩,⟨_,rfl,.refl _⟩,⟨_,rfl,.refl _⟩,trivial⟩ (fun R hR=>hR)⟩
   ·refine zae (decide_eq_false (fun k=>hth (zbg.1 k))) ?_
    rw [if_neg (fun k=>hth k.2)] at hcl
    conv=>whnf
    exact ⟨(_,l,h),⟨by decide,hcl⟩,Nat.le_of_ble_eq_true rfl,SLe.id ⟨rfl,rfl,rfl,rfl,rfl,rfl,rfl,trivial⟩ ⟨⟨_,rfl,.refl _⟩,⟨_,rfl,.refl _⟩,⟨_,rfl,.refl _⟩,⟨_,rfl,.refl _⟩,⟨_,rfl,.refl _⟩,trivial⟩ (fun R hR=>hR)⟩
end Go.Sx
end
section
set_option maxRecDepth 10000
set_option maxHeartbeats 2000000
namespace Go.Sx
open Go Go.Proofs
def zcF (p q : Pc) : List Rat:=match zbX p.a p.b q.a q.b with
 | some (m,n)=>[m.x,n.x]
 | none=>[]
def absP (ps : List Pc) (j : Nat) (p : Pc) : List Rat:=p.a.x::p.b.x::(ps.take j).flatMap (zcF p)
def absG (ps : List Pc) : Nat→List Rat
 | 0=>[]
 | i+1=>absG ps i++(match ps[i]? with
  | some p=>absP ps i p
  | none=>[])
def xsL (lo hi : V) (ps : List Pc) : List Rat:=ascL (lo.x::hi.x::absG ps ps.length)
def zmD (ps : List Pc) : Prop:=∀ p∈ps,p.sm KP∧p.a≠p.b
theorem zuI {p q : Pc} (hp : p.sm KP) (hq : q.sm KP) : ∀ x∈zcF p q,Sz 100000 x:=fun x hx=>by
 unfold zcF at hx
 split at hx
 ·rename_i m n h
  have k:=zAq hp.1 hp.2 hq.1 hq.2 h
  simp only [List.mem_cons,List.not_mem_nil,or_false] at hx
  rcases hx with rfl | rfl
  ·exact k.1.1.le (by decide)
  ·exact k.2.1.le (by decide)
 ·cases hx
theorem zAQ {ps : List Pc} (hps : zmD ps) {p : Pc} (hp : p∈ps) (j : Nat) : ∀ x∈absP ps j p,Sz 100000 x:=fun x hx=>by
 have hpo:=(hps p hp).1
 rcases List.mem_cons.1 hx with rfl | hx
 ·exact hpo.1.1.le (by decide)
 rcases List.mem_cons.1 hx with rfl | hx
 ·exact hpo.2.1.le (by decide)
 obtain ⟨q,hq,hx⟩:=List.mem_flatMap.1 hx
 exact zuI hpo (hps q (List.mem_of_mem_take hq)).1 x hx
theorem zs7 {ps : List Pc} (hps : zmD ps) : ∀ i,∀ x∈absG ps i,Sz 100000 x
 | 0,x,hx=>by cases hx
 | i+1,x,hx=>by
  rcases List.mem_append.1 hx with h | h
  ·exact zs7 hps i x h
  ·cases hp : ps[i]? with
   | none=>rw [hp] at h; cases h
   | some p=>rw [hp] at h; exact zAQ hps (List.mem_of_getElem? hp) i x h
theorem zqQ {ps : List Pc} {p : Pc} : ∀ l : List Pc,(l.flatMap (zcF p)).length≤2*l.length
 | []=>by simp
 | q::l=>by
  have:=zqQ (ps:=ps) (p:=p) l
  have h2 : (zcF p q).length≤2:=by unfold zcF; split <;> simp
  rw [List.flatMap_cons,List.length_append,List.length_cons]; omega
theorem zlk (ps : List Pc) : ∀ i,i≤400→(absG ps i).length≤802*i
 | 0,_=>by simp [absG]
 | i+1,hi=>by
  have:=zlk ps i (by omega)
  rw [absG,List.length_append]
  have h2 : (match ps[i]? with | some p=>absP ps i p | none=>[]).length≤802:=by
   cases ps[i]? with
   | none=>simp
   | some p =>
    have h3:=zqQ (ps:=ps) (p:=p) (ps.take i)
    rw [List.length_take] at h3
    show (p.a.x::p.b.x::(ps.take i).flatMap (zcF p)).length≤802
    simp only [List.length_cons]; omega
  omega
abbrev bldV (lo hi : V) (A : Option Addr) (n c : Nat) : Value:=.agg ⟨boxC ⟨PQ lo,PQ hi⟩++[.slice A n c]⟩
abbrev bldM (lo hi : V) (A : Option Addr) (n c : Nat) : ME:=.box ((boxC ⟨PQ lo,PQ hi⟩++[Value.slice A n c]).map AV.v) zoZ
abbrev pcM (p : Pc) : ME:=.box ((pcC p).map AV.v) zfe
theorem rat2 (L : List Rat) (x y : Rat) : app (rowV ratC (L.map Q)) (ratC (Q x)++ratC (Q y))=rowV ratC ((L++[x,y]).map Q):=by
 rw [za1,List.map_append,zaC]; rfl
theorem sl0 (A : Option Addr) (c k : Nat) : (if c=(0 : Int).toNat then A else A.map (fun a=>a.add ((0 : Int).toNat*k)))=A:=by
 split
 ·rfl
 ·cases A with
  | none=>rfl
  | some a=>simp [Addr.add]
theorem zs3 (lo hi : V) (A : Option Addr) (c : Nat) (ps : List Pc) (hlo : SzV K0 lo) (hhi : SzV K0 hi) (hps : zmD ps) (hl : ps.length≤400) (hc : ps.length≤c) :
  FnM PP zcR [bldV lo hi A ps.length c] (facts [zaf A (rowV pcC ps)]) (zdn zaq 3 (xsL lo hi ps).length (rowV ratC ((xsL lo hi ps).map Q))):=by
 refine FnO.of zab mixed zfG rfl rfl (Nat.le_of_ble_eq_true rfl) (by simp [zaf.ok]) ?_
 intro w hw
 obtain ⟨n,hn⟩ : ∃ n,n=ps.length:=⟨_,rfl⟩
 have hA : 0<n→A.isSome=true:=fun h=>zap (zaK hw) (by rw [zag zjF]; omega)
 rw [←hn] at hl hc ⊢
 conv=>whnf
 refine zak (ι:=Nat×List Rat) (fun ⟨i,L⟩=>⟨[(1,.o (.p 1 0)),(3,.o (.w 6)),(21,.o (.v (.slice A n c))),(22,.o (.v (.int .i64 n))),(23,.o (.v (.int .i64 i)))],[(1,bldM lo hi A n c),(6,.own zaq 3 L.length (rowV ratC (L.map Q)))],[zaf A (rowV pcC ps)]⟩)
  (fun ⟨i,L⟩=>i≤n∧L=lo.x::hi.x::absG ps i) (fun ⟨i,L⟩=>n-i) (0,[lo.x,hi.x]) ⟨Nat.zero_le _,rfl⟩
  ((SLe.own 3 19 6 zaq 3 2 rfl rfl rfl rfl (by decide) rfl rfl).trans (SLe.id ⟨rfl,rfl,rfl,rfl,rfl,trivial⟩ ⟨⟨_,rfl,.refl _⟩,⟨_,rfl,.refl _⟩,trivial⟩ (fun R hR=>hR))) ?_
 rintro ⟨i,L⟩ ⟨hi0,hL⟩
 have hLl : L.length≤2+802*i:=by rw [hL]; have:=zlk ps i (by omega); simp only [List.length_cons]; omega
 have hLs : ∀ x∈L,Sz 100000 x:=fun x hx=>by
  rw [hL] at hx
  rcases List.mem_cons.1 hx with rfl | hx
  ·exact hlo.1.le (by decide)
  rcases List.mem_cons.1 hx with rfl | hx
  ·exact hhi.1.le (by decide)
  exact zs7 hps i x hx
 conv=>whnf
 by_cases hin : i<n
 rotate_left
 ·refine zae (decide_eq_false (show ¬(i : Int)<(n : Int) by omega)) ?_
  obtain rfl : i=n:=by omega
  have hx : xsL lo hi ps=ascL L:=by rw [xsL,hL,hn]
  conv=>whnf
  have ha:=znY L (fun x hx=>(hLs x hx).le (by decide)) (by omega)
  have hal : (ascL L).length≤L.length:=by rw [←zgd]; exact Nat.le_trans (ztq _) (Nat.le_of_eq (zdl L).length_eq)
  refine zac.cw 4 ha rfl (by rw [hL]; simp) hal (by rw [zag zbf,List.length_map]) (by simp) rfl rfl ?_ rfl
  conv=>whnf
  rw [hx]
  exact ⟨4,rfl,rfl⟩
 refine zai (decide_eq_true (show (i : Int)<(n : Int) by omega)) ?_
 obtain ⟨p,hp⟩ : ∃ p,ps[i]?=some p:=⟨_,List.getElem?_eq_getElem (by omega)⟩
 have hpo:=hps p (List.mem_of_getElem? hp)
 conv=>whnf
 refine ⟨⟨by omega,by omega,hA (by omega)⟩,?_⟩
 conv=>whnf
 refine zao.elem (A:=A) (xs:=ps) (j:=(i : Int)) pcC zjF (List.mem_cons_self ..) rfl (by rw [Int.toNat_natCast]; omega) (by decide) (fun h=>by cases h) ?_
 intro p' hp'
 obtain rfl : p'=p:=by rw [Int.toNat_natCast,hp] at hp'; exact (Option.some.inj hp').symm
 conv=>whnf
 refine ⟨by show L.length+2≤9223372036854775807∧(L.length+2)*40≤140737488355328; omega,?_⟩
 conv=>whnf
 refine ⟨by omega,?_⟩
 conv=>whnf
 refine zak (ι:=Nat×List Rat) (fun ⟨j,M⟩=>⟨[(1,.o (.p 1 0)),(3,.o (.w 38)),(5,.o (.p 5 0)),(21,.o (.v (.slice A n c))),(22,.o (.v (.int .i64 n))),(23,.o (.v (.int .i64 i))),(42,.o (.v (.slice A i c))),(43,.o (.v (.int .i64 i))),(44,.o (.v (.int .i64 j)))],[(1,bldM lo hi A n c),(5,pcM p'),(38,.own zaq 3 M.length (rowV ratC (M.map Q)))],[zaf A (rowV pcC ps)]⟩)
  (fun ⟨j,M⟩=>j≤i∧M=L++(p'.a.x::p'.b.x::(ps.take j).flatMap (zcF p'))) (fun ⟨j,M⟩=>i-j) (0,L++[p'.a.x,p'.b.x]) ⟨Nat.zero_le _,rfl⟩
  (SLe.id ⟨rfl,rfl,rfl,rfl,rfl,rfl,congrArg (fun z=>some (SV.o (.v (.slice z i c)))) (sl0 A c 13),rfl,rfl,trivial⟩ ⟨⟨_,rfl,.refl _⟩,⟨_,rfl,.refl _⟩,⟨_,rfl,by rw [←rat2]; simp only [List.length_append]; exact .refl _⟩,trivial⟩ (fun R hR=>hR)) ?_
 rintro ⟨j,M⟩ ⟨hj,hM⟩
 have hf:=zqQ (ps:=ps) (p:=p') (ps.take j)
 rw [List.length_take] at hf
 have hMl : M.length≤2+802*i+2+800:=by rw [hM,List.length_append]; simp only [List.length_cons]; omega
 conv=>whnf
 by_cases hji : j<i
 rotate_left
 ·refine zae (decide_eq_false (show ¬(j : Int)<(i : Int) by omega)) ?_
  obtain rfl : j=i:=by omega
  conv=>whnf
  exact ⟨(j+1,M),⟨by omega,by rw [absG,hp,hM,hL]; rfl⟩,by show n-(j+1)<n-j; omega,SLe.mk (fun k=>bif Nat.beq k 6 then 38 else k) ⟨rfl,rfl,rfl,rfl,zan hin (by omega),trivial⟩ ⟨⟨_,rfl,.refl _⟩,⟨_,rfl,.refl _⟩,trivial⟩ rfl (fun R hR=>hR)⟩
 refine zai (decide_eq_true (show (j : Int)<(i : Int) by omega)) ?_
 obtain ⟨q,hq⟩ : ∃ q,ps[j]?=some q:=⟨_,List.getElem?_eq_getElem (by omega)⟩
 have hqo:=hps q (List.mem_of_getElem? hq)
 conv=>whnf
 refine ⟨⟨by omega,by omega,hA (by omega)⟩,?_⟩
 conv=>whnf
 refine zao.elem (A:=A) (xs:=ps) (j:=(j : Int)) pcC zjF (List.mem_cons_self ..) rfl (by rw [Int.toNat_natCast]; omega) (by decide) (fun h=>by cases h) ?_
 intro q' hq'
 obtain rfl : q'=q:=by rw [Int.toNat_natCast,hq] at hq'; exact (Option.some.inj hq').symm
 conv=>whnf
 have hdp : ¬zb5 p'.sg:=fun h=>hpo.2 (by have:=zca.1 h; simpa [Pc.sg] using this)
 have hdq : ¬zb5 q'.sg:=fun h=>hqo.2 (by have:=zca.1 h; simpa [Pc.sg] using this)
 refine cf (zBV p'.sg q'.sg ⟨hpo.1.1.q.le (by decide),hpo.1.2.q.le (by decide)⟩ ⟨hqo.1.1.q.le (by decide),hqo.1.2.q.le (by decide)⟩) ?_
 rw [zrb,if_neg (fun h=>h.elim hdp hdq),show p'.sg.A.v=p'.a from PQ_v _,show p'.sg.B.v=p'.b from PQ_v _,show q'.sg.A.v=q'.a from PQ_v _,show q'.sg.B.v=q'.b from PQ_v _]
 have htk : (ps.take (j+1)).flatMap (zcF p')=(ps.take j).flatMap (zcF p')++zcF p' q':=by rw [zaE hq,List.flatMap_append]; simp
 cases ho : zbX p'.a p'.b q'.a q'.b with
 | none =>
  have hX : zcF p' q'=[]:=by rw [zcF,ho]
  conv=>whnf
  exact ⟨(j+1,M),⟨by omega,by rw [htk,hX,List.append_nil]; exact hM⟩,by show i-(j+1)<i-j; omega,SLe.id ⟨rfl,rfl,rfl,rfl,rfl,rfl,rfl,rfl,zan hji (by omega),trivial⟩ ⟨⟨_,rfl,.refl _⟩,⟨_,rfl,.refl _⟩,⟨_,rfl,.refl _⟩,trivial⟩ (fun R hR=>hR)⟩
 | some mn =>
  obtain ⟨m1,m2⟩:=mn
  have hX : zcF p' q'=[m1.x,m2.x]:=by rw [zcF,ho]
  conv=>whnf
  refine ⟨by show M.length+2≤9223372036854775807∧(M.length+2)*40≤140737488355328; omega,?_⟩
  conv=>whnf
  refine ⟨(j+1,M++[m1.x,m2.x]),⟨by omega,by rw [htk,hX,hM]; simp⟩,by show i-(j+1)<i-j; omega,SLe.mk (fun k=>bif Nat.beq k 38 then 66 else k) ⟨rfl,rfl,rfl,rfl,rfl,rfl,rfl,rfl,zan hji (by omega),trivial⟩ ⟨⟨_,rfl,.refl _⟩,⟨_,rfl,.refl _⟩,⟨_,rfl,?_⟩,trivial⟩ rfl (fun R hR=>hR)⟩
  rw [←rat2]; simp only [List.length_append]; exact .refl _
end Go.Sx
end
section
set_option maxRecDepth 10000
set_option maxHeartbeats 2000000
namespace Go.Sx
open Go Go.Proofs
def ordP (x : Rat) (p : Pc) : List Rat:=(if p.a.x=p.b.x∧p.a.x=x then [p.a.y,p.b.y] else [])++(hgtO p x).toList
def ysL (lo hi : V) (ps : List Pc) (x : Rat) : List Rat:=ascL (lo.y::hi.y::ps.flatMap (ordP x))
abbrev KX : Nat:=100000
theorem zpK {p : Pc} {x y : Rat} (hp : p.sm KP) (hx : Sz KX x) (h : hgtO p x=some y) : Sz 200000 y:=by
 obtain ⟨h1,h2⟩:=hp
 unfold hgtO at h
 split at h
 ·cases h
  unfold hgtE
  have z0 : Sz 200000 (0 : Rat):=(show Sz 1 (0 : Rat) from ⟨by decide,by decide⟩).le (by decide)
  split
  ·exact z0
  ·split
   ·exact (h1.2.add (((hx.sub h1.1).div (h2.sub h1).1).mul (h2.sub h1).2)).le (by decide)
   ·exact z0
 ·cases h
theorem ztb {p : Pc} {x : Rat} (hp : p.sm KP) (hx : Sz KX x) : ∀ y∈ordP x p,Sz 200000 y:=fun y hy=>by
 rcases List.mem_append.1 hy with hy | hy
 ·split at hy
  ·simp only [List.mem_cons,List.not_mem_nil,or_false] at hy
   rcases hy with rfl | rfl
   ·exact hp.1.2.le (by decide)
   ·exact hp.2.2.le (by decide)
  ·cases hy
 ·exact zpK hp hx (by simpa using hy)
theorem zs6 (x : Rat) : ∀ l : List Pc,(l.flatMap (ordP x)).length≤3*l.length
 | []=>by simp
 | q::l=>by
  have:=zs6 x l
  have h2 : (ordP x q).length≤3:=by
   unfold ordP
   rw [List.length_append]
   have : (hgtO q x).toList.length≤1:=by cases hgtO q x <;> simp
   split <;> simp only [List.length_cons,List.length_nil] <;> omega
  rw [List.flatMap_cons,List.length_append,List.length_cons]; omega
theorem rat1 (L : List Rat) (x : Rat) : app (rowV ratC (L.map Q)) (ratC (Q x))=rowV ratC ((L++[x]).map Q):=by
 rw [za1,List.map_append,zaC]; simp [rowV]
theorem zs5 (lo hi : V) (A : Option Addr) (c : Nat) (ps : List Pc) (x : Rat) (hlo : SzV K0 lo) (hhi : SzV K0 hi) (hps : zmD ps) (hx : Sz KX x) (hl : ps.length≤400) :
  FnM PP zcU [bldV lo hi A ps.length c,qV x] (facts [zaf A (rowV pcC ps)]) (zdn zaq 3 (ysL lo hi ps x).length (rowV ratC ((ysL lo hi ps x).map Q))):=by
 refine FnO.of zab mixed zfE rfl rfl (Nat.le_of_ble_eq_true rfl) (by simp [zaf.ok]) ?_
 intro w hw
 obtain ⟨n,hn⟩ : ∃ n,n=ps.length:=⟨_,rfl⟩
 have hA : 0<n→A.isSome=true:=fun h=>zap (zaK hw) (by rw [zag zjF]; omega)
 rw [←hn] at hl ⊢
 conv=>whnf
 refine zak (ι:=Nat×List Rat) (fun ⟨i,L⟩=>⟨[(2,.o (.p 2 0)),(3,.o (.p 3 0)),(5,.o (.w 6)),(20,.o (.v (.slice A n c))),(21,.o (.v (.int .i64 n))),(22,.o (.v (.int .i64 i)))],[(2,bldM lo hi A n c),(3,ratM (Q x)),(6,.own zaq 3 L.length (rowV ratC (L.map Q)))],[zaf A (rowV pcC ps)]⟩)
  (fun ⟨i,L⟩=>i≤n∧L=lo.y::hi.y::(ps.take i).flatMap (ordP x)) (fun ⟨i,L⟩=>n-i) (0,[lo.y,hi.y]) ⟨Nat.zero_le _,rfl⟩
  ((SLe.own 5 18 6 zaq 3 2 rfl rfl rfl rfl (by decide) rfl rfl).trans (SLe.id ⟨rfl,rfl,rfl,rfl,rfl,rfl,trivial⟩ ⟨⟨_,rfl,.refl _⟩,⟨_,rfl,.refl _⟩,⟨_,rfl,.refl _⟩,trivial⟩ (fun R hR=>hR))) ?_
 rintro ⟨i,L⟩ ⟨hi0,hL⟩
 have hLl : L.length≤2+3*i:=by
  have:=zs6 x (ps.take i)
  rw [List.length_take] at this
  rw [hL]; simp only [List.length_cons]; omega
 have hLs : ∀ y∈L,Sz 200000 y:=fun y hy=>by
  rw [hL] at hy
  rcases List.mem_cons.1 hy with rfl | hy
  ·exact hlo.2.le (by decide)
  rcases List.mem_cons.1 hy with rfl | hy
  ·exact hhi.2.le (by decide)
  obtain ⟨q,hq,hy⟩:=List.mem_flatMap.1 hy
  exact ztb (hps q (List.mem_of_mem_take hq)).1 hx y hy
 conv=>whnf
 by_cases hin : i<n
 rotate_left
 ·refine zae (decide_eq_false (show ¬(i : Int)<(n : Int) by omega)) ?_
  have hxx : ysL lo hi ps x=ascL L:=by rw [ysL,hL,List.take_of_length_le (by omega)]
  conv=>whnf
  have ha:=znY L (fun x hx=>(hLs x hx).le (by decide)) (by omega)
  have hal : (ascL L).length≤L.length:=by rw [←zgd]; exact Nat.le_trans (ztq _) (Nat.le_of_eq (zdl L).length_eq)
  refine zac.cw 1 ha rfl (by rw [hL]; simp) hal (by rw [zag zbf,List.length_map]) (by simp) rfl rfl ?_ rfl
  conv=>whnf
  rw [hxx]
  exact ⟨1,rfl,rfl⟩
 refine zai (decide_eq_true (show (i : Int)<(n : Int) by omega)) ?_
 obtain ⟨p,hp⟩ : ∃ p,ps[i]?=some p:=⟨_,List.getElem?_eq_getElem (by omega)⟩
 have hpo:=hps p (List.mem_of_getElem? hp)
 have htk : (ps.take (i+1)).flatMap (ordP x)=(ps.take i).flatMap (ordP x)++ordP x p:=by rw [zaE hp,List.flatMap_append]; simp
 conv=>whnf
 refine ⟨⟨by omega,by omega,hA (by omega)⟩,?_⟩
 conv=>whnf
 refine zao.elem (A:=A) (xs:=ps) (j:=(i : Int)) pcC zjF (List.mem_cons_self ..) rfl (by rw [Int.toNat_natCast]; omega) (by decide) (fun h=>by cases h) ?_
 intro p' hp'
 obtain rfl : p'=p:=by rw [Int.toNat_natCast,hp] at hp'; exact (Option.some.inj hp').symm
 conv=>whnf
 refine cf (zvw p') ?_
 by_cases hv : p'.a.x=p'.b.x∧p'.a.x=x
 ·-- a vertical segment of the line
  have hno : hgtO p' x=none:=by
   unfold hgtO hgtE
   rw [if_pos (show (p'.b-p'.a).x=0 by show p'.b.x-p'.a.x=0; rw [hv.1]; grind)]; rfl
  have hO : ordP x p'=[p'.a.y,p'.b.y]:=by rw [ordP,if_pos hv,hno]; rfl
  rw [decide_eq_true hv.1]
  conv=>whnf
  refine zai ((eqR (Q p'.a.x) (Q x)).trans (decide_eq_true (by rw [hv.2]))) ?_
  conv=>whnf
  refine ⟨by show L.length+2≤9223372036854775807∧(L.length+2)*40≤140737488355328; omega,?_⟩
  conv=>whnf
  refine cf (zhS p' x hpo.1 (hx.le (by decide)) hpo.2) ?_
  rw [hno]
  conv=>whnf
  refine ⟨(i+1,L++[p'.a.y,p'.b.y]),⟨by omega,by rw [htk,hO,hL]; rfl⟩,by show n-(i+1)<n-i; omega,SLe.mk (fun k=>bif Nat.beq k 6 then 46 else k) ⟨rfl,rfl,rfl,rfl,rfl,zan hin (by omega),trivial⟩ ⟨⟨_,rfl,.refl _⟩,⟨_,rfl,.refl _⟩,⟨_,rfl,?_⟩,trivial⟩ rfl (fun R hR=>hR)⟩
  rw [←rat2]; simp only [List.length_append]; exact .refl _
 have hO : ordP x p'=(hgtO p' x).toList:=by rw [ordP,if_neg hv,List.nil_append]
 have key : ∀ K : Prop,(∀ h : True,K)→K:=fun K h=>h trivial
 by_cases hv1 : p'.a.x=p'.b.x
 ·rw [decide_eq_true hv1]
  conv=>whnf
  refine zae ((eqR (Q p'.a.x) (Q x)).trans (decide_eq_false (fun h=>hv ⟨hv1,zo9.1 h⟩))) ?_
  conv=>whnf
  have hno : hgtO p' x=none:=by
   unfold hgtO hgtE
   rw [if_pos (show (p'.b-p'.a).x=0 by show p'.b.x-p'.a.x=0; rw [hv1]; grind)]; rfl
  refine cf (zhS p' x hpo.1 (hx.le (by decide)) hpo.2) ?_
  rw [hno]
  conv=>whnf
  exact ⟨(i+1,L),⟨by omega,by rw [htk,hO,hno,hL]; simp⟩,by show n-(i+1)<n-i; omega,SLe.id ⟨rfl,rfl,rfl,rfl,rfl,zan hin (by omega),trivial⟩ ⟨⟨_,rfl,.refl _⟩,⟨_,rfl,.refl _⟩,⟨_,rfl,.refl _⟩,trivial⟩ (fun R hR=>hR)⟩
 rw [decide_eq_false hv1]
 conv=>whnf
 refine cf (zhS p' x hpo.1 (hx.le (by decide)) hpo.2) ?_
 cases hh : hgtO p' x with
 | none =>
  conv=>whnf
  exact ⟨(i+1,L),⟨by omega,by rw [htk,hO,hh,hL]; simp⟩,by show n-(i+1)<n-i; omega,SLe.id ⟨rfl,rfl,rfl,rfl,rfl,zan hin (by omega),trivial⟩ ⟨⟨_,rfl,.refl _⟩,⟨_,rfl,.refl _⟩,⟨_,rfl,.refl _⟩,trivial⟩ (fun R hR=>hR)⟩
 | some y =>
  conv=>whnf
  refine ⟨by show L.length+1≤9223372036854775807∧(L.length+1)*40≤140737488355328; omega,?_⟩
  conv=>whnf
  refine ⟨(i+1,L++[y]),⟨by omega,by rw [htk,hO,hh,hL]; rfl⟩,by show n-(i+1)<n-i; omega,SLe.mk (fun k=>bif Nat.beq k 6 then 57 else k) ⟨rfl,rfl,rfl,rfl,rfl,zan hin (by omega),trivial⟩ ⟨⟨_,rfl,.refl _⟩,⟨_,rfl,.refl _⟩,⟨_,rfl,?_⟩,trivial⟩ rfl (fun R hR=>hR)⟩
  rw [←rat1]; simp only [List.length_append]; exact .refl _
end Go.Sx
end
section
set_option maxRecDepth 10000
set_option maxHeartbeats 2000000
namespace Go.Sx
open Go Go.Proofs
def cmpI (x y : Int) : Int:=if x<y then -1 else if y<x then 1 else 0
theorem zwf (x : Int) : Fn PP zhf [.int .i64 x] (.bool false):=by
 refine Fn.of zab mixed znL rfl rfl (Nat.le_of_ble_eq_true rfl) ?_
 intro w
 conv=>whnf
 refine zaa ?_
 show Value.bool (x != x)=_
 simp
theorem zBS (x y : Int) : Fn PP zfY [.int .i64 x,.int .i64 y] (.int .i64 (cmpI x y)):=by
 refine Fn.of zab mixed zlS rfl rfl (Nat.le_of_ble_eq_true rfl) ?_
 intro w
 conv=>whnf
 refine cf (zwf x) ?_
 conv=>whnf
 refine cf (zwf y) ?_
 conv=>whnf
 unfold cmpI
 by_cases h1 : x<y
 ·refine zai (decide_eq_true h1) ?_
  rw [if_pos h1]
  conv=>whnf
  exact zaa rfl
 refine zae (decide_eq_false h1) ?_
 rw [if_neg h1]
 conv=>whnf
 by_cases h2 : y<x
 ·refine zai (decide_eq_true h2) ?_
  rw [if_pos h2]
  conv=>whnf
  exact zaa rfl
 refine zae (decide_eq_false h2) ?_
 rw [if_neg h2]
 conv=>whnf
 exact zaa rfl
def orL : List Int→Int
 | []=>0
 | x::l=>if x=0 then orL l else x
abbrev i64c (x : Int) : List Value:=[.int .i64 x]
theorem ztK (x : Int) : (i64c x).length=1:=rfl
theorem c_Or (A : Option Addr) (c : Nat) (l : List Int) (hl : l.length≤1000) : FnM PP zml [.slice A l.length c] (facts [zaf A (rowV i64c l)]) (zbu (.int .i64 (orL l))):=by
 refine FnS.of zab mixed zsq rfl rfl (Nat.le_of_ble_eq_true rfl) (by simp [zaf.ok]) ?_
 intro w hw
 obtain ⟨n,hn⟩ : ∃ n,n=l.length:=⟨_,rfl⟩
 have hA : 0<n→A.isSome=true:=fun h=>zap (zaK hw) (by rw [zag ztK]; omega)
 rw [←hn] at hl ⊢
 conv=>whnf
 refine zak (ι:=Nat) (fun i=>⟨[(3,.o (.v (.int .i64 0))),(6,.o (.v (.slice A n c))),(7,.o (.v (.int .i64 n))),(8,.o (.v (.int .i64 i)))],[],[zaf A (rowV i64c l)]⟩)
  (fun i=>i≤n∧orL l=orL (l.drop i)) (fun i=>n-i) 0 ⟨Nat.zero_le _,rfl⟩ (SLe.id ⟨rfl,rfl,rfl,rfl,trivial⟩ trivial (fun R hR=>hR)) ?_
 rintro i ⟨hi,ho⟩
 conv=>whnf
 by_cases hin : i<n
 rotate_left
 ·refine zae (decide_eq_false (show ¬(i : Int)<(n : Int) by omega)) ?_
  rw [List.drop_of_length_le (by omega)] at ho
  conv=>whnf
  refine zaa ?_
  rw [ho]; rfl
 refine zai (decide_eq_true (show (i : Int)<(n : Int) by omega)) ?_
 obtain ⟨x,hx⟩ : ∃ x,l[i]?=some x:=⟨_,List.getElem?_eq_getElem (by omega)⟩
 rw [zvL hx,orL] at ho
 conv=>whnf
 refine ⟨⟨by omega,by omega,hA (by omega)⟩,?_⟩
 conv=>whnf
 refine zao.elem (A:=A) (xs:=l) (j:=(i : Int)) i64c ztK (List.mem_cons_self ..) rfl (by rw [Int.toNat_natCast]; omega) (by decide) (fun h=>rfl) ?_
 intro x' hx'
 obtain rfl : x'=x:=by rw [Int.toNat_natCast,hx] at hx'; exact (Option.some.inj hx').symm
 conv=>whnf
 by_cases h0 : x'=0
 ·refine zae (bne_eq_false_iff_eq.2 h0) ?_
  rw [if_pos h0] at ho
  conv=>whnf
  exact ⟨i+1,⟨by omega,ho⟩,by omega,SLe.id ⟨rfl,rfl,rfl,zan hin (by omega),trivial⟩ trivial (fun R hR=>hR)⟩
 ·refine zai (bne_iff_ne.2 h0) ?_
  rw [if_neg h0] at ho
  conv=>whnf
  refine zaa ?_
  rw [ho]
def crC (x : Rat×Nat) : List Value:=ratC (Q x.1)++[.int .i64 x.2]
theorem zqN (x : Rat×Nat) : (crC x).length=4:=rfl
def cmpC (a b : Rat×Nat) : Int:=orL [cmpQ a.1 b.1,cmpI a.2 b.2]
theorem zxW (a b : Rat×Nat) (ha : Sz KV a.1) (hb : Sz KV b.1) : Fn PP zaS [.agg ⟨crC a⟩,.agg ⟨crC b⟩] (.int .i64 (cmpC a b)):=by
 refine Fn.of zab mixed zgN rfl rfl (Nat.le_of_ble_eq_true rfl) ?_
 intro w
 conv=>whnf
 refine zaj.quiet (by kernel_rfl) ?_
 conv=>whnf
 refine cd (zbp (Q a.1) (Q b.1) (ha.q.le (by decide)) (hb.q.le (by decide))) ?_
 rw [Q_v,Q_v]
 conv=>whnf
 refine cd (zBS a.2 b.2) ?_
 conv=>whnf
 have hg:=fun A c (_ : 2≤c)=>c_Or A c [cmpQ a.1 b.1,cmpI a.2 b.2] (by simp)
 refine zad.v (hg none 2 (Nat.le_refl _)).enters (zaB.sl1 (x:=.o (.s 15 0 2 2)) (fun z=>[z]) (RdA.box rfl (Nat.le_refl _)) (List.mem_cons_self ..) (fun _=>rfl) hg) ?_
 conv=>whnf
 exact zaa rfl
end Go.Sx
end
