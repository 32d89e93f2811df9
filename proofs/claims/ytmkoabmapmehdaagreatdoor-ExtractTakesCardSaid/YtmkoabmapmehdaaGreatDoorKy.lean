/- What is proved here: parts of the proofs of this seat's statements (a verified evaluator for calls over pure values, its laws, and contracts of functions). No condition. -/
import Derived.Test.YtmkoabmapmehdaaGreatDoorKx
set_option linter.all false
open List renaming getD_eq_getElem?_getD→z00,length_append→z01,getElem?_eq_getElem→z02,take_of_length_le→z03,mem_append→z05,mem_cons→z07,foldl_cons→z08,length_singleton→z10,mem_of_getElem?→z11,take_succ_eq_append_getElem→z13,take_add_one→z14,getElem?_set→z15,mem_flatMap→z17,length_cons→z18,nil_append→z20,length_set→z21,dropLast_concat_getLast→z22,length_eq_zero_iff→z24,getElem?_eq_none→z25,getElem?_append→z27,mem_singleton→z28,foldl_append→z30,flatMap_cons→z33,take_length→z34,not_mem_nil→z35,foldl_nil→z38,range→z48,getD→z49
open Nat renaming pow_le_pow_right→z04,pow_succ→z06,two_pow_pos→z09,mul_le_mul_right→z12,zero_add→z16,zero_le→z19,reducePow→z23,div_lt_iff_lt_mul→z26,xor_lt_two_pow→z29,mod_eq_of_lt→z36,reduceSub→z40,reduceMod→z41,xor_self→z42,mul_comm→z43,pow_mul→z44,pow_add→z45,le_refl→z47
open Bool renaming eq_iff_iff→z37
open Int renaming tmod→z39,tdiv→z50
set_option maxRecDepth 10000
namespace Go.Ck
open Go.Proofs
theorem ahq{v j:Nat}(hj:j<8):IntKind.u8.wrap (mo .u64 (v:Int) ((8*j:Nat):Int))=((v/256^j % 256:Nat):Int):=by
 rw[j7 .u64 v (8*j) (by show 8*j≤64;omega),wrap_u8,z44]
theorem jo(v n:Nat)(hv:v<2^64)(hn:n≤8):Fn Tryz.prog 99 [] [.pv (.int .u64 v),.pv (.int .i64 n)] (fun rs H'=>rs=[.own 5 (bytes (iy v n))]∧H'=[]):=by
 refine Fn.ob Tryz.f99 29 [.tmp 4] fun C=> ?_
 refine ak ?_;refine ae (by simp only[go_sem,↓reduceIte];congr 3;simp;omega) ?_
 refine aa ?_;refine aq (fun a:List Nat×Nat=>⟨29,[(5,.own 5 (bytes a.1)),(6,.pv (.int .i64 ((a.2:Int)-1))),(0,.pv (.int .u64 v))],[]⟩) (fun a=>a.1++iy v a.2=iy v n∧a.2≤n) (fun a=>a.2) [5,6,0] [] ([],n) ⟨rfl,z47 _⟩ ?_ (by simp only[go_sem,↓reduceIte]) (by simp only[go_sem,↓reduceIte];rw[an (by omega) (by omega)]<;>rfl)
 rintro⟨o,j⟩ ⟨ho,hj⟩ K hK;simp only at ho hj;refine aa ?_;refine AW.cond rfl (fun hc=> ?_) (fun hc=> ?_)
 ·cases j with
  |zero=>simp at hc
  |succ j=>
   have e0:(((j+1:Nat):Int)-1)=(j:Nat):=by omega
   have e1:IntKind.i64.wrap (8*(j:Int))=((8*j:Nat):Int):=by rw[an (by omega) (by omega)];omega
   have e2:IntKind.u64.wrap ((8*j:Nat):Int)=((8*j:Nat):Int):=ay (by omega)
   have e4:IntKind.i64.wrap ((j:Int)-1)=(j:Int)-1:=an (by omega) (by omega)
   have e3:=ahq (v:=v) (j:=j) (by omega)
   have hlen:o.length+1≤aw:=by
    have:=congrArg List.length ho;simp[gv]at this;have:=O6 8;omega
   refine aa ?_ (by simp only[go_sem,↓reduceIte,e0,e1,e2,e3,e4,Nat.one_mul,m9,hlen]<;>rfl)
   refine ah hK (o++[v/256^j % 256],j) ⟨?_,by simp only;omega⟩ (by simp only;omega)
   rw[←ho,Dl];simp
 ·cases j with
  |zero=>
   refine aa ?_;refine ac (.move rfl .nil) ?_;rw[←ho];simp[iy]
  |succ j=>exact absurd hc (by simp)
theorem cx(b:List Nat)(v:Nat)(hv:v<2^64)(hl:b.length+10≤aw):Fn Tryz.prog 24 [] [.pv (.sl 1 (bytes b)),.pv (.int .u64 v)] (fun rs H'=>rs=[.own 5 (bytes (b++cg v))]∧H'=[]):=by
 refine Fn.ob Tryz.f24 26 [.tmp 4] fun C=> ?_
 have hb0:b.length≤aw:=by omega
 refine aa ?_ (by simp only[go_sem,↓reduceIte,hb0,z16,z20]<;>rfl)
 have hlen:=bn hv;refine aq (fun a:List Nat×Nat=>⟨26,[(5,.own 5 (bytes a.1)),(1,.pv (.int .u64 a.2))],[]⟩) (fun a=>a.1++cg a.2=b++cg v∧a.2<2^64) (fun a=>a.2) [5,1] [] (b,v) ⟨rfl,hv⟩ ?_
 rintro⟨o,u⟩ ⟨ho,hu⟩ K hK;simp only at ho hu;have hol:o.length+(cg u).length=b.length+(cg v).length:=by rw[←z01,ho,z01]
 have hup:=Zw u;have ho1:o.length+1≤aw:=by omega
 have e128:IntKind.u64.wrap (z50 (u:Int) 128)=((u/128:Nat):Int):=by rw[show z50 (u:Int) 128=((u/128:Nat):Int)from rfl,ay (by omega)]
 refine aa ?_ (by simp only[go_sem,↓reduceIte,e128]<;>rfl)
 refine AW.cond rfl (fun hc=> ?_) (fun hc=> ?_)
 ·have hge:¬u<128:=by simp at hc;omega
  have e1:IntKind.u8.wrap (IntKind.u8.wrap (z39 (u:Int) 128)+128)=((u % 128+128:Nat):Int):=by
   rw[show z39 (u:Int) 128=((u % 128:Nat):Int)from rfl,fi (by omega)]
   exact fi (n:=u % 128+128) (by omega)
  refine aa ?_ (by simp only[go_sem,↓reduceIte,e128,e1,m9,ho1]<;>rfl)
  refine ah hK (o++[u % 128+128],u/128) ⟨?_,by simp only;omega⟩ (by simp only;omega)
  simp only[List.append_assoc,List.singleton_append];rw[←yk hge,ho]
 ·have hlt:u<128:=by simp at hc;omega
  have e1:IntKind.u8.wrap (u:Int)=((u:Nat):Int):=fi (by omega)
  refine aa ?_ (by simp only[go_sem,↓reduceIte,e1,m9,ho1]<;>rfl)
  refine ac (.move rfl .nil) ?_;rw[←ho,t6 hlt]
theorem Wi(b:List Nat)(hl:b.length≤aw)(hb:∀x∈b,x<256):Fn Tryz.prog 75 [] [.pv (.sl 1 (bytes b))] (fun rs H'=>rs=[.pv (.int .u64 ((a6 b).1:Nat)),.pv (.int .i64 ((a6 b).2.1:Nat)),.pv (.int .i64 (a6 b).2.2)]∧H'=[]):=by
 refine Fn.ob Tryz.f75 51 [.tmp 2,.tmp 3,.tmp 4] fun C=> ?_
 have hr:aw<2^63:=by decide
 refine aa ?_;rw[Iw];refine aq (fun a:Nat×Nat=>⟨51,[(6,.pv (.int .i64 a.1)),(5,.pv (.int .u64 a.2)),(0,.pv (.sl 1 (bytes b)))],[]⟩) (fun a=>a.1≤b.length∧a.1≤10∧(a.1=10→a.1=b.length)∧A3 a.1 a.2 (b.drop a.1)=A3 0 0 b∧a.2<128^a.1) (fun a=>b.length-a.1) [6,5,0] [] (0,0) ⟨z19 _,by simp,by simp,rfl,by simp⟩ ?_
 rintro⟨i,v⟩ ⟨hi,hi10,hi11,hr,hv⟩ K hK;simp only at hi hi10 hi11 hr hv;refine aa ?_;refine AW.cond rfl (fun hc=> ?_) (fun hc=> ?_)
 ·have hlt:i<b.length:=by simpa using hc
  have hi9:i≤9:=by omega
  have hx:=hb b[i] (List.getElem_mem hlt);have hget:=rl hlt;rw[List.drop_eq_getElem_cons hlt]at hr;simp only[A3]at hr;generalize b[i]=x at hx hget hr;have hvlt:v<2^63:=by
   have:128^i≤128^9:=z04 (by omega) (by omega)
   omega
  have hp:128^ (i+1)=128^i*128:=z06 ..;have e9:((i:Int)==9)=decide (i=9):=by rw[z37];simp;omega
  have ei:IntKind.i64.wrap ((i:Int)+1)=((i+1:Nat):Int):=ai (by omega)
  by_cases h9:i=9∧1<x
  ·obtain⟨k1,k2⟩:=h9;rw[if_pos ⟨k1,k2⟩]at hr;have b1:decide (i=9)=true:=by simpa using k1
   refine ak ?_ (by simp only[go_sem,↓reduceIte,hget,e9,b1]<;>rfl)
   refine AW.cond rfl (fun hc2=> ?_) (fun hc2=>absurd k2 (by have h:=of_decide_eq_false hc2;omega))
   refine aa ?_;refine ac (.pv _ (.pv _ (.pv _ .nil))) ?_;rw[←hr];rfl
  ·rw[if_neg h9]at hr;have hxs:x % 128*128^i<2^64-2^63+1:=by
    by_cases k:i=9
    ·subst k;have:x≤1:=by omega
     have h1:x % 128*128^9≤1*128^9:=z12 _ (by omega)
     omega
    ·have h2:128^i≤128^8:=z04 (by omega) (by omega)
     have h1:x % 128*128^i≤127*128^i:=z12 _ (by omega)
     omega
   have em:z39 (x:Int) 128=((x % 128:Nat):Int):=rfl;have eu:IntKind.u64.wrap ((x % 128:Nat):Int)=((x % 128:Nat):Int):=ay (by omega)
   have e7:IntKind.u64.wrap (IntKind.i64.wrap (7*(i:Int)))=((7*i:Nat):Int):=by
    rw[an (by omega) (by omega)]
    exact ay (n:=7*i) (by omega)
   have es:xw .u64 ((x % 128:Nat):Int) ((7*i:Nat):Int)=((x % 128*128^i:Nat):Int):=by
    rw[wg _ _ (by omega),show(2:Nat)^ (7*i)=128^i by rw[z44],z36 (by omega)]
   have ea:IntKind.u64.wrap ((v:Int)+((x % 128*128^i:Nat):Int))=((v+x % 128*128^i:Nat):Int):=ay (n:=v+x % 128*128^i) (by omega)
   refine Aj (T:= ?T) (fun hT=> ?_) ?_
   rotate_left
   ·by_cases k:i=9
    ·have b1:decide (i=9)=true:=by simpa using k
     refine ak ?_ (by simp only[go_sem,↓reduceIte,hget,e9,b1]<;>rfl)
     refine AW.cond rfl (fun hc2=>absurd ⟨k,by simp at hc2;omega⟩ h9) (fun hc2=> ?_)
     refine bq [0,5,6] [] ?_;exact hT ()
    ·have b1:decide (i=9)=false:=by simpa using k
     refine ak ?_ (by simp only[go_sem,↓reduceIte,hget,e9,b1]<;>rfl)
     refine ae rfl ?_;refine bq [0,5,6] [] ?_;exact hT ()
   refine aa ?_ (by simp only[go_sem,↓reduceIte,hget,em,eu,e7,es,ea]<;>rfl)
   refine AW.cond rfl (fun hc2=> ?_) (fun hc2=> ?_)
   ·have h128:¬128≤x:=by simp at hc2;omega
    rw[if_neg h128]at hr;have hxm:x % 128=x:=z36 (by omega)
    rw[hxm];have ep:decide ((i:Int)>0)=decide (0<i):=by rw[z37];simp
    by_cases k0:0<i
    ·have b1:decide (0<i)=true:=by simpa using k0
     refine ak ?_ (by simp only[go_sem,↓reduceIte,hget,ep,b1]<;>rfl)
     refine AW.cond rfl (fun hc3=> ?_) (fun hc3=> ?_)
     ·have hx0:x=0:=by simp at hc3;omega
      rw[if_pos ⟨hx0,k0⟩]at hr;refine aa ?_;refine ac (.pv _ (.pv _ (.pv _ .nil))) ?_;rw[←hr];rfl
     ·have hx0:¬x=0:=by simp at hc3;omega
      rw[if_neg (fun h=>hx0 h.1)]at hr
      refine aa ?_ (by simp only[go_sem,↓reduceIte,ei]<;>rfl)
      refine ac (.pv _ (.pv _ (.pv _ .nil))) ?_;rw[←hr]
    ·have b1:decide (0<i)=false:=by simpa using k0
     refine ak ?_ (by simp only[go_sem,↓reduceIte,ep,b1]<;>rfl)
     refine ae rfl ?_;rw[if_neg (fun h=>k0 h.2)]at hr
     refine aa ?_ (by simp only[go_sem,↓reduceIte,ei]<;>rfl)
     refine ac (.pv _ (.pv _ (.pv _ .nil))) ?_;rw[←hr]
   ·have h128:128≤x:=by simp at hc2;omega
    rw[if_pos h128]at hr;refine aa ?_ (by simp only[go_sem,↓reduceIte,ei]<;>rfl)
    refine ah hK (i+1,v+x % 128*128^i) ⟨hlt,by simp only;omega,by simp only;omega,hr, ?_⟩ (by simp only;omega)
    simp only;rw[hp];have h1:x % 128*128^i≤127*128^i:=z12 _ (by omega)
    omega
 ·have hge:¬i<b.length:=by simpa using hc
  rw[List.drop_eq_nil_of_le (by omega),A3]at hr
  refine aa ?_;refine ac (.pv _ (.pv _ (.pv _ .nil))) ?_;rw[←hr];rfl
theorem Dr(b:List Nat)(hl:b.length≤aw)(hb:∀x∈b,x<256):Fn Tryz.prog 39 [] [.pv (.sl 1 (bytes b))] (fun rs H'=>rs=[.pv (.int .u64 ((a6 b).1:Nat)),.pv (.sl 1 (bytes (b.drop (a6 b).2.1))),.pv (.int .i64 (a6 b).2.2)]∧H'=[]):=by
 refine Fn.ob Tryz.f39 19 [.tmp 2,.tmp 3,.tmp 4] fun C=> ?_
 have hr:aw<2^63:=by decide
 have hle:=C6 b;refine aa ?_;refine ap (Wi b hl hb) (.pv _ .nil) ?_;refine aa ?_;have e:(((b.length:Int)-((a6 b).2.1:Nat)).toNat)=b.length-(a6 b).2.1:=by omega
 have e2:(bytes (b.drop (a6 b).2.1)).take (b.length-(a6 b).2.1)=bytes (b.drop (a6 b).2.1):=z03 (by simp[bytes])
 refine pc mixed (by decide+kernel) ?_ (by simp only[go_sem,↓reduceIte,hle,e];rw[←dz,e2]<;>rfl)
 refine aa ?_;refine ac (.pv _ (.pv _ (.pv _ .nil))) rfl
theorem y4(b:List Nat)(n:Nat)(hn:n<2^63)(hl:b.length≤aw):Fn Tryz.prog 14 [] [.pv (.sl 1 (bytes b)),.pv (.int .i64 n)]
  (fun rs H'=>rs=[.own 5 (bytes (if n≤b.length then b.take n else [])),.pv (.sl 1 (bytes (if n≤b.length then b.drop n else b))),.pv (.int .i64 (if n≤b.length then 0 else 2))]∧H'=[]):=by
 refine Fn.ob Tryz.f14 23 [.tmp 4,.tmp 5,.tmp 6] fun C=> ?_
 refine aa ?_;refine ae rfl ?_;refine aa ?_;refine AW.cond rfl (fun hc=> ?_) (fun hc=> ?_)
 ·have hle:¬n≤b.length:=by simp at hc;omega
  simp only[if_neg hle];refine aa ?_;refine ac (.move rfl (.pv _ (.pv _ .nil))) rfl
 ·have hle:n≤b.length:=by simp at hc;omega
  simp only[if_pos hle];refine aa ?_;have e:(((b.length:Int)-(n:Nat)).toNat)=b.length-n:=by omega
  have e2:(bytes (b.drop n)).take (b.length-n)=bytes (b.drop n):=z03 (by simp[bytes])
  refine AW.ts [1,2,3,5,6,7] [0,4,8,9,10] mixed (by decide+kernel) ?_ (by simp only[go_sem,↓reduceIte,hle,e];rw[←dz,e2]<;>rfl)
  have h3:(b.take n).length≤aw:=by simp;omega
  refine aa ?_ (by simp only[go_sem,↓reduceIte,h3,z16,z20]<;>rfl)
  refine ac (.move rfl (.pv _ (.pv _ .nil))) rfl
theorem F2(l:List Nat)(m:Nat)(hm:m<2^63)(hl:l.length≤aw)(hb:∀x∈l,x<256):Fn Tryz.prog 12 [] [.pv (.sl 1 (bytes l)),.pv (.int .i64 m)]
  (fun rs H'=>rs=[.own 5 (bytes (blk l m).1),.pv (.sl 1 (bytes (blk l m).2.2)),.pv (.int .i64 (blk l m).2.1)]∧H'=[]):=by
 refine Fn.ob Tryz.f12 45 [.tmp 4,.tmp 5,.tmp 6] fun C=> ?_
 have hr:aw<2^63:=by decide
 have hle:=C6 l;have hlt:=sj hb;refine aa ?_;refine ae rfl ?_;refine aa ?_;refine ap (Dr l hl hb) (.pv _ .nil) ?_;refine aa ?_;unfold blk;generalize(a6 l).1=v at*;generalize(a6 l).2.2=e at*;generalize(a6 l).2.1=k at*;refine AW.cond rfl (fun hc=> ?_) (fun hc=> ?_)
 ·have he:e≠0:=by simpa using hc
  simp only[if_pos he];refine aa ?_;refine ac (.move rfl (.pv _ (.pv _ .nil))) rfl
 have he:¬e≠0:=by simpa using hc
 simp only[if_neg he];have hu:IntKind.u64.wrap (m:Int)=(m:Int):=ay (by omega)
 refine aa ?_ (by simp only[go_sem,↓reduceIte,hu]<;>rfl)
 refine AW.cond rfl (fun hc=> ?_) (fun hc=> ?_)
 ·have he:m<v:=by simp at hc;omega
  simp only[if_pos he];refine aa ?_;refine ac (.move rfl (.pv _ (.pv _ .nil))) rfl
 have hmv:¬m<v:=by simp at hc;omega
 simp only[if_neg hmv];have h2:IntKind.i64.wrap (v:Int)=(v:Int):=au (by omega)
 refine aa ?_ (by simp only[go_sem,↓reduceIte,h2]<;>rfl)
 refine ap (y4 (l.drop k) v (by omega) (by simp;omega)) (.pv _ (.pv _ .nil)) ?_
 refine aa ?_;by_cases hx:v≤(l.drop k).length
 ·have hlv:¬l.length-k<v:=by simp at hx;omega
  simp only[if_pos hx,if_neg hlv];refine ae rfl ?_;refine aa ?_;refine ac (.move rfl (.pv _ (.pv _ .nil))) ?_;rw[List.drop_drop]
 ·have hlv:l.length-k<v:=by simp at hx;omega
  simp only[if_neg hx,if_pos hlv];refine am rfl ?_;refine aa ?_;refine ac (.move rfl (.pv _ (.pv _ .nil))) rfl
theorem Ds(a b:List Nat)(hl:a.length≤aw):Fn Tryz.prog 26 [] [.pv (.sl 1 (bytes a)),.pv (.sl 1 (bytes b))] (fun rs H'=>rs=[.pv (.bool (decide (a=b)))]∧H'=[]):=by
 refine Fn.ob Tryz.f26 26 [.tmp 4] fun C=> ?_
 have hr:aw<2^62:=by decide
 refine aa ?_;refine AW.cond rfl (fun hc=> ?_) (fun hc=> ?_)
 ·have hne:a≠b:=by rintro rfl;simp at hc
  refine aa ?_;refine ac (.pv _ .nil) ?_;rw[decide_eq_false hne]
 have hlen:a.length=b.length:=by simp at hc;omega
 refine aa ?_;refine aq (fun i:Nat=>⟨26,[(5,.pv (.int .i64 i)),(0,.pv (.sl 1 (bytes a))),(1,.pv (.sl 1 (bytes b)))],[]⟩) (fun i=>i≤a.length∧a.take i=b.take i) (fun i=>a.length-i) [5,0,1] [] 0 ⟨z19 _,rfl⟩ ?_
 rintro i ⟨hi,ht⟩ K hK;refine aa ?_;refine AW.cond rfl (fun hc=> ?_) (fun hc=> ?_)
 ·have hlt:i<a.length:=by simpa using hc
  have hlt2:i<b.length:=by omega
  have h1:=rl hlt;have h2:=rl hlt2;have ei:IntKind.i64.wrap ((i:Int)+1)=((i+1:Nat):Int):=ai (by omega)
  refine aa ?_;refine pc mixed (by decide+kernel) ?_ (by simp only[go_sem,↓reduceIte,h1,h2]<;>rfl)
  refine aa ?_;refine AW.cond rfl (fun hc=> ?_) (fun hc=> ?_)
  ·have hne:a≠b:=by rintro rfl;simp at hc
   refine aa ?_;refine ac (.pv _ .nil) ?_;rw[decide_eq_false hne]
  ·have he:a[i]=b[i]:=by simp at hc;omega
   refine aa ?_ (by simp only[go_sem,↓reduceIte,ei]<;>rfl)
   refine ah hK (i+1) ⟨hlt, ?_⟩ (by omega)
   rw[z13 hlt,z13 hlt2,ht,he]
 ·have hge:¬i<a.length:=by simpa using hc
  rw[z03 (by omega),z03 (by omega)]at ht
  refine aa ?_;refine ac (.pv _ .nil) ?_;rw[decide_eq_true ht]
set_option maxRecDepth 100000
set_option maxHeartbeats 400000
theorem Pw(x y:Nat):x^^^y=0↔x=y:=⟨fun h=>by
 have h2:x^^^y^^^y=0^^^y:=by rw[h]
 rw[Nat.xor_assoc,z42,Nat.xor_zero,Nat.zero_xor]at h2;exact h2,fun h=>by rw[h,z42]⟩
theorem ajb(a b:List Nat)(ha:∀x∈a,x<256)(hb:∀x∈b,x<256)(hl:a.length<2^62):Fn Tryz.prog 74 [] [.pv (.sl 1 (bytes a)),.pv (.sl 1 (bytes b))] (fun rs H'=>rs=[.pv (.bool (decide (a=b)))]∧H'=[]):=by
 refine Fn.ob Tryz.f74 31 [.tmp 4] fun C=> ?_
 by_cases hlen:a.length=b.length
 rotate_left
 ·have d1:((a.length:Int) !=(b.length:Int))=true:=by simp;omega
  have d2:(a.length !=b.length)=true:=by simp;omega
  rw[show decide (a=b)=false from decide_eq_false (fun h=>hlen (by rw[h]))]
  refine aa ?_ (by simp only[go_sem,↓reduceIte,d1,d2]<;>rfl)
  refine am rfl ?_;refine aa ?_;refine ac (.pv _ .nil) rfl
 have d1:((a.length:Int) !=(b.length:Int))=false:=by simp;omega
 have d2:(a.length !=b.length)=false:=by simp;omega
 refine aa ?_ (by simp only[go_sem,↓reduceIte,d1,d2]<;>rfl)
 refine ae rfl ?_;refine aa ?_;refine aq (fun p:Nat×Nat=>⟨31,[(14,.pv (.int .i64 p.1)),(0,.pv (.sl 1 (bytes a))),(1,.pv (.sl 1 (bytes b))),(5,.pv (.int .u8 p.2)),(13,.pv (.int .i64 a.length))],[]⟩) (fun p=>p.1≤a.length∧p.2<256∧(p.2=0↔a.take p.1=b.take p.1)) (fun p=>a.length-p.1) [14,0,1,5,13] [] (0,0) ⟨z19 _,by decide,by simp⟩ ?_
 rintro⟨i,d⟩ ⟨hi,hd,hdi⟩ K hK;simp only at hi hd hdi;refine aa ?_;refine AW.cond rfl (fun hc=> ?_) (fun hc=> ?_)
 rotate_left
 ·have hge:i=a.length:=by have:=of_decide_eq_false hc;omega
  subst hge;rw[z34,hlen,z34]at hdi;have hfin:((d:Int)==0)=decide (a=b):=by
   by_cases h:d=0
   ·rw[decide_eq_true (hdi.1 h),h];rfl
   ·rw[decide_eq_false (fun hh=>h (hdi.2 hh))]
    simpa using h
  have hfin2:(d==0)=decide (a=b):=by
   by_cases h:d=0
   ·rw[decide_eq_true (hdi.1 h),h];rfl
   ·rw[decide_eq_false (fun hh=>h (hdi.2 hh))]
    simpa using h
  refine aa ?_ (by simp only[go_sem,↓reduceIte,hfin,hfin2]<;>rfl)
  refine ac (.pv _ .nil) rfl
 have hlt:i<a.length:=by have:=of_decide_eq_true hc;omega
 have hlt2:i<b.length:=by omega
 obtain⟨x,hx⟩:∃x,a[i]?=some x:=⟨a[i],z02 hlt⟩
 obtain⟨y,hy⟩:∃y,b[i]?=some y:=⟨b[i],z02 hlt2⟩
 have hx8:=ha x (z11 hx);have hy8:=hb y (z11 hy);have gx:=mw hx;have gy:=mw hy;have g4:=Bn (a:=x) (b:=y) hx8 hy8;have hxy:x^^^y<256:=z29 (n:=8) hx8 hy8;have g5:=My (a:=d) (b:=x^^^y) hd hxy;have e6:IntKind.i64.wrap ((i:Int)+1)=((i+1:Nat):Int):=ai (by omega)
 refine aa ?_;refine pc mixed (by decide+kernel) ?_ (by simp only[go_sem,↓reduceIte,gx,gy,g4,g5]<;>rfl)
 refine aa ?_ (by simp only[go_sem,↓reduceIte,e6]<;>rfl)
 refine ah hK (i+1,d|||(x^^^y)) (by
  refine⟨by simp only;omega,Nat.or_lt_two_pow (n:=8) hd hxy, ?_⟩
  simp only;rw[z14,z14,hx,hy,Nat.or_eq_zero_iff,hdi,Pw];simp only[Option.toList_some];constructor
  ·rintro⟨h1,h2⟩;rw[h1,h2]
  ·intro h;have:=List.append_inj h (by simp;omega)
   exact⟨this.1,by simpa using this.2⟩) (by simp;omega)
theorem Y5(key:List Nat)(x:Nat)(hkb:∀y∈key,y<256)(hx:x<256)(hkl:key.length<2^30):Fn Tryz.prog 106 [] [.pv (.sl 1 (bytes key)),.pv (.int .u8 x)] (fun rs H'=>rs=[.own 5 (bytes (u9 (D8 key) x))]∧H'=[]):=by
 refine Fn.ob Tryz.f106 34 [.tmp 4] fun C=> ?_
 have hroom:aw=140737488355328:=rfl;have hkp:D8 key=kof key++List.replicate (64-(kof key).length) 0:=rfl;have hko:=Zz key;have hkob:=aAy hkb;have hpl:=I5 key;refine aa ?_;refine pi (fun _:Unit=>⟨34,[(5,.pv (.sl 1 (bytes (kof key)))),(1,.pv (.int .u8 x))],[]⟩) (fun _=>True) [5,1] [] ?_ ?_
 ·intro K hK;refine AW.cond rfl (fun hc=> ?_) (fun hc=> ?_)
  ·have hlt:64<key.length:=by have:=of_decide_eq_true hc;omega
   have hko:kof key=Gi key:=if_pos hlt;refine aa ?_;refine ap (uj key (by omega)) (.pv _ .nil) ?_
   refine bj (.slot 14) ?_;refine aa ?_;exact jh hK () trivial (by simp only[go_sem,↓reduceIte]) (by simp only[go_sem,↓reduceIte,hko]<;>rfl)
  ·have hlt:¬64<key.length:=by have:=of_decide_eq_false hc;omega
   have hko:kof key=key:=if_neg hlt;refine aa ?_;exact jh hK () trivial (by simp only[go_sem,↓reduceIte]) (by simp only[go_sem,↓reduceIte,hko]<;>rfl)
 rintro _-;generalize kof key=k at*;generalize D8 key=kp at*;refine aa ?_;refine aq (fun i:Nat=>⟨34,[(7,.pv (.int .i64 i)),(5,.pv (.sl 1 (bytes k))),(1,.pv (.int .u8 x)),(6,.own 5 (bytes (u9 (kp.take i) x)))],[]⟩) (fun i=>i≤64) (fun i=>64-i) [7,5,1,6] [] 0 (z19 _) ?_
 rintro i hi K hK;refine aa ?_;refine AW.cond rfl (fun hc=> ?_) (fun hc=> ?_)
 rotate_left
 ·have hge:i=64:=by have:=of_decide_eq_false hc;omega
  subst hge;rw[z03 (by omega)]
  refine aa ?_;refine ac (.move rfl .nil) rfl
 have hlt:i<64:=by have:=of_decide_eq_true hc;omega
 have e6:IntKind.i64.wrap ((i:Int)+1)=((i+1:Nat):Int):=ai (by omega)
 obtain⟨a,ha⟩:∃a,kp[i]?=some a:=⟨kp[i],z02 (by omega)⟩
 have hst:u9 (kp.take i) x++[a^^^x]=u9 (kp.take (i+1)) x:=by rw[z14,ha];simp[u9]
 have hxl:(u9 (kp.take i) x).length=i:=by simp[u9];omega
 have hap:a<256∧a=if i<k.length then k.getD i 0 else 0:=by
  rw[hkp]at ha;by_cases h:i<k.length
  ·rw[List.getElem?_append_left h]at ha;refine⟨hkob a (z11 ha), ?_⟩;rw[if_pos h,z49,ha];rfl
  ·rw[List.getElem?_append_right (by omega),List.getElem?_replicate]at ha
   split at ha
   ·cases ha;exact⟨by decide,by rw[if_neg h]⟩
   ·cases ha
 have g4:=Bn (a:=a) (b:=x) hap.1 hx;have r1:((u9 (kp.take i) x).length+1≤aw)=True:=eq_true (by omega)
 refine aa ?_;refine pi (fun _:Unit=>⟨34,[(7,.pv (.int .i64 i)),(5,.pv (.sl 1 (bytes k))),(1,.pv (.int .u8 x)),(6,.own 5 (bytes (u9 (kp.take i) x))),(8,.pv (.int .u8 a))],[]⟩) (fun _=>True) [7,5,1,6,8] [] ?_ ?_
 ·intro K2 hK2;refine AW.cond rfl (fun hc2=> ?_) (fun hc2=> ?_)
  ·have h:i<k.length:=by have:=of_decide_eq_true hc2;omega
   have hg:(bytes k)[i]?=some (.int .u8 (a:Int)):=by
    refine mw ?_;rw[hap.2,if_pos h,z49,z02 h];rfl
   refine aa ?_ (by simp only[go_sem,↓reduceIte,hg]<;>rfl)
   exact jh hK2 () trivial
  ·have h:¬i<k.length:=by have:=of_decide_eq_false hc2;omega
   have ha0:a=0:=by rw[hap.2,if_neg h]
   refine aa ?_;exact jh hK2 () trivial (by simp only[go_sem,↓reduceIte]) (by simp only[go_sem,↓reduceIte,ha0]<;>rfl)
 rintro _-;refine aa ?_ (by simp only[go_sem,↓reduceIte,g4,r1,wy,e6]<;>rfl)
 exact ah hK (i+1) (by omega) (by omega) (hs:=by simp only[go_sem,↓reduceIte,hst]<;>rfl)
theorem I4(key m:List Nat)(hkb:∀y∈key,y<256)(hkl:key.length<2^29)(hm:m.length<2^29):Fn Tryz.prog 68 [] [.pv (.sl 1 (bytes key)),.pv (.sl 1 (bytes m))] (fun rs H'=>rs=[.own 5 (bytes (pz key m))]∧H'=[]):=by
 refine Fn.ob Tryz.f68 16 [.tmp 4] fun C=> ?_
 have hroom:aw=140737488355328:=rfl;have l54:(u9 (D8 key) 54).length=64:=by rw[Q9,I5]
 have l92:(u9 (D8 key) 92).length=64:=by rw[Q9,I5]
 have hh:pz key m=Gi (u9 (D8 key) 92++Gi (u9 (D8 key) 54++m)):=rfl;rw[hh];have f1:=Y5 key 54 hkb (by decide) (by omega)
 have f2:=Y5 key 92 hkb (by decide) (by omega)
 generalize u9 (D8 key) 54=a at*;generalize u9 (D8 key) 92=b at*;have r1:(a.length+m.length≤aw)=True:=eq_true (by omega)
 have hsl:=qo (a++m);have r2:(b.length+(Gi (a++m)).length≤aw)=True:=eq_true (by omega)
 refine aa ?_;refine ap f1 (.pv _ (.pv _ .nil)) ?_;refine aa ?_ (by simp only[go_sem,↓reduceIte,r1]<;>rfl)
 refine av (args:=[.pv (.sl 1 (bytes (a++m)))]) (fun _=>0) (uj (a++m) (by rw[z01];omega)) (.lend rfl c7 .nil) ?_
 refine aa ?_;refine ap f2 (.pv _ (.pv _ .nil)) ?_;refine aa ?_ (by simp only[go_sem,↓reduceIte,r2]<;>rfl)
 refine av (args:=[.pv (.sl 1 (bytes (b++Gi (a++m))))]) (fun _=>0) (uj (b++Gi (a++m)) (by rw[z01];omega)) (.lend rfl c7 .nil) ?_
 refine aa ?_;refine ac (.move rfl .nil) rfl
theorem im(l:List Nat)(hl:l.length+20≤aw):Fn Tryz.prog 25 [] [.pv (.sl 1 (bytes l))] (fun rs H'=>rs=[.own 5 (bytes (cg l.length++l))]∧H'=[]):=by
 refine Fn.ob Tryz.f25 9 [.tmp 2] fun C=> ?_
 have hr:aw<2^63:=by decide
 have hu:IntKind.u64.wrap (l.length:Int)=(l.length:Int):=ay (by omega)
 refine aa ?_ (by simp only[go_sem,↓reduceIte,hu]<;>rfl)
 refine ap (cx [] l.length (by omega) (by simp;omega)) (.nilsP 1 (.pv _ .nil)) ?_
 have h10:=bn (v:=l.length) (by omega)
 have hs:(cg l.length).length+l.length≤aw:=by omega
 refine aa ?_ (by simp only[go_sem,↓reduceIte,z20,hs]<;>rfl)
 refine ac (.move rfl .nil) rfl
def dg(v:Nat):Nat:=if v=0 then 0 else dg (v/2)+1
termination_by v
decreasing_by omega
theorem Ag:dg 0=0:=by rw[dg];simp
theorem Dk{v:Nat}(h:v≠0):dg v=dg (v/2)+1:=by rw[dg,if_neg h]
theorem fh{v n:Nat}:dg v≤n↔v<2^n:=by
 induction n generalizing v with
 |zero=>
  by_cases h:v=0
  ·subst h;simp[Ag]
  ·rw[Dk h];simp;omega
 |succ n ih=>
  by_cases h:v=0
  ·subst h;simp[Ag,z09]
  ·rw[Dk h,Nat.add_le_add_iff_right,ih,z26 (by omega),z06]
theorem v7{v:Nat}:v<2^dg v:=fh.1 (z47 _)
theorem By(k:Nat):∀ {v:Nat},2^k≤v→dg v=k+dg (v/2^k):=by
 induction k with
 |zero=>intro v _;simp
 |succ k ih=>
  intro v h;have hp:2^ (k+1)=2^k*2:=z06 ..;have hpos:=z09 k;rw[Dk (by omega),ih (v:=v/2) (by omega),Nat.div_div_eq_div_mul,hp,z43 2]
  omega
def zi(v:Nat):Nat:=if v=0∨v % 2=1 then 0 else zi (v/2)+1
termination_by v
decreasing_by omega
theorem vr{v:Nat}(h:v % 2=1):zi v=0:=by rw[zi,if_pos (.inr h)]
theorem ui{v:Nat}(h0:v≠0)(h:v % 2=0):zi v=zi (v/2)+1:=by rw[zi,if_neg (by omega)]
theorem N5{n:Nat}:∀ {v:Nat},v≠0→v<2^n→zi v<n:=by
 induction n with
 |zero=>intro v h0 h;simp at h;omega
 |succ n ih=>
  intro v h0 h;by_cases ho:v % 2=1
  ·rw[vr ho];omega
  ·rw[ui h0 (by omega)]
   have:=ih (v:=v/2) (by omega) (by rw[z06]at h;omega)
   omega
theorem R9(a b c d:Nat)(hb:b<2)(hd:d<2):(2*a+b)&&& (2*c+d)=2*(a&&&c)+(b&&&d):=by
 have h1:((2*a+b)&&& (2*c+d))/2=a&&&c:=by
  rw[Nat.and_div_two,show(2*a+b)/2=a by omega,show(2*c+d)/2=c by omega]
 have h2:((2*a+b)&&& (2*c+d)) % 2=b&&&d:=by
  have:((2*a+b)&&& (2*c+d)) % 2^1=((2*a+b) % 2^1)&&& ((2*c+d) % 2^1):=by rw[Nat.and_mod_two_pow]
  simp only[Nat.pow_one]at this;rw[this,show(2*a+b) % 2=b by omega,show(2*c+d) % 2=d by omega]
 omega
theorem W9{m a:Nat}(h:a<2^m):a&&& (2^m-(a+1))=0:=by
 apply Nat.eq_of_testBit_eq
 intro i;rw[Nat.testBit_and,Nat.testBit_two_pow_sub_succ h];simp;intro h1 h2;exact h1
theorem ai3{n:Nat}:∀ {v:Nat},v≠0→v<2^n→v&&& (2^n-v)=2^zi v:=by
 induction n with
 |zero=>intro v h0 h;simp at h;omega
 |succ n ih=>
  intro v h0 h;have hp:2^ (n+1)=2^n*2:=z06 ..;by_cases ho:v % 2=1
  ·rw[vr ho];have e1:v=2*(v/2)+1:=by omega
   have e2:2^ (n+1)-v=2*(2^n-(v/2+1))+1:=by omega
   rw[e2]
   conv=>lhs;lhs;rw[e1]
   rw[R9 _ _ _ _ (by omega) (by omega),W9 (by omega)]
   rfl
  ·rw[ui h0 (by omega)]
   have e1:v=2*(v/2)+0:=by omega
   have e2:2^ (n+1)-v=2*(2^n-v/2)+0:=by omega
   rw[e2]
   conv=>lhs;lhs;rw[e1]
   rw[R9 _ _ _ _ (by omega) (by omega),ih (by omega) (by omega),z06]
   simp[z43]
def js(v:Nat):Nat→List Nat
 |0=> []
 |n+1=>(v/2^n % 2)::js v n
theorem kn(v n:Nat):(js v n).length=n:=by induction n with|zero=>rfl|succ n ih=>simp[js,ih]
def aJx(l:List Nat):Nat:=l.foldl (fun a x=>a*2+x) 0
theorem yx(v n:Nat):∀x∈js v n,x<2:=by
 induction n with
 |zero=>simp[js]
 |succ n ih=>
  intro x hx;rcases z07.1 hx with rfl|hx
  ·omega
  ·exact ih x hx
def Od(a:List Nat×Nat)(b:Nat):List Nat×Nat:=(if a.2 % 8=0 then a.1++[b*128]else a.1.set (a.2/8) (a.1.getD (a.2/8) 0+b*2^ (7-a.2 % 8)),a.2+1)
def pk(l:List Nat):List Nat:=(l.foldl Od ([],0)).1
theorem aAi(l:List Nat)(a:List Nat×Nat):(l.foldl Od a).2=a.2+l.length:=by
 induction l generalizing a with
 |nil=>simp
 |cons x r ih=>rw[z08,ih];simp[Od];omega
theorem Zo(l:List Nat)(b:Nat):pk (l++[b])=if l.length % 8=0 then pk l++[b*128]else(pk l).set (l.length/8) ((pk l).getD (l.length/8) 0+b*2^ (7-l.length % 8)):=by
 have h:=aAi l ([],0);simp only[z16]at h;unfold pk;rw[z30,z08,z38,Od,h]
theorem Ib(l:List Nat):(pk l).length=(l.length+7)/8:=by
 have:∀n (l:List Nat),l.length=n→(pk l).length=(n+7)/8:=by
  intro n
  induction n with
  |zero=>intro l h;rw[z24.1 h];rfl
  |succ n ih=>
   intro l hl;have hne:l≠ []:=by rintro rfl;simp at hl
   have hd:l.dropLast.length=n:=by simp;omega
   rw[←z22 hne,Zo,hd];have:=ih l.dropLast hd;split
   ·rw[z01,this];simp;omega
   ·rw[z21,this];omega
 exact this _ l rfl
def Oc(a:List Nat×Nat)(b:Nat):List Nat×Nat:=(if a.2 % 8=0 then a.1++[b]else a.1.set (a.2/8) (a.1.getD (a.2/8) 0*2+b),a.2+1)
def pr(l:List Nat):List Nat:=(l.foldl Oc ([],0)).1
theorem aAg(l:List Nat)(a:List Nat×Nat):(l.foldl Oc a).2=a.2+l.length:=by
 induction l generalizing a with
 |nil=>simp
 |cons x r ih=>rw[z08,ih];simp[Oc];omega
theorem G2(l:List Nat)(b:Nat):pr (l++[b])=if l.length % 8=0 then pr l++[b]else(pr l).set (l.length/8) ((pr l).getD (l.length/8) 0*2+b):=by
 have h:=aAg l ([],0);simp only[z16]at h;unfold pr;rw[z30,z08,z38,Oc,h]
theorem lz{p:List Nat→Prop}(h0:p [])(h1:∀l b,p l→p (l++[b]))(l:List Nat):p l:=by
 have:∀n (l:List Nat),l.length=n→p l:=by
  intro n
  induction n with
  |zero=>intro l h;rw[z24.1 h];exact h0
  |succ n ih=>
   intro l hl;have hne:l≠ []:=by rintro rfl;simp at hl
   rw[←z22 hne];exact h1 _ _ (ih l.dropLast (by simp;omega))
 exact this _ l rfl
theorem Eg(l:List Nat):(pr l).length=(l.length+7)/8:=by
 induction l using lz with
 |h0=>rfl
 |h1 l b ih=>
  rw[G2];split
  ·rw[z01,ih];simp;omega
  ·rw[z21,ih];simp;omega
theorem aq3(l:List Nat):∀j,(pk l).getD j 0=if j=l.length/8 then(pr l).getD j 0*2^ ((8-l.length % 8) % 8)else(pr l).getD j 0:=by
 induction l using lz with
 |h0=>intro j;simp[pk,pr]
 |h1 l b ih=>
  intro j;have hk:=Ib l;have hr:=Eg l;rw[Zo,G2,z01,z10];by_cases h8:l.length % 8=0
  ·rw[if_pos h8,if_pos h8];simp only[z00,z27];have e:(l.length+1)/8=l.length/8:=by omega
   have e2:(8-(l.length+1) % 8) % 8=7:=by omega
   rw[e,e2];have hih:=ih j;simp only[z00]at hih;by_cases hj:j<(pk l).length
   ·rw[if_pos hj,if_neg (show¬j=l.length/8 by omega),if_pos (show j<(pr l).length by omega),hih,if_neg (show¬j=l.length/8 by omega)]
   ·rw[if_neg hj,if_neg (show¬j<(pr l).length by omega)]
    by_cases hj2:j=l.length/8
    ·rw[if_pos hj2];have:j-(pk l).length=0:=by omega
     have h2:j-(pr l).length=0:=by omega
     rw[this,h2];simp
    ·rw[if_neg hj2];have:j-(pk l).length=j-(pk l).length-1+1:=by omega
     have h2:j-(pr l).length=j-(pr l).length-1+1:=by omega
     rw[this,h2];simp
  ·rw[if_neg h8,if_neg h8];simp only[z00,z15];have hlt:l.length/8<(pk l).length:=by omega
   have hlt2:l.length/8<(pr l).length:=by omega
   have hih:=ih j;have hih2:=ih (l.length/8);simp only[z00,if_true]at hih hih2;by_cases hj:l.length/8=j
   ·subst hj;simp only[if_true,hlt,hlt2,Option.getD_some];rw[hih2];generalize((pr l)[l.length/8]?).getD 0=y;have hc:l.length % 8=1∨l.length % 8=2∨l.length % 8=3∨l.length % 8=4∨l.length % 8=5∨l.length % 8=6∨l.length % 8=7:=by omega
    rcases hc with h|h|h|h|h|h|h
    all_goals
     first
      |(rw[if_pos (by omega),h,show(l.length+1) % 8=l.length % 8+1 by omega,h];simp only[z40,z41,z23,Nat.reduceAdd];omega)
      |(rw[if_neg (by omega),h];simp only[z40,z41,z23];omega)
   ·rw[if_neg hj,if_neg hj,hih];rw[if_neg (fun h=>hj h.symm)]
    by_cases hj2:j=(l.length+1)/8
    ·rw[if_pos hj2];have h9:(l.length+1) % 8=0:=by omega
     rw[h9];simp
    ·rw[if_neg hj2]
def bl8(n:Nat):Nat:=if n<1 then 0 else if n<2 then 1 else if n<4 then 2 else if n<8 then 3 else if n<16 then 4 else if n<32 then 5 else if n<64 then 6 else if n<128 then 7 else 8
theorem aj5{n:Nat}(h:n<256):dg n=bl8 n:=by
 have h0:=fh (v:=n) (n:=0);have h1:=fh (v:=n) (n:=1);have h2:=fh (v:=n) (n:=2);have h3:=fh (v:=n) (n:=3);have h4:=fh (v:=n) (n:=4);have h5:=fh (v:=n) (n:=5);have h6:=fh (v:=n) (n:=6);have h7:=fh (v:=n) (n:=7);have h8:=fh (v:=n) (n:=8);simp only[z23]at h0 h1 h2 h3 h4 h5 h6 h7 h8;unfold bl8
 repeat' split
 all_goals omega
theorem aCd(n:Nat):bl8 n≤8:=by
 unfold bl8
 repeat' split
 all_goals omega
theorem Q3(l:List Nat)(h:∀x∈l,x<2):(∀j,(pr l).getD j 0<256)∧(pr l).getD (l.length/8) 0<2^ (l.length % 8):=by
 induction l using lz with
 |h0=>simp[pr]
 |h1 l b ih=>
  obtain⟨i1,i2⟩:=ih (fun x hx=>h x (by simp[hx]))
  have hb:b<2:=h b (by simp)
  have hr:=Eg l;have hk:l.length % 8<8:=Nat.mod_lt _ (by omega)
  rw[G2,z01,z10];by_cases h8:l.length % 8=0
  ·rw[if_pos h8];have hj:∀j,(pr l++[b]).getD j 0<256∧(j=l.length/8→(pr l++[b]).getD j 0<2):=by
    intro j;have:=i1 j;simp only[z00,z27]at this⊢;split
    ·exact⟨this,fun he=>by omega⟩
    ·rcases Nat.eq_zero_or_pos (j-(pr l).length)with h0|h0
     ·rw[h0];simp;omega
     ·rw[show j-(pr l).length=j-(pr l).length-1+1 by omega];simp
   refine⟨fun j=>(hj j).1, ?_⟩
   rw[show(l.length+1) % 8=1 by omega,show(l.length+1)/8=l.length/8 by omega]
   exact(hj _).2 rfl
  ·rw[if_neg h8];have hlt:l.length/8<(pr l).length:=by omega
   have hp:2^ (l.length % 8+1)=2^ (l.length % 8)*2:=z06 ..;have hp8:2^ (l.length % 8+1)≤2^8:=z04 (by omega) (by omega)
   have hj:∀j,((pr l).set (l.length/8) ((pr l).getD (l.length/8) 0*2+b)).getD j 0=if j=l.length/8 then(pr l).getD (l.length/8) 0*2+b else(pr l).getD j 0:=by
    intro j;simp only[z00,z15];by_cases hj:l.length/8=j
    ·rw[if_pos hj,if_pos hj.symm,if_pos hlt];rfl
    ·rw[if_neg hj,if_neg (fun h=>hj h.symm)]
   refine⟨fun j=> ?_, ?_⟩
   ·rw[hj];split
    ·omega
    ·exact i1 j
   ·rw[hj];by_cases h7:l.length % 8=7
    ·rw[show(l.length+1) % 8=0 by omega,if_neg (by omega)]
     have:(pr l).length≤(l.length+1)/8:=by omega
     rw[z00,z25 this];simp
    ·rw[show(l.length+1) % 8=l.length % 8+1 by omega,if_pos (by omega)]
     omega
theorem aai{x:Nat}(h:x<2^64):ef .and .u64 (x:Int) 1=((x % 2:Nat):Int):=by
 have:=y7 h (b:=1) (by omega)
 rw[Nat.and_one_is_mod]at this;exact this
theorem Nm(v n:Nat):js v (n+1)=(v/2^n % 2)::js v n:=rfl
def Vf(l:List Nat)(k n:Nat):Nat:=aJx ((l.drop k).take n)
theorem pg{l:List Nat}{i:Nat}(h:i<l.length):l[i]=l.getD i 0:=by rw[z00,z02 h];rfl
theorem Sh{l r:List Nat}(hl:l.length=r.length)(h:∀j,l.getD j 0=r.getD j 0):l=r:=by
 apply List.ext_getElem hl
 intro i h1 h2;rw[pg h1,pg h2,h]
theorem Sg(l:List Nat)(i j v:Nat):(l.set i v).getD j 0=if i=j∧i<l.length then v else l.getD j 0:=by
 simp only[z00,z15];by_cases h:i=j
 ·subst h;by_cases h2:i<l.length
  ·simp[h2]
  ·simp[h2]
 ·simp[h]
def prA(l:List Nat):List Nat:=if l.length % 8=0 then pr l++[0]else pr l
theorem ah5(l:List Nat)(b:Nat)(h:∀x∈l,x<2)(hb:b<2):l.length/8<(prA l).length∧(prA l).length≤l.length/8+1∧(prA l).getD (l.length/8) 0*2+b<256∧
  pr (l++[b])=(prA l).set (l.length/8) ((prA l).getD (l.length/8) 0*2+b):=by
 have hk:=Eg l;have h2:=(Q3 l h).2;unfold prA;rw[G2];by_cases h8:l.length % 8=0
 ·simp only[if_pos h8];have e:l.length/8=(pr l).length:=by omega
  rw[e];refine⟨by simp,by simp,by simp;omega,by simp⟩
 ·simp only[if_neg h8];have hp8:2^ (l.length % 8)≤2^7:=z04 (by omega) (by omega)
  refine⟨by omega,by omega,by omega,trivial⟩
theorem ah6(l:List Nat):pk l=(pr l).set (l.length/8) ((pr l).getD (l.length/8) 0*2^ ((8-l.length % 8) % 8)):=by
 have hk:=Eg l;have hk2:=Ib l;refine Sh (by rw[z21];omega) (fun j=> ?_)
 rw[aq3,Sg];by_cases hj:j=l.length/8
 ·subst hj;rw[if_pos rfl];by_cases h8:l.length/8<(pr l).length
  ·rw[if_pos ⟨rfl,h8⟩]
  ·rw[if_neg (fun h=>h8 h.2),z00,z25 (by omega)];simp
 ·rw[if_neg hj,if_neg (fun h=>hj h.1.symm)]
theorem ao7(l:List Nat)(i:Nat):l.set i (l.getD i 0)=l:=by
 refine Sh (by simp) (fun j=> ?_)
 rw[Sg];split
 ·rename_i h;rw[h.1]
 ·rfl
def U6(v:Nat):List Nat→Nat→Int
 |[],_=> -1
 |x::r,i=>if x=v then(i:Int)else U6 v r (i+1)
theorem Zn{v:Nat}:∀ {l:List Nat} {i:Nat},v∉l→U6 v l i= -1
 |[],_,_=>rfl
 |x::r,i,h=>by
  simp only[z07,not_or]at h;rw[U6,if_neg (fun e=>h.1 e.symm),Zn h.2]
theorem Oy{v:Nat}:∀ {l:List Nat} {i:Nat},v∈l→∃k,U6 v l i=((i+k:Nat):Int)∧k<l.length∧l[k]?=some v
 |[],_,h=>by simp at h
 |x::r,i,h=>by
  rw[U6];by_cases e:x=v
  ·exact⟨0,by rw[if_pos e];simp,by simp,by simp[e]⟩
  ·rw[if_neg e];obtain⟨k,h1,h2,h3⟩:=Oy (i:=i+1) (List.mem_of_ne_of_mem (fun h=>e h.symm) h)
   exact⟨k+1,by rw[h1];congr 1;omega,by simp;omega,by simpa using h3⟩
theorem apc{v:Nat}{l:List Nat}{i:Nat}:U6 v l i<0↔v∉l:=by
 by_cases h:v∈l
 ·obtain⟨k,h1,_⟩:=Oy (i:=i) h;rw[h1];exact⟨fun h2=>by omega,fun h2=>absurd h h2⟩
 ·rw[Zn h];exact⟨fun _=>h,fun _=>by omega⟩
def ddS(d:List Nat)(x:Nat):List Nat:=if U6 x d 0<0 then d++[x]else d
def dd(xs:List Nat):List Nat:=xs.foldl ddS []
theorem Pm(xs:List Nat)(x:Nat):dd (xs++[x])=ddS (dd xs) x:=by simp[dd]
theorem agr(xs:List Nat)(y:Nat):y∈dd xs↔y∈xs:=by
 induction xs using lz with
 |h0=>simp[dd]
 |h1 l b ih=>
  rw[Pm,ddS];simp only[apc,z05,z28];split
  ·simp only[z05,z28,ih]
  ·rename_i h;rw[ih];constructor
   ·exact .inl
   ·rintro(h2|rfl)
    ·exact h2
    ·exact ih.1 (Classical.not_not.1 h)
theorem ags(xs:List Nat):(dd xs).length≤xs.length:=by
 induction xs using lz with
 |h0=>simp[dd]
 |h1 l b ih=>rw[Pm,ddS];split<;>simp<;>omega
def wd(n:Nat):Nat:=dg (n-1)
theorem aEs{n:Nat}(h:n≤2^16):wd n≤16:=by unfold wd;rw[fh];omega
theorem aEr{k n:Nat}(h:k<n):k<2^wd n:=by
 unfold wd;have:= @v7 (n-1);omega
def od(d xs:List Nat):List Nat:=xs.flatMap fun x=>js (U6 x d 0).toNat (wd d.length)
def agb(d:List Nat):List Nat:=cg d.length++d.flatMap fun x=>iy x 8
def Lo(xs:List Nat):List Nat:=agb (dd xs)++pk (od (dd xs) xs)
theorem Kj(d xs:List Nat):(od d xs).length=wd d.length*xs.length:=by
 induction xs with
 |nil=>rfl
 |cons x r ih=>simp only[od,z33,z01,kn,z18]at ih⊢;rw[ih,Nat.mul_succ];omega
theorem Ps(d:List Nat):(d.flatMap fun x=>iy x 8).length=8*d.length:=by
 induction d with
 |nil=>rfl
 |cons x r ih=>simp only[z33,z01,gv,z18]at ih⊢;rw[ih];omega
theorem Kk(d xs:List Nat):∀x∈od d xs,x<2:=by
 intro x hx;simp only[od,z17]at hx;obtain⟨y,_,hx⟩:=hx;exact yx _ _ x hx
def dic(r:List Nat)(u:Nat):List Nat:=(z48 u).map fun i=>u7 ((r.drop (8*i)).take 8)
theorem ais{l:List Nat}{x:Nat}(h:x∈l):∃j,l.getD j 0=x:=by
 obtain⟨j,hj,rfl⟩:=List.mem_iff_getElem.1 h;exact⟨j,(pg hj).symm⟩
theorem Oz(l:List Nat)(h:∀x∈l,x<2):∀x∈pk l,x<256:=by
 intro x hx;obtain⟨j,rfl⟩:=ais hx;rw[aq3];split
 ·rename_i hj;subst hj;by_cases h8:l.length % 8=0
  ·rw[h8];simpa using(Q3 l h).1 (l.length/8)
  ·rw[show(8-l.length % 8) % 8=8-l.length % 8 by omega]
   have h2:=(Q3 l h).2;have hq:2^ (l.length % 8)*2^ (8-l.length % 8)=2^8:=by rw[←z45];congr 1;omega
   have:=Nat.mul_lt_mul_of_pos_right h2 (z09 (8-l.length % 8));omega
 ·exact(Q3 l h).1 j
theorem Xo(xs:List Nat):∀x∈Lo xs,x<256:=by
 intro x hx;simp only[Lo,agb,z05,z17]at hx;rcases hx with(hx|⟨y,_,hx⟩)|hx
 ·exact fe _ x hx
 ·exact nt _ _ x hx
 ·exact Oz _ (Kk _ _) x hx
def xn:Option (Nat×Nat)→Nat→Bool
 |none,_=>false
 |some (l,t),v=>decide (l≤64-dg v)&&decide (t≤zi v)
def qk(x:Nat):Nat×Nat:=(min (64-dg x) 31,zi x)
def afi(w:Option (Nat×Nat)):Prop:=∀l t,w=some (l,t)→l+t≤63∧l≤31
theorem ahd{x:Nat}(h:x≠0):zi x<dg x:=N5 h v7
theorem Zu{x:Nat}(h:x≠0)(hx:x<2^64):(qk x).1+(qk x).2≤63∧(qk x).1≤31:=by
 have:=ahd h;have:=fh.2 hx;unfold qk;simp only;omega
theorem ac8{x:Nat}:(qk x).1≤64-dg x∧(qk x).2≤zi x:=by
 unfold qk;simp only;omega
theorem agf{x l t:Nat}(hx:x<2^64)(hl:l≤64-dg x)(hl2:l+t≤63):x/2^t<2^ (64-l-t):=by
 rw[z26 (z09 t),←z45];have hb:=fh.2 hx;have:= @v7 x;exact Nat.lt_of_lt_of_le this (z04 (by omega) (by omega))
def ug(w:Option (Nat×Nat))(x:Nat):List Nat×Option (Nat×Nat):=
 if x=0 then([0],w)else match xn w x,w with
 |true,some (l,t)=>([1,0]++js (x/2^t) (64-l-t),w)
 |_,_=>([1,1]++js (qk x).1 5++js (63-(qk x).1-(qk x).2) 6++js (x/2^ (qk x).2) (64-(qk x).1-(qk x).2),some (qk x))
def gS(a:List Nat×Option (Nat×Nat)×Option Nat)(v:Nat):List Nat×Option (Nat×Nat)×Option Nat:=match a.2.2 with
 |none=>(js v 64,a.2.1,some v)
 |some p=>(a.1++(ug a.2.1 (v^^^p)).1,(ug a.2.1 (v^^^p)).2,some v)
def gF(xs:List Nat):List Nat×Option (Nat×Nat)×Option Nat:=xs.foldl gS ([],none,none)
theorem Ct(xs:List Nat)(v:Nat):gF (xs++[v])=gS (gF xs) v:=by simp[gF]
theorem Z3(xs:List Nat):(gF xs).2.2=xs.getLast?:=by
 induction xs using lz with
 |h0=>rfl
 |h1 l b ih=>rw[Ct,gS];cases(gF l).2.2<;>simp
theorem wv(w:Option (Nat×Nat)):ug w 0=([0],w):=by simp[ug]
theorem ww{l t x:Nat}(h0:x≠0)(h:xn (some (l,t)) x=true):ug (some (l,t)) x=([1,0]++js (x/2^t) (64-l-t),some (l,t)):=by
 simp[ug,h0,h]
theorem z7{w:Option (Nat×Nat)}{x:Nat}(h0:x≠0)(h:xn w x=false):ug w x=([1,1]++js (qk x).1 5++js (63-(qk x).1-(qk x).2) 6++js (x/2^ (qk x).2) (64-(qk x).1-(qk x).2),some (qk x)):=by
 unfold ug;rw[if_neg h0];split
 ·rename_i h2;rw[h]at h2;cases h2
 ·rfl
theorem ajd{w:Option (Nat×Nat)}{x:Nat}(hw:afi w)(hx:x<2^64):afi (ug w x).2:=by
 by_cases h0:x=0
 ·subst h0;rw[wv];exact hw
 ·cases hf:xn w x with
  |true=>
   rcases w with _|⟨l,t⟩
   ·simp[xn]at hf
   ·rw[ww h0 hf];exact hw
  |false=>
   rw[z7 h0 hf];intro l t h;have:=Zu h0 hx;cases h
   exact this
theorem adt{w:Option (Nat×Nat)}{x:Nat}:(ug w x).1.length≤77:=by
 by_cases h0:x=0
 ·subst h0;rw[wv];simp
 ·cases hf:xn w x with
  |true=>
   rcases w with _|⟨l,t⟩
   ·simp[xn]at hf
   ·rw[ww h0 hf];simp[kn];omega
  |false=>rw[z7 h0 hf];simp[kn];omega
theorem aHf(xs:List Nat):(∀x∈xs,x<2^64)→afi (gF xs).2.1:=by
 induction xs using lz with
 |h0=>intro _ l t h;cases h
 |h1 l b ih=>
  intro hx;have ih:=ih (fun x h=>hx x (by simp[h]))
  have hl:=Z3 l;rw[Ct,gS];cases hp:(gF l).2.2 with
  |none=>exact ih
  |some p=>
   rw[hp]at hl;have hpm:p∈l:=List.mem_of_getLast? hl.symm;exact ajd ih (z29 (hx b (by simp)) (hx p (by simp[hpm])))
theorem agc(xs:List Nat):(gF xs).1.length≤77*xs.length:=by
 induction xs using lz with
 |h0=>simp[gF]
 |h1 l b ih=>
  rw[Ct,gS,z01,z10];cases(gF l).2.2 with
  |none=>simp only[kn];omega
  |some p=>have:= @adt (gF l).2.1 (b^^^p);simp only[z01];omega
theorem adu{w:Option (Nat×Nat)}{x:Nat}:∀y∈(ug w x).1,y<2:=by
 by_cases h0:x=0
 ·subst h0;rw[wv];simp
 ·cases hf:xn w x with
  |true=>
   rcases w with _|⟨l,t⟩
   ·simp[xn]at hf
   ·rw[ww h0 hf];intro y hy;simp only[z05,z07,z35,or_false]at hy;rcases hy with(rfl|rfl)|hy
    ·omega
    ·omega
    ·exact yx _ _ y hy
  |false=>
   rw[z7 h0 hf];intro y hy;simp only[z05,z07,z35,or_false]at hy;rcases hy with(((rfl|rfl)|hy)|hy)|hy
   ·omega
   ·omega
   all_goals exact yx _ _ y hy
theorem agd(xs:List Nat):∀y∈(gF xs).1,y<2:=by
 induction xs using lz with
 |h0=>simp[gF]
 |h1 l b ih=>
  rw[Ct,gS];cases(gF l).2.2 with
  |none=>exact yx _ _
  |some p=>
   intro y hy;simp only[z05]at hy;rcases hy with hy|hy
   ·exact ih y hy
   ·exact adu y hy
def Yx(xs:List Nat):List Nat:=pk (gF xs).1
def vf(xs:List Nat):List Nat:=xs.flatMap fun x=>iy x 8
theorem Sn(xs:List Nat):(vf xs).length=8*xs.length:=Ps xs
def aax(xs:List Nat):Bool:=xs.all fun x=>x==xs.getD 0 0
def n9(xs:List Nat)(w:Int):List Nat×Int:=
 if w<0∨4≤w then([],1)else if 65536<xs.length then([],4)else if w=2 then(Lo xs,0)else if w=3 then(Yx xs,0)else if w=0 then(vf xs,0)
 else if aax xs=false∨xs=[]then([],1)else(vf (xs.take 1),0)
def Lk(xs:List Nat)(b:Nat×List Nat)(w:Nat):Nat×List Nat:=if(n9 xs w).2=0∧(n9 xs w).1.length<b.2.length then(w,(n9 xs w).1)else b
def nj(xs:List Nat)(n:Nat):Nat×List Nat:=(z48 n).foldl (fun b w=>Lk xs b (w+1)) (0,vf xs)
theorem w7(xs:List Nat):nj xs 0=(0,vf xs):=rfl
theorem w9(xs:List Nat)(n:Nat):nj xs (n+1)=Lk xs (nj xs n) (n+1):=by simp[nj,List.range_succ]
def Gn(xs:List Nat):List Nat×Int:=if 65536<xs.length then([],4)else((nj xs 3).1::(nj xs 3).2,0)
theorem aa5{xs:List Nat}(h:¬65536<xs.length):n9 xs 0=(vf xs,0):=by
 rw[n9,if_neg (by omega),if_neg h];rfl
theorem S3(xs:List Nat)(n:Nat):(nj xs n).2.length≤8*xs.length:=by
 induction n with
 |zero=>rw[w7];simp only[Sn];omega
 |succ n ih=>
  rw[w9,Lk];split
  ·rename_i h;simp only;omega
  ·exact ih
theorem Nn(xs:List Nat)(n:Nat):(nj xs n).1≤n:=by
 induction n with
 |zero=>simp[w7]
 |succ n ih=>
  rw[w9,Lk];split
  ·simp
  ·omega
structure GN where
 x:Nat
 e:Int
 k:Nat
 a:Int
 z:Int
def gNy(bs:List Nat)(k:Nat)(a z:Int):GN:=
 if(a= -1∧z=0)∨z<0 then⟨0,3,k,a,z⟩
 else if k+(64-a-z).toNat≤bs.length then⟨Vf bs k (64-a-z).toNat*2^z.toNat % 2^64,0,k+(64-a-z).toNat,a,z⟩else⟨0,2,k,a,z⟩
def gNx(bs:List Nat)(k:Nat)(a z:Int):GN:=
 if bs.length<k+1 then⟨0,2,k,a,z⟩
 else if Vf bs k 1=0 then⟨0,0,k+1,a,z⟩
 else if bs.length<k+2 then⟨0,2,k+1,a,z⟩
 else if Vf bs (k+1) 1=1 then
  if bs.length<k+7 then⟨0,2,k+2,a,z⟩
  else if bs.length<k+13 then⟨0,2,k+7,a,z⟩
  else gNy bs (k+13) (Vf bs (k+2) 5:Nat) (63-(Vf bs (k+2) 5:Nat)-(Vf bs (k+7) 6:Nat))
 else gNy bs (k+2) a z
structure GS where
 o:List Nat
 e:Int
 k:Nat
 a:Int
 z:Int
def gRs(bs:List Nat)(r:GS):GS:=
 if r.e≠0 then r
 else if r.o.length=0 then(if r.k+64≤bs.length then⟨[Vf bs r.k 64],0,r.k+64,r.a,r.z⟩else⟨[],2,r.k,r.a,r.z⟩)
 else⟨if(gNx bs r.k r.a r.z).e=0 then r.o++[(gNx bs r.k r.a r.z).x^^^r.o.getD (r.o.length-1) 0]else r.o,(gNx bs r.k r.a r.z).e,(gNx bs r.k r.a r.z).k,(gNx bs r.k r.a r.z).a,(gNx bs r.k r.a r.z).z⟩
def gR(bs:List Nat):Nat→GS
 |0=>⟨[],0,0,-1,0⟩
 |n+1=>gRs bs (gR bs n)
theorem Xp(xs:List Nat):∀x∈Yx xs,x<256:=Oz _ (agd xs)
def zr(a z:Int):Int:=if a= -1 then-1 else z
structure RQ where
 i:Nat
 o:List Nat
 rest:List Nat
 bad:Int
 a:Int
 z:Int
def RQ.ok(bs:List Nat)(n:Nat)(q:RQ):Prop:=q.i≤n∧q.o.length=q.i∧(∀x∈q.o,x<2^64)∧(gR bs q.i).e=q.bad∧
 (q.bad=0→q.o=(gR bs q.i).o∧q.rest=bs.drop (gR bs q.i).k∧q.a=(gR bs q.i).a∧q.z=zr (gR bs q.i).a (gR bs q.i).z)
def fx(l:List Nat)(n:Nat):List Nat×Int×List Nat:=
 if 8*n≤l.length then(dic l n,if l.drop (8*n)=[]then 0 else 3,l.drop (8*n))else([],2,l.drop (8*(l.length/8)))
theorem E6(xs:List Nat):∀x∈vf xs,x<256:=by
 intro x hx;simp only[vf,z17]at hx;obtain⟨y,_,hx⟩:=hx;exact nt _ _ x hx
theorem aa6(xs:List Nat)(w:Int):∀x∈(n9 xs w).1,x<256:=by
 unfold n9;split
 ·simp
 split
 ·simp
 split
 ·exact Xo xs
 split
 ·exact Xp xs
 split
 ·exact E6 xs
 split
 ·simp
 ·exact E6 _
theorem X7(xs:List Nat)(n:Nat):∀x∈(nj xs n).2,x<256:=by
 induction n with
 |zero=>rw[w7];exact E6 xs
 |succ n ih=>
  rw[w9,Lk];split
  ·exact aa6 xs _
  ·exact ih
theorem adz(xs:List Nat):∀x∈(Gn xs).1,x<256:=by
 unfold Gn;split
 ·simp
 ·intro x hx;rcases z07.1 hx with rfl|hx
  ·have:=Nn xs 3;omega
  ·exact X7 xs 3 x hx
theorem Sk(xs:List Nat):(Gn xs).1.length≤8*xs.length+1:=by
 unfold Gn;split
 ·simp
 ·have:=S3 xs 3;simp only[z18];omega
end Go.Ck
