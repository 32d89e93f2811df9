/- What is proved here: parts of the proofs of this seat's statements (a verified evaluator for calls over pure values, its laws, and contracts of functions). No condition. -/
import Derived.Test.YtmkoabmapmehdaaGreatDoorKp
import Derived.Test.YtmkoabmapmehdaaGreatDoorKq
import Derived.Test.YtmkoabmapmehdaaGreatDoorKn
import Derived.Test.YtmkoabmapmehdaaGreatDoorKm
set_option linter.all false
open List renaming take_of_length_le→z00,map_append→z01,take_append_of_le_length→z02,length_append→z03,append_assoc→z04,length_map→z05,take_succ_eq_append_getElem→z06,set_append_right→z07,length_drop→z08,drop_append_of_le_length→z09,length_pos_iff→z10,replicate→z11,all_eq_true→z12,drop_of_length_le→z13,all_map→z14,all_cons→z15,length_take→z16,range_succ→z17,getElem?_eq_getElem→z18,map_map→z19,take_append_drop→z20,replicate_succ→z21,set_cons_zero→z22,range→z23,getElem?_map→z24,getD→z25,append_nil→z26,all_append→z27,take→z33,drop→z34
open Nat renaming strongRecOn→z28,sub_self→z30
open Bool renaming and_true→z29
namespace Go.Ck
def wS(x:df):SV:= .pv (wP x)
def jw(ws:List df):List SV:=ws.map wS++z11 (64-ws.length) (wS 0)
theorem Dm{ws:List df}(h:ws.length≤64):(jw ws).length=64:=by simp[jw];omega
theorem yy{ws:List df}{i:Nat}(h:i<ws.length):(jw ws)[i]?=some (.pv (.int .u32 ((fg ws i).toNat:Int))):=by
 unfold jw fg;rw[List.getElem?_append_left (by simpa using h),z24,z18 h]
 simp[z25,h,wS,wP]
theorem aj8{ws:List df}{x y:df}:(jw (ws++[x])).set ws.length (.pv (.int .u32 (y.toNat:Int)))=jw (ws++[y]):=by
 unfold jw;rw[z01,z01,z04,z04,z07 _ _ (by simp)]
 simp[wS,wP]
theorem Np{ws:List df}(h:ws.length<64)(y:df):(jw ws).set ws.length (.pv (.int .u32 (y.toNat:Int)))=jw (ws++[y]):=by
 unfold jw;rw[z01,z04,z07 _ _ (by simp)]
 obtain⟨k,hk⟩:∃k,64-ws.length=k+1:=⟨63-ws.length,by omega⟩
 simp only[z03,List.length_singleton,z05,z30,hk,z21,z22,List.map_cons,List.map_nil,List.singleton_append];rw[show 64-(ws.length+1)=k by omega]
 rfl
theorem aem{ws:List df}(h:ws.length<64):jw ws=jw (ws++[0]):=by
 rw[←Np h];unfold jw;obtain⟨k,hk⟩:∃k,64-ws.length=k+1:=⟨63-ws.length,by omega⟩
 rw[z07 _ _ (by simp)]
 simp only[hk,z05,z30,z21,z22];rfl
theorem aen{ws:List df}{x:df}:(jw (ws++[x]))[ws.length]?=some (.pv (.int .u32 (x.toNat:Int))):=by
 rw[yy (by simp)]
 simp[fg,z25]
theorem aep{ws:List df}(h:ws.length=64):jw ws=ws.map wS:=by simp[jw,h]
theorem qn(b:List Nat):∀n,(jd b n).length=n
 |0=>rfl
 |n+1=>by simp[jd,qn b n]
theorem ag6(l:List Nat)(x:Nat):wd4 (l++[x])=(wd4 l<<<8)|||BitVec.ofNat 32 x:=by simp[wd4]
theorem G5(ds os:List Nat)(ps:List PV):(ps.map SV.pv).all (qh ds os)=true:=by
 simp only[z14,z12];intro p _;simp[qh,B8,Ih]
theorem Oe(ns:List Nat)(ps:List PV):(ps.map SV.pv).all (inL ns)=true:=by
 simp only[z14,z12];intro p _;simp[inL,B8]
theorem aag(ws:List df):jw ws=(ws.map wP++z11 (64-ws.length) (wP 0)).map SV.pv:=by
 simp only[jw,z01,z19,List.map_replicate];rfl
theorem aeo(ds os:List Nat)(ws:List df):(jw ws).all (qh ds os)=true:=by rw[aag];exact G5 ds os _
theorem aj9(ns:List Nat)(ws:List df):(jw ws).all (inL ns)=true:=by rw[aag];exact Oe ns _
attribute [go_sem] G5 Oe aeo aj9
theorem Ej(n:Nat):IntKind.u32.wrap (n:Int)=((BitVec.ofNat 32 n).toNat:Int):=by rw[yo,BitVec.toNat_ofNat]
theorem V7(b:List Nat)(p:Nat):((bytes b).drop p).take 4=bytes ((b.drop p).take 4):=by rw[ot,dz]
theorem qu(cs new:List SV)(h:new.length=cs.length):setCells cs new 0=new:=by
 simp[setCells,h]
theorem Rd{α:Type}(l:List α)(n:Nat)(h:l.length=n):(l.drop 0).take n=l:=by simp[←h]
theorem vp{ws:List df}{i:Nat}(h:i<ws.length):fg ws i=ws[i]:=by simp[fg,z25,h]
theorem Zh(x:df)(m:Nat)(h0:0<m)(h1:m<32):ef .or .u32 (xw .u32 (x.toNat:Int) ((32-m:Nat):Int)) (mo .u32 (x.toNat:Int) (m:Int))=((n5 x m).toNat:Int):=by
 rw[Cg x _ (by omega),vq x m (by omega),H0]
 rfl
def A2(ws:List df):List SV:=(ws.map wP).map SV.pv
theorem Gx(ws:List df):(A2 ws).length=ws.length:=by simp[A2]
theorem vo{ws:List df}{i:Nat}(h:i<ws.length):(A2 ws)[i]?=some (.pv (.int .u32 ((fg ws i).toNat:Int))):=by
 rw[vp h];simp[A2,wP,h]
theorem ag7(ds os:List Nat)(ws:List df):(A2 ws).all (qh ds os)=true:=G5 ds os _
theorem ano(ns:List Nat)(ws:List df):(A2 ws).all (inL ns)=true:=Oe ns _
attribute [go_sem] ag7 ano
theorem Mb:∀(ks ws:List df) (k w:df) (s:S8),ks.length=ws.length→ni (ks++[k]) (ws++[w]) s=rnd (ni ks ws s) k w
 |[],[],k,w,s,_=>rfl
 |k0::ks,w0::ws,k,w,s,h=>by
  simp only[List.cons_append,ni];exact Mb ks ws k w _ (by simpa using h)
 |[],_::_,_,_,_,h=>by cases h
 |_::_,[],_,_,_,h=>by cases h
theorem Ma(ks ws:List df)(s:S8)(t:Nat)(h1:t<ks.length)(h2:t<ws.length):ni (ks.take (t+1)) (ws.take (t+1)) s=rnd (ni (ks.take t) (ws.take t) s) (fg ks t) (fg ws t):=by
 rw[z06 h1,z06 h2,Mb _ _ _ _ _ (by simp;omega),vp h1,vp h2]
theorem Dd:B9.length=64:=rfl
theorem L7(b:List Nat):(uc b).length=64:=qn b 64
theorem nc8:((8:Nat):Int)=8:=rfl
attribute [go_sem] nc8
theorem jn(x:df):ef .xor .u32 (if IntKind.u32.signed=true then-1 else IntKind.u32.max) (x.toNat:Int)=((~~~x).toNat:Int):=anp x
theorem nc0:((0:Nat):Int)=0:=rfl
theorem nc1:((1:Nat):Int)=1:=rfl
theorem nc2:((2:Nat):Int)=2:=rfl
theorem nc3:((3:Nat):Int)=3:=rfl
theorem nc4:((4:Nat):Int)=4:=rfl
theorem nc5:((5:Nat):Int)=5:=rfl
theorem nc6:((6:Nat):Int)=6:=rfl
theorem nc7:((7:Nat):Int)=7:=rfl
theorem wr1:IntKind.i64.wrap 1=1:=by decide
theorem wr2:IntKind.i64.wrap 2=2:=by decide
theorem wr3:IntKind.i64.wrap 3=3:=by decide
theorem wr4:IntKind.i64.wrap 4=4:=by decide
theorem wr5:IntKind.i64.wrap 5=5:=by decide
theorem wr6:IntKind.i64.wrap 6=6:=by decide
theorem wr7:IntKind.i64.wrap 7=7:=by decide
theorem wr8:IntKind.i64.wrap 8=8:=by decide
theorem aqf(x:df):(Qx x).length=4:=rfl
theorem xi:∀l:List df,(l.flatMap Qx).length=4*l.length
 |[]=>rfl
 |x::r=>by simp only[List.flatMap_cons,z03,aqf,xi r,List.length_cons];omega
theorem aqg(s:S8):(by8 s).length=32:=rfl
theorem aac(l:List df)(i:Nat)(h:i<l.length):(l.take (i+1)).flatMap Qx=(l.take i).flatMap Qx++Qx (fg l i):=by
 rw[z06 h,List.flatMap_append,vp h];simp
theorem Nj(l:List Nat)(x:df):bytes l++[.int .u8 (((x>>>24).toNat % 256:Nat):Int),.int .u8 (((x>>>16).toNat % 256:Nat):Int),.int .u8 (((x>>>8).toNat % 256:Nat):Int),.int .u8 ((x.toNat % 256:Nat):Int)]=bytes (l++Qx x):=by
 rw[←bx];rfl
set_option maxRecDepth 100000
set_option maxHeartbeats 2000000
open Go.Proofs
theorem aIh{m:Nat}(h0:0<m)(h1:m<32):ef .and .u64 (IntKind.u64.wrap (-(m:Int))) 31=((32-m:Nat):Int):=by
 have e:IntKind.u64.wrap (-(m:Int))=((2^64-m:Nat):Int):=by rw[IntKind.wrap_u64];omega
 rw[e];refine(y7 (a:=2^64-m) (b:=31) (by omega) (by omega)).trans ?_
 have:=Nat.and_two_pow_sub_one_eq_mod (2^64-m) 5;rw[show(2^5-1:Nat)=31 from rfl]at this
 rw[this]
 congr 1
 omega
theorem ab5(x:df)(m:Nat)(h0:0<m)(h1:m<32):Fn Tryz.prog 181 [] [.pv (wP x),.pv (.int .i64 (-(m:Int)))] (fun rs H'=>rs=[.pv (wP (n5 x m))]∧H'=[]):=by
 refine Fn.ob Tryz.f181 17 [.tmp 4] fun C=> ?_
 have e1:=aIh h0 h1;have e2:IntKind.u64.wrap (32-((32-m:Nat):Int))=(m:Int):=by rw[IntKind.wrap_u64];omega
 have e3:=Zh x m h0 h1;unfold wP;refine aa ?_ (by simp only[go_sem,↓reduceIte,e1,e2,e3]<;>rfl)
 refine ac (.pv _ .nil) rfl
theorem tz(x:df)(n:Int)(m:Nat)(hn:n=m)(h0:0<m)(h1:m<32):Fn Tryz.prog 157 [] [.pv (wP x),.pv (.int .i64 n)] (fun rs H'=>rs=[.pv (wP (n5 x m))]∧H'=[]):=by
 subst hn;refine Fn.ob Tryz.f157 9 [.tmp 4] fun C=> ?_
 have e1:IntKind.i64.wrap (0-(m:Int))= -(m:Int):=by rw[an (by omega) (by omega)];omega
 refine aa ?_ (by simp only[go_sem,↓reduceIte,e1]<;>rfl)
 refine ap (ab5 x m h0 h1) (.pv _ (.pv _ .nil)) ?_;refine aa ?_;refine ac (.pv _ .nil) rfl
def stP(s:S8):PV:= .agg (s.l.map wP)
theorem ajj:Fn Tryz.prog 127 [] [] (fun rs H'=>rs=[.pv (stP kj)]∧H'=[]):=by
 refine Fn.ob Tryz.f127 2 [.cell 0 157] fun C=> ?_
 refine aa ?_;refine ac (.pv _ .nil) rfl
def aJn:PV:= .agg (B9.map wP)
theorem ahj:Fn Tryz.prog 156 [] [] (fun rs H'=>rs=[.pv aJn]∧H'=[]):=by
 refine Fn.ob Tryz.f156 2 [.cell 0 194] fun C=> ?_
 refine aa ?_;refine ac (.pv _ .nil) ?_
 kernel_rfl
theorem Tt(b:List Nat)(hb:b.length=64):Fn Tryz.prog 155 [] [.pv (.sl 1 (bytes b))] (fun rs H'=>rs=[.pv (.agg ((uc b).map wP))]∧H'=[]):=by
 refine Fn.ob Tryz.f155 75 [.cell 2 194] fun C=> ?_
 refine aa ?_;refine aq (fun i:Nat=>⟨75,[(9,.pv (.int .i64 i)),(0,.pv (.sl 1 (bytes b))),(2,.ptr 2 0),(3,.ptr 3 0)],[(2,.cells 194 (jw [])),(3,.cells 194 (jw (jd b i)))]⟩) (fun i=>i≤64) (fun i=>64-i) [9,0,2,3] [2,3] 0 (by omega) ?_
 rintro i hi K hK;have hsl:(jd b i).length=i:=qn b i;have hal:(jw (jd b i)).length=64:=Dm (by omega)
 refine aa ?_;refine AW.cond rfl (fun hc=> ?_) (fun hc=> ?_)
 rotate_left
 ·have hge:i=64:=by simp at hc;omega
  subst hge;have hlen:((jd b 64).map wP).length=64:=by simp[qn]
  repeat(first|refine AW.exit ?_|refine aan ?_|refine AW.exC ?_|refine AW.exS ?_|refine AW.seq ?_)
  refine AW.region ?_;refine Ti (off:=0) (ps:=(jd b 64).map wP) rfl rfl ?_ ?_ (hle:=by rw[hlen,hal];decide) (hT:=by rw[hlen];exact Ci)
  ·rw[hlen,Rd _ _ hal,aep (qn b 64),z19];rfl
  refine rm (off:=0) (ps:=(jd b 64).map wP) rfl rfl rfl (by rw[hlen,Dm (ws:=[]) (by decide)];decide) ?_ (hT:=by rw[hlen];exact Ci) (h1:=by simp[wP,PV.one])
  rw[qu _ _ (by rw[z05,hlen,Dm (ws:=[]) (by decide)])]
  refine aa ?_;have htk:(((jd b 64).map wP).map SV.pv).take 64=((jd b 64).map wP).map SV.pv:=z00 (by simp[qn])
  refine ac (.pv _ .nil) rfl (hv:=by simp only[go_sem,↓reduceIte,htk,Ff,z05,qn]<;>rfl)
 have hlt:i<64:=by have:=of_decide_eq_true hc;omega
 have l1:(i<64)=True:=by simp[hlt]
 refine aa ?_;refine AW.cond rfl (fun hc2=> ?_) (fun hc2=> ?_)
 ·have h16:i<16:=by have:=of_decide_eq_true hc2;omega
  obtain⟨p,hp⟩:∃p,p=4*i:=⟨_,rfl⟩
  have e1:IntKind.i64.wrap (4*(i:Int))=(p:Int):=by rw[an (by omega) (by omega)];omega
  have e2:IntKind.i64.wrap ((p:Int)+4)=((p+4:Nat):Int):=by rw[an (by omega) (by omega)];omega
  have e3:(((p+4:Nat):Int)-(p:Int)).toNat=4:=by omega
  have e4:((p:Int)≤((p+4:Nat):Int))=True:=eq_true (by omega)
  have e5:(((p+4:Nat):Int)≤((b.length:Nat):Int))=True:=eq_true (by omega)
  have hq:((bytes b).drop p).take 4=bytes ((b.drop p).take 4):=V7 b p;obtain⟨q,hqd⟩:∃q,q=(b.drop p).take 4:=⟨_,rfl⟩
  have hql:q.length=4:=by rw[hqd];simp;omega
  have hqs:=hqd.symm;refine aa ?_ (by simp only[go_sem,↓reduceIte,e1,e2,e3,e4,e5,hqs,ba,hql]<;>rfl)
  have hz:jw (jd b i)=jw (jd b i++[wd4 (q.take 0)]):=aem (by omega)
  refine aq (fun j:Nat=>⟨75,[(9,.pv (.int .i64 i)),(0,.pv (.sl 1 (bytes b))),(2,.ptr 2 0),(3,.ptr 3 0),(4,.pv (.int .i64 i)),(20,.pv (.sl 1 (bytes q))),(21,.pv (.int .i64 4)),(22,.pv (.int .i64 j))],[(2,.cells 194 (jw [])),(3,.cells 194 (jw (jd b i++[wd4 (q.take j)])))]⟩) (fun j=>j≤4) (fun j=>4-j) [9,0,2,3,4,20,21,22] [2,3] 0 (by omega) ?_ (hs:=by simp only[go_sem,↓reduceIte,hz]<;>rfl)
  rintro j hj K2 hK2;refine aa ?_;refine AW.cond rfl (fun hc3=> ?_) (fun hc3=> ?_)
  rotate_left
  ·have hj4:j=4:=by simp at hc3;omega
   subst hj4;have hend:jw (jd b i++[wd4 (q.take 4)])=jw (jd b (i+1)):=by
    rw[z00 (by omega)]
    simp only[jd,h16,if_true,hqd,hp]
   have e6:IntKind.i64.wrap ((i:Int)+1)=((i+1:Nat):Int):=ai (by omega)
   refine aa ?_ (by simp only[go_sem,↓reduceIte,e6]<;>rfl)
   exact ah hK (i+1) (by omega) (by omega) (hs:=by simp only[go_sem,↓reduceIte,hend]<;>rfl)
  have hj4:j<4:=by have:=of_decide_eq_true hc3;omega
  obtain⟨x,hx⟩:∃x,q[j]?=some x:=⟨q[j],z18 (by omega)⟩
  have hg:(bytes q)[j]?=some (.int .u8 (x:Int)):=by unfold bytes;rw[z24,hx];rfl
  have hw:wd4 (q.take (j+1))=(wd4 (q.take j)<<<8)|||BitVec.ofNat 32 x:=by rw[List.take_add_one,hx,←ag6];rfl
  generalize hwj:wd4 (q.take j)=w at*;have g1:(jw (jd b i++[w]))[i]?=some (.pv (.int .u32 (w.toNat:Int))):=by have:=aen (ws:=jd b i) (x:=w);rw[hsl]at this;exact this
  have g2:(jw (jd b i++[w])).set i (.pv (.int .u32 (((w<<<8)|||BitVec.ofNat 32 x).toNat:Int)))=jw (jd b i++[wd4 (q.take (j+1))]):=by rw[hw];have:=aj8 (ws:=jd b i) (x:=w) (y:=(w<<<8)|||BitVec.ofNat 32 x);rw[hsl]at this;exact this
  have g3:(jw (jd b i++[w])).length=64:=Dm (by simp;omega)
  have e7:IntKind.i64.wrap ((j:Int)+1)=((j+1:Nat):Int):=ai (by omega)
  have l2:((i:Int)<64)=True:=eq_true (by omega)
  refine aa ?_ (by simp only[go_sem,↓reduceIte,hg,g1,g2,g3,l1,l2,e7,Ir,Ej,H0]<;>rfl)
  exact ah hK2 (j+1) (by omega) (by omega)
 ·have h16:16≤i:=by simp at hc2;omega
  obtain⟨i15,h15⟩:∃k,k=i-15:=⟨_,rfl⟩
  obtain⟨i2,h2⟩:∃k,k=i-2:=⟨_,rfl⟩
  obtain⟨i16,h16'⟩:∃k,k=i-16:=⟨_,rfl⟩
  obtain⟨i7,h7⟩:∃k,k=i-7:=⟨_,rfl⟩
  have a15:IntKind.i64.wrap ((i:Int)-15)=(i15:Int):=by rw[an (by omega) (by omega)];omega
  have a2:IntKind.i64.wrap ((i:Int)-2)=(i2:Int):=by rw[an (by omega) (by omega)];omega
  have a16:IntKind.i64.wrap ((i:Int)-16)=(i16:Int):=by rw[an (by omega) (by omega)];omega
  have a7:IntKind.i64.wrap ((i:Int)-7)=(i7:Int):=by rw[an (by omega) (by omega)];omega
  have b15:(i15<64)=True:=eq_true (by omega)
  have b2:(i2<64)=True:=eq_true (by omega)
  have b16:(i16<64)=True:=eq_true (by omega)
  have b7:(i7<64)=True:=eq_true (by omega)
  have bi:(i<64)=True:=eq_true (by omega)
  have g15:(jw (jd b i))[i15]?=some (.pv (.int .u32 ((fg (jd b i) i15).toNat:Int))):=yy (by omega)
  have g2:(jw (jd b i))[i2]?=some (.pv (.int .u32 ((fg (jd b i) i2).toNat:Int))):=yy (by omega)
  have g16:(jw (jd b i))[i16]?=some (.pv (.int .u32 ((fg (jd b i) i16).toNat:Int))):=yy (by omega)
  have g7:(jw (jd b i))[i7]?=some (.pv (.int .u32 ((fg (jd b i) i7).toNat:Int))):=yy (by omega)
  have hset:(jw (jd b i)).set i (.pv (.int .u32 ((Lm (jd b i)).toNat:Int)))=jw (jd b (i+1)):=by
   have h0:¬i<16:=by omega
   have:=Np (ws:=jd b i) (by omega) (Lm (jd b i))
   rw[hsl]at this;rw[this];simp only[jd,h0,if_false]
  have hnext:Lm (jd b i)=fg (jd b i) i16+(n5 (fg (jd b i) i15) 7^^^n5 (fg (jd b i) i15) 18^^^fg (jd b i) i15>>>3)+fg (jd b i) i7+(n5 (fg (jd b i) i2) 17^^^n5 (fg (jd b i) i2) 19^^^fg (jd b i) i2>>>10):=by
   simp only[Lm,sg0,sg1,hsl,h15,h2,h16',h7]
  rw[hnext]at hset;generalize fg (jd b i) i15=x at*;generalize fg (jd b i) i2=y at*;generalize fg (jd b i) i16=u at*;generalize fg (jd b i) i7=v at*;refine aa ?_;refine pc mixed (by decide+kernel) ?_ (by simp only[go_sem,↓reduceIte,a15,a2,b15,b2,g15,g2]<;>rfl)
  refine aa ?_;refine cr ?_;refine bu [[],[],[45],[46],[47],[]] ?_ (by simp only[go_sem,↓reduceIte,a16,a7,b16,b7,g16,g7,uh,rd,di,dh,wP]<;>rfl)
  refine CK.call (ps:=[_,_]) [49] (tz x 7 7 rfl (by decide) (by decide)) ?_
  refine bu [[]] ?_ (by simp only[go_sem,↓reduceIte,a16,a7,b16,b7,g16,g7,uh,rd,di,dh,wP]<;>rfl)
  refine CK.call (ps:=[_,_]) [51] (tz x 18 18 rfl (by decide) (by decide)) ?_
  refine bu [[50,52],[],[54],[53,55],[48,56],[],[58],[59],[60],[57,61],[]] ?_ (by simp only[go_sem,↓reduceIte,a16,a7,b16,b7,g16,g7,uh,rd,di,dh,wP]<;>rfl)
  refine CK.call (ps:=[_,_]) [63] (tz y 17 17 rfl (by decide) (by decide)) ?_
  refine bu [[]] ?_ (by simp only[go_sem,↓reduceIte,a16,a7,b16,b7,g16,g7,uh,rd,di,dh,wP]<;>rfl)
  refine CK.call (ps:=[_,_]) [65] (tz y 19 19 rfl (by decide) (by decide)) ?_
  refine bu [[64,66],[],[68],[67,69],[62,70]] ?_ (by simp only[go_sem,↓reduceIte,a16,a7,b16,b7,g16,g7,uh,rd,di,dh,wP]<;>rfl)
  refine CK.done (M:=28) 2 mixed ?_;refine bp (fuel:=0) (listed':=Array.replicate 30 true) [28,29] ?_ (by decide+kernel)
  refine ak ?_ (by simp only[go_sem,↓reduceIte,bi,hal,l1,hset]<;>rfl)
  refine a8 (by decide+kernel) ?_
  have e6:IntKind.i64.wrap ((i:Int)+1)=((i+1:Nat):Int):=ai (by omega)
  refine aa ?_ (by simp only[go_sem,↓reduceIte,e6]<;>rfl)
  exact ah hK (i+1) (by omega) (by omega)
def qrt(a b c d:df):df×df×df×df:=
 let a:=a+b
 let d:=n5 (d^^^a) 16
 let c:=c+d
 let b:=n5 (b^^^c) 20
 let a:=a+b
 let d:=n5 (d^^^a) 24
 let c:=c+d
 let b:=n5 (b^^^c) 25
 (a,b,c,d)
def lx(ws:List df)(i j k l:Nat):List df:=
 (((ws.set i (qrt (fg ws i) (fg ws j) (fg ws k) (fg ws l)).1).set j (qrt (fg ws i) (fg ws j) (fg ws k) (fg ws l)).2.1).set k (qrt (fg ws i) (fg ws j) (fg ws k) (fg ws l)).2.2.1).set l (qrt (fg ws i) (fg ws j) (fg ws k) (fg ws l)).2.2.2
theorem ld(ws:List df)(i j k l:Nat):(lx ws i j k l).length=ws.length:=by unfold lx;simp
def aC5(ws:List df)(k:Nat):List df:=lx ws k (4+k) (8+k) (12+k)
def aC4(ws:List df)(k:Nat):List df:=lx ws k (4+(k+1) % 4) (8+(k+2) % 4) (12+(k+3) % 4)
def ak4(ws:List df):Nat→List df
 |0=>ws
 |n+1=>aC5 (ak4 ws n) n
def ak2(ws:List df):Nat→List df
 |0=>ws
 |n+1=>aC4 (ak2 ws n) n
def ak3(ws:List df):List df:=ak2 (ak4 ws 4) 4
def Ky(ws:List df):Nat→List df
 |0=>ws
 |n+1=>ak3 (Ky ws n)
theorem Sv(ws:List df):∀n,(ak4 ws n).length=ws.length
 |0=>rfl
 |n+1=>by unfold ak4 aC5;rw[ld,Sv ws n]
theorem Su(ws:List df):∀n,(ak2 ws n).length=ws.length
 |0=>rfl
 |n+1=>by unfold ak2 aC4;rw[ld,Su ws n]
theorem Jc(ws:List df):∀n,(Ky ws n).length=ws.length
 |0=>rfl
 |n+1=>by unfold Ky ak3;rw[Su,Sv,Jc ws n]
theorem Xr(ws:List df):ak3 ws=lx (lx (lx (lx (lx (lx (lx (lx ws 0 4 8 12) 1 5 9 13) 2 6 10 14) 3 7 11 15) 0 5 10 15) 1 6 11 12) 2 7 8 13) 3 4 9 14:=rfl
def wdl(b:List Nat)(p:Nat):df:=BitVec.ofNat 32 (b.getD p 0)|||BitVec.ofNat 32 (b.getD (p+1) 0)<<<8|||BitVec.ofNat 32 (b.getD (p+2) 0)<<<16|||BitVec.ofNat 32 (b.getD (p+3) 0)<<<24
def jl(b:List Nat)(n:Nat):List df:=(z23 n).map (fun t=>wdl b (4*t))
theorem so(b:List Nat)(n:Nat):(jl b n).length=n:=by simp[jl]
theorem Tl(b:List Nat)(n:Nat):jl b (n+1)=jl b n++[wdl b (4*n)]:=by simp[jl,z17]
def qq(key:List Nat)(c:df)(nonce:List Nat):List df:=[0x61707865#32,0x3320646e#32,0x79622d32#32,0x6b206574#32]++jl key 8++[c]++jl nonce 3
theorem Ga(key:List Nat)(c:df)(nonce:List Nat):(qq key c nonce).length=16:=by simp[qq,so]
def byL(x:df):List Nat:=[x.toNat % 256,(x>>>8).toNat % 256,(x>>>16).toNat % 256,(x>>>24).toNat % 256]
def xp(s f:List df)(n:Nat):List Nat:=(z23 n).flatMap (fun i=>byL (fg s i+fg f i))
theorem Kf(s f:List df)(n:Nat):xp s f (n+1)=xp s f n++byL (fg s n+fg f n):=by simp[xp,z17]
theorem Ae(s f:List df):∀n,(xp s f n).length=4*n
 |0=>rfl
 |n+1=>by rw[Kf,z03,Ae s f n];simp[byL];omega
theorem aj2(x:df):∀y∈byL x,y<256:=by
 intro y hy;simp only[byL,List.mem_cons,List.not_mem_nil,or_false]at hy;rcases hy with h|h|h|h<;>omega
theorem Xx(s f:List df)(n:Nat):∀y∈xp s f n,y<256:=by
 intro y hy;obtain⟨i,_,h⟩:=List.mem_flatMap.1 hy;exact aj2 _ y h
def yh(key:List Nat)(c:df)(nonce:List Nat):List Nat:=xp (Ky (qq key c nonce) 10) (qq key c nonce) 16
theorem Ng(key:List Nat)(c:df)(nonce:List Nat):(yh key c nonce).length=64:=Ae _ _ 16
theorem Bw(key:List Nat)(c:df)(nonce:List Nat):∀y∈yh key c nonce,y<256:=Xx _ _ 16
def ccX(key nonce:List Nat)(c:Nat)(b:List Nat)(i:Nat):Nat:=b.getD i 0^^^ (yh key (BitVec.ofNat 32 (c+i/64)) nonce).getD (i % 64) 0
def Qu(key nonce:List Nat)(c:Nat)(b:List Nat)(n:Nat):List Nat:=(z23 n).map (ccX key nonce c b)
theorem Po(key nonce:List Nat)(c:Nat)(b:List Nat)(n:Nat):(Qu key nonce c b n).length=n:=by simp[Qu]
theorem aj1(key nonce:List Nat)(c:Nat)(b:List Nat)(n:Nat):Qu key nonce c b (n+1)=Qu key nonce c b n++[ccX key nonce c b n]:=by simp[Qu,z17]
theorem fj{l:List Nat}(h:∀x∈l,x<256)(i:Nat):l.getD i 0<256:=by
 rw[List.getD_eq_getElem?_getD];cases hx:l[i]? with
 |none=>simp
 |some y=>exact h y (List.mem_of_getElem? hx)
theorem aj0{key nonce:List Nat}{c:Nat}{b:List Nat}(h:∀x∈b,x<256)(i:Nat):ccX key nonce c b i<256:=
 Nat.xor_lt_two_pow (n:=8) (fj h i) (fj (Bw _ _ _) _)
theorem Sz{key nonce:List Nat}{c:Nat}{b:List Nat}(h:∀x∈b,x<256)(n:Nat):∀x∈Qu key nonce c b n,x<256:=by
 intro x hx;obtain⟨i,_,rfl⟩:=List.mem_map.1 hx;exact aj0 h i
structure HS where
 begun:Bool
 s:S8
 part:List Nat
 n:Nat
def s7(h:HS):List SV:= .pv (.bool h.begun)::(h.s.l.map wP++(bytes h.part++[PV.int .i64 (h.n:Int)])).map SV.pv
theorem qp{h:HS}(hp:h.part.length=64):(s7 h).length=74:=by
 simp[s7,ba,hp,S8.l]
theorem ai9(ds os:List Nat)(h:HS):(s7 h).all (qh ds os)=true:=by
 simp only[s7,z15,G5,z29];simp[qh,B8,Ih]
theorem ap1(ns:List Nat)(h:HS):(s7 h).all (inL ns)=true:=by
 simp only[s7,z15,Oe,z29];simp[inL,B8]
attribute [go_sem] ai9 ap1
theorem adn(h:HS):(s7 h)[0]?=some (.pv (.bool h.begun)):=rfl
theorem ai7(h:HS)(b:Bool):(s7 h).set 0 (.pv (.bool b))=s7 { h with begun:=b } :=rfl
theorem Ez{h:HS}(hp:h.part.length=64):s7 h=(PV.bool h.begun::(h.s.l.map wP++bytes h.part)).map SV.pv++[.pv (.int .i64 (h.n:Int))]:=by
 simp[s7,z01]
theorem Yu{h:HS}(hp:h.part.length=64):(s7 h)[73]?=some (.pv (.int .i64 (h.n:Int))):=by
 rw[Ez hp,List.getElem?_append_right (by simp[ba,hp,S8.l])]
 simp[ba,hp,S8.l]
theorem ai6{h:HS}(hp:h.part.length=64)(v:Nat):(s7 h).set 73 (.pv (.int .i64 (v:Int)))=s7 { h with n:=v } :=by
 rw[Ez hp,Ez (h:= { h with n:=v }) hp,z07 _ _ (by simp[ba,hp,S8.l])]
 simp[ba,hp,S8.l]
theorem ara(h:HS):Ax (z33 8 (z34 1 (s7 h)))=some (h.s.l.map wP):=by
 have:z33 8 (z34 1 (s7 h))=(h.s.l.map wP).map SV.pv:=by
  simp only[s7,List.drop_succ_cons,List.drop_zero,z01];rw[z02 (by simp[S8.l]),z00 (by simp[S8.l])]
 rw[this,Ff]
theorem Se(h:HS)(s:S8):setCells (s7 h) ((s.l.map wP).map SV.pv) 1=s7 { h with s:=s } :=by
 simp only[setCells,s7,z05];simp[S8.l]
theorem ai8{h:HS}(hp:h.part.length=64):(((s7 h).drop 9).take 64)=(bytes h.part).map SV.pv:=by
 have:(s7 h).drop 9=(bytes h.part++[PV.int .i64 (h.n:Int)]).map SV.pv:=by simp[s7,S8.l]
 rw[this,z01,z02 (by simp[ba,hp]),z00 (by simp[ba,hp])]
theorem ai5{h:HS}(hp:h.part.length=64)(r:Nat)(b:List Nat)(hr:r+b.length≤64):setCells (s7 h) ((bytes b).map SV.pv) (9+r)=s7 { h with part:=h.part.take r++b++h.part.drop (r+b.length) } :=by
 have e1:s7 h=(PV.bool h.begun::h.s.l.map wP).map SV.pv++((bytes h.part).map SV.pv++[.pv (.int .i64 (h.n:Int))]):=by simp[s7,z01]
 have e2:∀p:List Nat,s7 { h with part:=p } =(PV.bool h.begun::h.s.l.map wP).map SV.pv++((bytes p).map SV.pv++[.pv (.int .i64 (h.n:Int))]):=fun p=>by simp[s7,z01]
 have l9:((PV.bool h.begun::h.s.l.map wP).map SV.pv).length=9:=by simp[S8.l]
 rw[e1,e2];generalize(PV.bool h.begun::h.s.l.map wP).map SV.pv=A at*;unfold setCells;have lb:((bytes b).map SV.pv).length=b.length:=by simp[ba]
 rw[lb];rw[List.take_append,z00 (by omega),List.drop_append,z13 (by omega),l9]
 rw[show 9+r-9=r by omega,show 9+r+b.length-9=r+b.length by omega]
 have lp:((bytes h.part).map SV.pv).length=64:=by simp[ba,hp]
 rw[z02 (by omega),z09 (by omega)]
 simp only[←List.map_take,←List.map_drop,dz,ot,←bx,z01,List.nil_append,z04]
def wrN(h:HS)(b:List Nat):HS:=
 let k:=min b.length (64-h.n % 64)
 let p:=h.part.take (h.n % 64)++b.take k++h.part.drop (h.n % 64+k)
 ⟨h.begun,if(h.n+k) % 64=0 then thr h.s p else h.s,p,h.n+k⟩
def wrL(h:HS)(b:List Nat):HS:=if hb:b=[]then h else wrL (wrN h b) (b.drop (min b.length (64-h.n % 64)))
termination_by b.length
decreasing_by
 have h1:0<b.length:=z10.2 hb;simp only[z08];omega
def wr0(h:HS):HS:=if h.begun then h else { h with begun:=true,s:=kj }
def wr(h:HS)(b:List Nat):HS:=wrL (wr0 h) b
theorem Gw(h:HS):wrL h []=h:=by rw[wrL];simp
theorem Cu{h:HS}{b:List Nat}(hb:b≠ []):wrL h b=wrL (wrN h b) (b.drop (min b.length (64-h.n % 64))):=by rw[wrL];simp[hb]
theorem Oi{h:HS}(hp:h.part.length=64)(b:List Nat):(wrN h b).part.length=64:=by
 simp only[wrN,z03,z16,z08,hp];omega
theorem Hx{s:S8}{l:List Nat}(h:l.length<64):fb s l=s:=by rw[fb];simp;omega
theorem Yv{s:S8}{l:List Nat}(h:64≤l.length):fb s l=fb (thr s (l.take 64)) (l.drop 64):=by rw[fb];simp[h]
theorem Of(k:Nat):∀(s:S8) (x y:List Nat),x.length=64*k→fb s (x++y)=fb (fb s x) y:=by
 induction k with
 |zero=>intro s x y h;have:x=[]:=List.length_eq_zero_iff.1 (by omega);subst this;simp[Hx (s:=s) (l:=[]) (by simp)]
 |succ k ih=>
  intro s x y h;rw[Yv (l:=x++y) (by simp;omega),Yv (l:=x) (by omega),z02 (by omega),z09 (by omega)]
  exact ih _ _ _ (by simp;omega)
structure HC (m:List Nat) (h:HS):Prop where
 len:h.part.length=64
 n:h.n=m.length
 rem:h.part.take (m.length % 64)=m.drop (64*(m.length/64))
 s:h.begun=true→h.s=fb kj m
 none:h.begun=false→m=[]
theorem HC.wr0{m:List Nat}{h:HS}(hc:HC m h):HC m (wr0 h)∧(Ck.wr0 h).begun=true:=by
 unfold Ck.wr0;cases hb:h.begun with
 |true=>rw[if_pos rfl];exact⟨hc,hb⟩
 |false=>
  rw[if_neg (by simp)]
  have:=hc.none hb;subst this;exact⟨⟨hc.len,hc.n,hc.rem,fun _=>(Hx (by simp)).symm,fun h=>by cases h⟩,rfl⟩
theorem HC.wrN{m:List Nat}{h:HS}(hc:HC m h)(hb:h.begun=true)(b:List Nat)(hb0:0<b.length):HC (m++b.take (min b.length (64-h.n % 64))) (wrN h b):=by
 obtain⟨h1,h2,h3,h4,h5⟩:=hc;generalize hk:min b.length (64-h.n % 64)=k;rw[h2]at hk;have hl:(b.take k).length=k:=by rw[z16];omega
 have hr64:m.length % 64<64:=Nat.mod_lt _ (by decide)
 have hkr:m.length % 64+k≤64:=by omega
 have hml:(m.drop (64*(m.length/64))).length=m.length % 64:=by rw[z08];omega
 have hsplit:m=m.take (64*(m.length/64))++m.drop (64*(m.length/64)):=(z20 _ _).symm;have hfull:(m.take (64*(m.length/64))).length=64*(m.length/64):=by rw[z16];omega
 have hfm:fb kj m=fb kj (m.take (64*(m.length/64))):=by
  have h6:fb kj m=fb kj (m.take (64*(m.length/64))++m.drop (64*(m.length/64))):=by rw[←hsplit]
  rw[h6,Of _ _ _ _ hfull,Hx (by omega)]
 refine⟨Oi h1 b, ?_, ?_,fun _=> ?_,fun h=> ?_⟩
 ·simp[Ck.wrN,hk,h2,hl]
 ·simp only[Ck.wrN,hk,h2,h3,z03,hl];by_cases hz:m.length % 64+k=64
  ·have e1:(m.length+k) % 64=0:=by omega
   have e2:64*((m.length+k)/64)=m.length+k:=by omega
   rw[e1,e2,List.take_zero,z13 (by simp[hl])]
  ·have e1:(m.length+k) % 64=m.length % 64+k:=by omega
   have e2:(m.length+k)/64=m.length/64:=by omega
   rw[e1,e2,z02 (by simp[hl];omega),z00 (by simp[hl];omega),z09 (by omega)]
 ·simp only[Ck.wrN,hk,h2,h3];by_cases hz:m.length % 64+k=64
  ·have e1:(m.length+k) % 64=0:=by omega
   rw[if_pos e1,h4 hb,hfm];have e3:m.length % 64+k=64:=hz;rw[e3,z13 (l:=h.part) (by omega),z26]
   conv=>rhs;rw[hsplit,z04,Of _ _ _ _ hfull]
   have hll:(m.drop (64*(m.length/64))++b.take k).length=64:=by rw[z03,hml,hl];omega
   rw[Yv (l:=m.drop (64*(m.length/64))++b.take k) (by omega),z00 (l:=m.drop (64*(m.length/64))++b.take k) (by omega),Hx (l:=(m.drop (64*(m.length/64))++b.take k).drop 64) (by rw[z08];omega)]
  ·have e1:(m.length+k) % 64≠0:=by omega
   rw[if_neg e1,h4 hb,hfm]
   conv=>rhs;rw[hsplit,z04,Of _ _ _ _ hfull]
   rw[Hx (l:=m.drop (64*(m.length/64))++b.take k) (by rw[z03,hml,hl];omega)]
 ·simp[Ck.wrN,hb]at h
theorem HC.wrL:∀(n:Nat) {b m:List Nat} {h:HS},b.length=n→HC m h→h.begun=true→HC (m++b) (wrL h b)
 |n,b,m,h,hn,hc,hb=>by
  by_cases hbe:b=[]
  ·subst hbe;rw[Gw,z26];exact hc
  ·have h1:0<b.length:=z10.2 hbe;rw[Cu hbe];have h2:=HC.wrN hc hb b h1;have h3:=HC.wrL (b.drop (min b.length (64-h.n % 64))).length (b:=b.drop (min b.length (64-h.n % 64))) rfl h2 (by simp[Ck.wrN,hb])
   rw[z04,z20]at h3;exact h3
termination_by n=>n
decreasing_by
 simp only[z08];omega
theorem HC.wr{m b:List Nat}{h:HS}(hc:HC m h):HC (m++b) (Ck.wr h b)∧(Ck.wr h b).begun=true:=by
 obtain⟨h1,h2⟩:=HC.wr0 hc;refine⟨HC.wrL _ rfl h1 h2, ?_⟩;have key:∀(n:Nat) (b:List Nat) (h:HS),b.length=n→h.begun=true→(Ck.wrL h b).begun=true:=by
  intro n
  induction n using z28 with
  |_ n ih=>
   intro b h hn hb;by_cases hbe:b=[]
   ·subst hbe;rw[Gw];exact hb
   ·rw[Cu hbe];have h1:0<b.length:=z10.2 hbe;exact ih (b.drop (min b.length (64-h.n % 64))).length (by simp;omega) _ _ rfl (by simp[Ck.wrN,hb])
 exact key _ _ _ rfl h2
def h00:HS:=⟨false,⟨0,0,0,0,0,0,0,0⟩,z11 64 0,0⟩
theorem HC.zero:HC [] h00:=⟨rfl,rfl,rfl,(fun h=>absurd h (by decide)),fun _=>rfl⟩
theorem S7(n:Nat):(Yo n).length=8:=rfl
theorem Sj(n:Nat):(endP n).length=9+He n:=by simp[endP,S7];omega
theorem qo(m:List Nat):(Gi m).length=32:=aqg _
theorem Vl(ρ:Nat→Nat)(ps:List PV):(ps.map SV.pv).map (SV.ren ρ)=ps.map SV.pv:=by
 rw[z19];rfl
theorem ap0(ρ:Nat→Nat)(h:HS):(s7 h).map (SV.ren ρ)=s7 h:=by
 have:s7 h=(PV.bool h.begun::(h.s.l.map wP++(bytes h.part++[PV.int .i64 (h.n:Int)]))).map SV.pv:=rfl;rw[this,Vl]
attribute [go_sem] Vl ap0
theorem t8(l:List Nat):(bytes l).all PV.one=true:=by
 simp only[bytes,z14,z12];intro x _;rfl
def hsP(h:HS):List PV:=PV.bool h.begun::(h.s.l.map wP++(bytes h.part++[PV.int .i64 (h.n:Int)]))
theorem afn(h:HS):s7 h=(hsP h).map SV.pv:=rfl
theorem zm{h:HS}(hp:h.part.length=64):(hsP h).length=74:=by have:=qp hp;rw[afn,z05]at this;exact this
theorem apz(h:HS):(hsP h).all PV.one=true:=by
 simp only[hsP,z15,z27,t8];simp[PV.one,S8.l,wP]
theorem ap2(h:HS):(s7 h).all SV.clo=true:=by
 have hb:(bytes h.part).all PV.clo=true:=by
  simp only[bytes,z14,z12];intro x _;rfl
 have:(hsP h).all PV.clo=true:=by
  simp only[hsP,z15,z27,hb];simp[PV.clo,S8.l,wP]
 rw[afn,z14];exact this
attribute [go_sem] ap2
theorem wy(l:List Nat)(x:Nat):bytes l++[.int .u8 (x:Int)]=bytes (l++[x]):=by rw[←bx];rfl
theorem Gb(l:List Nat):bytes l++[.int .u8 0]=bytes (l++[0]):=by rw[←bx];rfl
def ig(p:List Nat)(v i:Nat):List Nat:=p++(Yo v).take i
theorem ard(p:List Nat)(v:Nat):ig p v 0=p:=by simp[ig]
theorem arc(p:List Nat)(v:Nat):ig p v 8=p++Yo v:=rfl
theorem Sp(p:List Nat)(v i:Nat)(h:i≤8):(ig p v i).length=p.length+i:=by simp[ig,S7];omega
theorem aA8(p:List Nat)(v:Nat):ig p v 0++[v/2^56 % 256]=ig p v 1:=by simp[ig,Yo]
theorem aA7(p:List Nat)(v:Nat):ig p v 1++[v/2^48 % 256]=ig p v 2:=by simp[ig,Yo]
theorem aA6(p:List Nat)(v:Nat):ig p v 2++[v/2^40 % 256]=ig p v 3:=by simp[ig,Yo]
theorem aA5(p:List Nat)(v:Nat):ig p v 3++[v/2^32 % 256]=ig p v 4:=by simp[ig,Yo]
theorem aA4(p:List Nat)(v:Nat):ig p v 4++[v/2^24 % 256]=ig p v 5:=by simp[ig,Yo]
theorem aA3(p:List Nat)(v:Nat):ig p v 5++[v/2^16 % 256]=ig p v 6:=by simp[ig,Yo]
theorem aA2(p:List Nat)(v:Nat):ig p v 6++[v/2^8 % 256]=ig p v 7:=by simp[ig,Yo]
theorem aqc(p:List Nat)(v:Nat):ig p v 7++[v/2^0 % 256]=ig p v 8:=by simp[ig,Yo]
theorem aCv:IntKind.i64.wrap 48=48:=by decide
theorem aCw:IntKind.i64.wrap 40=40:=by decide
theorem aCx:IntKind.i64.wrap 32=32:=by decide
theorem aCy:IntKind.i64.wrap 24=24:=by decide
theorem aCz:IntKind.i64.wrap 16=16:=by decide
theorem ws8:IntKind.i64.wrap 8=8:=by decide
theorem ws0:IntKind.i64.wrap 0=0:=by decide
theorem aJe:IntKind.i64.wrap (-8)= -8:=by decide
theorem ani:∀(n:Nat) (h:HS) (b:List Nat),b.length=n→h.part.length=64→(wrL h b).part.length=64:=by
 intro n
 induction n using z28 with
 |_ n ih=>
  intro h b hn hb;by_cases hbe:b=[]
  ·subst hbe;rw[Gw];exact hb
  ·rw[Cu hbe];have h1:0<b.length:=z10.2 hbe;exact ih (b.drop (min b.length (64-h.n % 64))).length (by simp;omega) _ _ rfl (Oi hb b)
theorem avc{h:HS}(hp:h.part.length=64)(b:List Nat):(wr h b).part.length=64:=by
 refine ani _ _ _ rfl ?_;unfold wr0;split<;>exact hp
def bK(v k:Nat):Nat:=v/2^k % 256
theorem Ft(v k:Nat)(h:k≤64):IntKind.u8.wrap (mo .u64 (v:Int) (k:Int))=((bK v k:Nat):Int):=by
 rw[j7 .u64 v k h,wrap_u8];rfl
theorem arg(v:Nat):IntKind.u8.wrap (mo .u64 (v:Int) 56)=((bK v 56:Nat):Int):=Ft v 56 (by decide)
theorem arh(v:Nat):IntKind.u8.wrap (mo .u64 (v:Int) 48)=((bK v 48:Nat):Int):=Ft v 48 (by decide)
theorem ari(v:Nat):IntKind.u8.wrap (mo .u64 (v:Int) 40)=((bK v 40:Nat):Int):=Ft v 40 (by decide)
theorem arj(v:Nat):IntKind.u8.wrap (mo .u64 (v:Int) 32)=((bK v 32:Nat):Int):=Ft v 32 (by decide)
theorem ark(v:Nat):IntKind.u8.wrap (mo .u64 (v:Int) 24)=((bK v 24:Nat):Int):=Ft v 24 (by decide)
theorem arl(v:Nat):IntKind.u8.wrap (mo .u64 (v:Int) 16)=((bK v 16:Nat):Int):=Ft v 16 (by decide)
theorem aC6(v:Nat):IntKind.u8.wrap (mo .u64 (v:Int) 8)=((bK v 8:Nat):Int):=Ft v 8 (by decide)
theorem aC7(v:Nat):IntKind.u8.wrap (mo .u64 (v:Int) 0)=((bK v 0:Nat):Int):=Ft v 0 (by decide)
theorem agp(p:List Nat)(v:Nat):ig p v 0++[bK v 56]=ig p v 1:=aA8 p v
theorem ago(p:List Nat)(v:Nat):ig p v 1++[bK v 48]=ig p v 2:=aA7 p v
theorem agn(p:List Nat)(v:Nat):ig p v 2++[bK v 40]=ig p v 3:=aA6 p v
theorem agm(p:List Nat)(v:Nat):ig p v 3++[bK v 32]=ig p v 4:=aA5 p v
theorem agl(p:List Nat)(v:Nat):ig p v 4++[bK v 24]=ig p v 5:=aA4 p v
theorem agk(p:List Nat)(v:Nat):ig p v 5++[bK v 16]=ig p v 6:=aA3 p v
theorem agj(p:List Nat)(v:Nat):ig p v 6++[bK v 8]=ig p v 7:=aA2 p v
theorem agi(p:List Nat)(v:Nat):ig p v 7++[bK v 0]=ig p v 8:=aqc p v
open Go.RowKit
section
variable {P : Program} {R : Option Nat} {Φ : Exit → Cx → St → Prop} {k : List It} {C : Cx} {s : St} {all : Array Oper}
theorem A6.sliceO{o:Oper}{d t:Nat}{x:Operand}{lo hi:Option Operand}{vl vh:Option SV}{q off l h m e:Nat}{ea:Bool}{m1 m2:Option Int}(hg:o.guard=none)(hd:o.dst=some d)(ho:o.op= .slice t x lo hi none)(hx:ev s x=some (.ptr q off))(hlo:evo s lo=some vl)(hhi:evo s hi=some vh)(h1:oc vl=some m1)(h2:oc vh=some m2)(el:m1.getD 0=(l:Int))(eh:m2.getD (m:Int)=(h:Int))(hlh:l≤h)(hhm:h≤m)(hlm:l<m)(ho':∃y,aj q s.hp=some y)(hT:tk P t= .arr m e 1 ea):A6 P o d s (.os q (off+l) (h-l)):=fun R Φ k C all r t' hle hl hn hk=>
 AW.sliceO (hle.ev hx) (hle.evo hlo) (hle.evo hhi) h1 h2 el eh hlh hhm hlm (by rw[←hle.hp];exact ho') (by rw[rg hl hn rfl];exact hk) hT hg hd ho
theorem CK.sliceO{id i d t:Nat}{usl:List (List Nat)}{T:List (Nat×SV)}{o:Oper}{x:Operand}{lo hi:Option Operand}{vl vh:Option SV}{q off m e:Nat}{ea:Bool}{m1 m2:Option Int}(us:List Nat)(l hh:Nat)(hT:tk P t= .arr m e 1 ea)(hlh:l≤hh)(hhm:hh≤m)(hlm:l<m)(h:CK P R Φ k C id all s (i+1) (usl++[us]) (T++[(d,.os q (off+l) (hh-l))]))
  (ho:all[i]?=some o:=by rfl) (hg:o.guard=none:=by rfl) (hd:o.dst=some d:=by rfl) (hop:o.op= .slice t x lo hi none:=by rfl) (hx:ev (ru T us s) x=some (.ptr q off):=by simp only[go_sem,↓reduceIte]<;>rfl) (hlo:evo (ru T us s) lo=some vl:=by simp only[go_sem,↓reduceIte]<;>rfl) (hhi:evo (ru T us s) hi=some vh:=by simp only[go_sem,↓reduceIte]<;>rfl) (h1:oc vl=some m1:=by rfl) (h2:oc vh=some m2:=by rfl) (el:m1.getD 0=(l:Int):=by rfl) (eh:m2.getD (m:Int)=(hh:Int):=by rfl) (ho':∃y,aj q s.hp=some y:=by exact⟨_,rfl⟩):CK P R Φ k C id all s i usl T:=fun hi' hR=>
 h (by simp[hi']) (hR.add (by rw[hi'];exact ho) hg hd (.sliceO hg hd hop hx hlo hhi h1 h2 el eh hlh hhm hlm ho' hT))
end
end Go.Ck
namespace Go.Ck
open Go.RowKit
section
variable {P : Program} {R : Option Nat} {Φ : Exit → Cx → St → Prop} {k : List It} {C : Cx} {s : St} {all : Array Oper}
theorem Le.lk{s t:St}(h:Le s t){o:Nat}{y:HO}(hy:aj o s.hp=some y):aj o t.hp=some y:=by rw[←h.hp];exact hy
theorem A6.callP{o:Oper}{d:Nat}{f:FuncId}{svs args:List SV}{L:List Place}{p:PV}(hg:o.guard=none)(hd:o.dst=some d)(hc:Ck.callOp s o.op=some (f,svs))(hF:Fn P f [] args (fun rs H=>rs=[.pv p]∧H=[]))(hP:∀t,Le s t→Pass P t id svs args L none)(hB:Hc id [] args L none=true)(hclo:p.clo=true):A6 P o d s (.pv p):=fun R Φ k C all r t hle hl hn h=>by
 have hA:okA t id [] L [SV.pv p] []=true:=by
  simp[okA,yc,yj,bk,Ba,SV.clo,hclo]
 refine av id hF (hP t hle) ?_ hg hd (hle.callOp hc) trivial hB hA rfl;have:sf t id none [] d [SV.pv p] []=put d (.pv p) t:=rfl;rw[this,rg hl hn rfl];exact h
theorem CK.callP{id i f d:Nat}{usl:List (List Nat)}{T:List (Nat×SV)}{o:Oper}{svs args:List SV}{L:List Place}{p:PV}(us:List Nat)(hF:Fn P f [] args (fun rs H=>rs=[.pv p]∧H=[]))(hP:∀t,Le (ru T us s) t→Pass P t _root_.id svs args L none)(h:CK P R Φ k C id all s (i+1) (usl++[us]) (T++[(d,.pv p)]))
  (ho:all[i]?=some o:=by rfl) (hg:o.guard=none:=by rfl) (hd:o.dst=some d:=by rfl) (hc:callOp (ru T us s) o.op=some (f,svs):=by simp only[go_sem,↓reduceIte]<;>rfl) (hB:Hc _root_.id [] args L none=true:=by simp only[go_sem,↓reduceIte]) (hclo:p.clo=true:=by rfl):CK P R Φ k C id all s i usl T:=fun hi hR=>
 h (by simp[hi]) (hR.add (by rw[hi];exact ho) hg hd (.callP hg hd hc hF hP hB hclo))
end
end Go.Ck
namespace Go.Ck
section
variable {P : Program} {R : Option Nat} {Φ : Exit → Cx → St → Prop} {k : List It} {C : Cx} {s : St}
theorem Io(m:Nat){e e':Exit}{k k':List It}{s s':St}(h:AW P R Φ e' k' C s')(hn:ji P false m e k s=⟨e',k',s'⟩:=by simp only[go_sem,↓reduceIte]<;>rfl):AW P R Φ e k C s:=by
 refine cf (fl:=false) m ?_;rw[hn];exact h
end
end Go.Ck
namespace Go.Ck
open Go.RowKit
def Ei(z:Nat)(i:Nat)(xs:List PV):Option SV→Option (List PV)
 |some (.pv p)=>if p.cells.length=z∧i<xs.length then some (xs.set i p)else none
 |_=>none
def vj(z:Nat)(s:St):List (Nat×Operand)→Option (List PV)→Option (List PV)
 |[],xs=>xs
 |(i,x)::r,some xs=>vj z s r (Ei z i xs (ev s x))
 |_::_,none=>none
theorem y8(z:Nat)(s:St)(l:List (Nat×Operand)):vj z s l none=none:=by cases l<;>rfl
theorem D0{P:Program}{z:Nat}{s t:St}(h:Le s t):∀ {l:List (Nat×Operand)} {xs ys:List PV},vj z s l (some xs)=some ys→m7 P z l xs t=some (ys,t)
 |[],xs,ys,hf=>by cases hf;rfl
 |(i,x)::r,xs,ys,hf=>by
  simp only[vj]at hf;cases hx:ev s x with
  |none=>rw[hx]at hf;simp[Ei,y8]at hf
  |some v=>
   rw[hx]at hf;cases v with
   |pv p=>
    simp only[Ei]at hf;split at hf
    ·rename_i hc;simp only[m7,h.ev hx,freeze];rw[if_pos hc];exact D0 h hf
    ·rw[y8]at hf;cases hf
   |_=>simp[Ei,y8]at hf
section
variable {P : Program} {R : Option Nat} {Φ : Exit → Cx → St → Prop} {k : List It} {C : Cx} {s : St} {all : Array Oper}
theorem A6.list{o:Oper}{d ty n e ez eb:Nat}{ea:Bool}{ps:Array (Nat×Operand)}{z:PV}{xs:List PV}(hg:o.guard=none)(hd:o.dst=some d)(ho:o.op= .buildSlice ty n ps)(hT:tk P ty= .sl e ez eb ea)(hz:ax P e=some z)(h1:n*ez≤16777216)(h2:0<ez)(h3:n≤maxLen)(hf:vj ez s ps.toList (some (z11 n z))=some xs):A6 P o d s (.own e xs):=fun R Φ k C all r t hle hl hn h=>by
 refine AW.step (s':=put d (.own e xs) t) hg ?_ ?_
 ·unfold du;simp only[hd,ho,reads,Bool.false_eq_true,if_false,yi,N4,hT,hz];rw[if_pos ⟨h1,h2,h3⟩,D0 hle hf]
 ·rw[rg hl hn rfl];exact h
theorem CK.list{id i d ty n e ez eb:Nat}{ea:Bool}{usl:List (List Nat)}{T:List (Nat×SV)}{o:Oper}{ps:Array (Nat×Operand)}{z:PV}{xs:List PV}(us:List Nat)(h:CK P R Φ k C id all s (i+1) (usl++[us]) (T++[(d,.own e xs)]))
  (ho:all[i]?=some o:=by rfl) (hg:o.guard=none:=by rfl) (hd:o.dst=some d:=by rfl) (hop:o.op= .buildSlice ty n ps:=by rfl) (hT:tk P ty= .sl e ez eb ea:=by simp only[go_sem]<;>rfl) (hz:ax P e=some z:=by simp only[go_sem]<;>rfl) (hf:vj ez (ru T us s) ps.toList (some (z11 n z))=some xs:=by simp only[go_sem,↓reduceIte]<;>rfl) (h1:n*ez≤16777216:=by decide) (h2:0<ez:=by decide) (h3:n≤maxLen:=by exact jp _):CK P R Φ k C id all s i usl T:=fun hi hR=>
 h (by simp[hi]) (hR.add (by rw[hi];exact ho) hg hd (.list hg hd hop hT hz h1 h2 h3 hf))
end
theorem Xh(z:Nat)(s:St)(xs:List PV):vj z s [] (some xs)=some xs:=rfl
theorem Um(z:Nat)(s:St)(i:Nat)(x:Operand)(r:List (Nat×Operand))(xs:List PV):vj z s ((i,x)::r) (some xs)=vj z s r (Ei z i xs (ev s x)):=rfl
attribute [go_sem] Xh Um Ei
end Go.Ck
namespace Go.Ck
open Go.RowKit
section
variable {P : Program} {R : Option Nat} {Φ : Exit → Cx → St → Prop} {k : List It} {C : Cx} {s : St} {all : Array Oper}
end
end Go.Ck
