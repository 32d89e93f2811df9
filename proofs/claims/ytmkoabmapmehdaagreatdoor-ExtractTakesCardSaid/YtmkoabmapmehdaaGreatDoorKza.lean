/- What is proved here: parts of the proofs of this seat's statements (a verified evaluator for calls over pure values, its laws, and contracts of functions). No condition. -/
import Derived.Test.YtmkoabmapmehdaaGreatDoorKv
import Derived.Test.YtmkoabmapmehdaaGreatDoorKz
import Derived.Test.YtmkoabmapmehdaaGreatDoorKw
import Derived.Test.YtmkoabmapmehdaaGreatDoorKs
import Derived.Test.YtmkoabmapmehdaaGreatDoorKx
import Derived.Test.YtmkoabmapmehdaaGreatDoorKy
import Derived.Sort.Walk0
set_option linter.all false
open List renaming length_append→z00,replicate→z01,length_cons→z02,getElem?_eq_some_iff→z03,pairwise_cons→z04,mem_cons→z05,length_drop→z07,foldl_cons→z09,mem_of_mem_drop→z11,take_add_one→z12,append_assoc→z13,length_take→z15,length_nil→z17,lt_irrefl→z18,length_singleton→z19,mem_of_mem_take→z20,getElem?_map→z22,any_eq_true→z23,append_nil→z25,lt_trans→z26,not_lt→z28
open Nat renaming zero_le→z06,pow_succ→z08,strongRecOn→z10,le_trans→z14,le_refl→z16,pow_le_pow_right→z21,zero_add→z27
open Int renaming toNat_natCast→z24
set_option maxRecDepth 100000
set_option maxHeartbeats 400000
namespace Go.Ck
open Go.Proofs
theorem M2(out b:List Nat)(hlo:out.length≤2^40)(hl:b.length≤2^40):Fn Tryz.prog 123 [] [.own 5 (bytes out),.pv (.sl 1 (bytes b))] (fun rs H'=>rs=[.own 5 (bytes (out++ly b))]∧H'=[]):=by
 refine Fn.ob Tryz.f123 20 [.tmp 4] fun C=> ?_
 have hr:aw=140737488355328:=rfl;have m1:(1≤maxLen)=True:=eq_true (by unfold maxLen;decide)
 have h16:((16:Int)=0)=False:=by simp
 have r1:(out.length+b.length≤aw)=True:=eq_true (by omega)
 have ha:bytes out++bytes b=bytes (out++b):=bx _ _;refine aa ?_ (by simp only[go_sem,↓reduceIte,r1,ha]<;>rfl)
 refine aq (fun i:Nat=>⟨20,[(5,.pv (.int .i64 i)),(0,.own 5 (bytes (out++b++z01 (i-b.length) 0)))],[]⟩) (fun i=>b.length≤i∧i≤(b.length+15)/16*16) (fun i=>(b.length+15)/16*16-i) [5,0] [] b.length ⟨z16 _,by omega⟩ ?_ (hs:=by simp only[go_sem,↓reduceIte,Nat.sub_self,List.replicate_zero,z25]<;>rfl)
 rintro i ⟨h1,h2⟩ K hK;have e2:=afw i;have w2:IntKind.i64.wrap ((i % 16:Nat):Int)=((i % 16:Nat):Int):=au (by omega)
 by_cases hm:i % 16=0
 ·have d1:(((i % 16:Nat):Int) !=0)=false:=by rw[hm];rfl
  have d1':(i % 16 !=0)=false:=by rw[hm];rfl
  have hz:i-b.length=afa b.length:=ak6 h1 h2 hm;refine aa ?_ (by simp only[go_sem,↓reduceIte,h16,e2,w2,d1,d1']<;>rfl)
  refine ae rfl ?_;have hf:out++ly b=out++b++z01 (i-b.length) 0:=by unfold ly;rw[hz,z13]
  rw[hf];refine aa ?_;refine ac (.move rfl .nil) rfl
 ·have d1:(((i % 16:Nat):Int) !=0)=true:=by rw[bne_iff_ne];omega
  have d1':(i % 16 !=0)=true:=by rw[bne_iff_ne];omega
  have ei:IntKind.i64.wrap ((i:Int)+1)=((i+1:Nat):Int):=ai (by omega)
  have hs:bytes (out++b++z01 (i-b.length) 0)++[.int .u8 0]=bytes (out++b++z01 (i+1-b.length) 0):=by
   rw[show i+1-b.length=i-b.length+1 by omega,List.replicate_succ',←z13];exact bx _ [0]
  have hll:(out++b++z01 (i-b.length) 0).length=out.length+b.length+(i-b.length):=by simp;omega
  have r2:(out.length+b.length+(i-b.length)+1≤aw)=True:=eq_true (by omega)
  generalize out++b++z01 (i-b.length) 0=cur at*;refine aa ?_ (by simp only[go_sem,↓reduceIte,h16,e2,w2,d1,d1']<;>rfl)
  refine am rfl ?_;refine aa ?_ (by simp only[go_sem,↓reduceIte,m1,hs,ba,hll,z02,z17,z27,r2,ei]<;>rfl)
  exact ah hK (i+1) ⟨by omega,by omega⟩ (by omega)
theorem F7(out:List Nat)(n:Nat)(hlo:out.length≤2^41)(hn:n<2^63):Fn Tryz.prog 124 [] [.own 5 (bytes out),.pv (.int .i64 n)] (fun rs H'=>rs=[.own 5 (bytes (out++fk n 8))]∧H'=[]):=by
 refine Fn.ob Tryz.f124 21 [.tmp 4] fun C=> ?_
 have hr:aw=140737488355328:=rfl;have m1:(1≤maxLen)=True:=eq_true (by unfold maxLen;decide)
 have en:IntKind.u64.wrap (n:Int)=(n:Int):=ay (by omega)
 refine aa ?_;refine aq (fun i:Nat=>⟨21,[(5,.pv (.int .i64 i)),(0,.own 5 (bytes (out++fk n i))),(1,.pv (.int .i64 n))],[]⟩) (fun i=>i≤8) (fun i=>8-i) [5,0,1] [] 0 (z06 _) ?_ (hs:=by simp only[go_sem,↓reduceIte,show fk n 0=[]from rfl,z25]<;>rfl)
 rintro i hi K hK;refine aa ?_;refine AW.cond rfl (fun hc=> ?_) (fun hc=> ?_)
 ·have hlt:i<8:=by have:=of_decide_eq_true hc;omega
  have ei:IntKind.i64.wrap ((i:Int)+1)=((i+1:Nat):Int):=ai (by omega)
  have e1:IntKind.i64.wrap (8*(i:Int))=((8*i:Nat):Int):=au (n:=8*i) (by omega)
  have e1':IntKind.i64.wrap ((8*i:Nat):Int)=((8*i:Nat):Int):=au (by omega)
  have e2:IntKind.u64.wrap ((8*i:Nat):Int)=((8*i:Nat):Int):=ay (by omega)
  have e3:=j7 .u64 n (8*i) (by show 8*i≤64;omega)
  have e4:n/2^ (8*i)=n/256^i:=by rw[Nat.pow_mul]
  rw[e4]at e3;have e5:IntKind.u8.wrap ((n/256^i:Nat):Int)=((n/256^i % 256:Nat):Int):=wrap_u8 _;have hs:bytes (out++fk n i)++[.int .u8 ((n/256^i % 256:Nat):Int)]=bytes (out++fk n (i+1)):=by
   rw[Dc,←z13];exact bx _ [n/256^i % 256]
  have hll:(out++fk n i).length=out.length+i:=by rw[z00,ff]
  have r2:(out.length+i+1≤aw)=True:=eq_true (by omega)
  generalize out++fk n i=cur at*;refine aa ?_ (by simp only[go_sem,↓reduceIte,en,e1,e1',e2,e3,e5,m1,hs,ba,hll,z02,z17,z27,r2,ei]<;>rfl)
  exact ah hK (i+1) (by omega) (by omega)
 have hge:i=8:=by have:=of_decide_eq_false hc;omega
 subst hge;refine aa ?_;refine ac (.move rfl .nil) rfl
theorem ahi(key nonce ad c:List Nat)(hk:key.length=32)(hkb:∀x∈key,x<256)(hn:nonce.length=12)(hnb:∀x∈nonce,x<256)(hab:∀x∈ad,x<256)(hal:ad.length≤2^30)(hcb:∀x∈c,x<256)(hcl:c.length≤2^35):
  Fn Tryz.prog 101 [] [.pv (.sl 1 (bytes key)),.pv (.sl 1 (bytes nonce)),.pv (.sl 1 (bytes ad)),.pv (.sl 1 (bytes c))] (fun rs H'=>rs=[.own 5 (bytes (Va key nonce ad c))]∧H'=[]):=by
 refine Fn.ob Tryz.f101 39 [.tmp 8] fun C=> ?_
 have hbf:=Ki key 0 nonce hk hkb hn hnb;have hbl:=Ng key 0 nonce;have hbb:=Bw key 0 nonce;have htag:Va key nonce ad c=aay ((yh key 0 nonce).take 32) (ly ad++ly c++fk ad.length 8++fk c.length 8):=rfl;rw[htag];generalize yh key 0 nonce=blk at*;have hw0:wP 0= .int .u32 0:=rfl;rw[hw0]at hbf;have h32:(32≤blk.length)=True:=eq_true (by omega)
 have h32i:((32:Int)≤(blk.length:Int))=True:=eq_true (by omega)
 have htk:=dz blk 32;have hfa:=M0 ad;have hfc:=M0 c;have hmb:∀x∈ly ad++ly c++fk ad.length 8++fk c.length 8,x<256:=fun x hx=>by
  simp only[List.mem_append]at hx;rcases hx with((h|h)|h)|h
  ·exact J5 hab x h
  ·exact J5 hcb x h
  ·exact i6 _ _ x h
  ·exact i6 _ _ x h
 have hml:(ly ad++ly c++fk ad.length 8++fk c.length 8).length≤2^36:=by
  simp only[z00,ff];omega
 have hmf:=aiu (blk.take 32) (ly ad++ly c++fk ad.length 8++fk c.length 8) (by rw[z15];omega) (fun x hx=>hbb x (z20 hx)) hmb hml
 refine aa ?_;refine ap hbf (.pv _ (.pv _ (.pv _ .nil))) ?_;refine aa ?_;have hf0:=M2 [] ad (by decide) (by omega)
 rw[List.nil_append]at hf0;refine av (args:=[.own 5 (bytes []),.pv (.sl 1 (bytes ad))]) (fun _=>0) hf0 (.nilsO _ (.pv _ .nil)) ?_
 refine aa ?_;refine ap (M2 (ly ad) c (by omega) (by omega)) (.move rfl (.pv _ .nil)) ?_
 refine aa ?_;refine ap (F7 (ly ad++ly c) ad.length (by rw[z00];omega) (by omega)) (.move rfl (.pv _ .nil)) ?_
 refine aa ?_;refine ap (F7 (ly ad++ly c++fk ad.length 8) c.length (by simp only[z00,ff];omega) (by omega)) (.move rfl (.pv _ .nil)) ?_
 refine aa ?_ (by simp only[go_sem,↓reduceIte,h32,h32i,htk]<;>rfl)
 refine ap hmf (.pv _ (.lend rfl c7 .nil)) ?_;refine aa ?_;refine ac (.move rfl .nil) rfl
theorem ab2(key nonce ad p:List Nat)(hk:key.length=32)(hkb:∀x∈key,x<256)(hn:nonce.length=12)(hnb:∀x∈nonce,x<256)(hab:∀x∈ad,x<256)(hal:ad.length≤2^30)(hpb:∀x∈p,x<256)(hpl:p.length≤2^35):
  Fn Tryz.prog 63 [] [.pv (.sl 1 (bytes key)),.pv (.sl 1 (bytes nonce)),.pv (.sl 1 (bytes ad)),.pv (.sl 1 (bytes p))] (fun rs H'=>rs=[.own 5 (bytes (Hl key nonce ad p)),.pv (.int .i64 0)]∧H'=[]):=by
 refine Fn.ob Tryz.f63 29 [.tmp 8,.tmp 9] fun C=> ?_
 have hr:aw=140737488355328:=rfl;have hsf:=To key 1 nonce p hk hkb hn hnb (by decide) (by omega) hpb
 have hcl:=Po key nonce 1 p p.length;have hcb:=Sz (key:=key) (nonce:=nonce) (c:=1) hpb p.length;have hse:Hl key nonce ad p=Qu key nonce 1 p p.length++Va key nonce ad (Qu key nonce 1 p p.length):=rfl;rw[hse];generalize Qu key nonce 1 p p.length=c at*;have htf:=ahi key nonce ad c hk hkb hn hnb hab hal hcb (by omega)
 have htl:=Re key nonce ad c;generalize Va key nonce ad c=T at*;have g0:((0:Int) !=0)=false:=rfl;have r1:(c.length+T.length≤aw)=True:=eq_true (by omega)
 have ha:bytes c++bytes T=bytes (c++T):=bx _ _;refine aa ?_;refine ap hsf (.pv _ (.pv _ (.pv _ (.pv _ .nil)))) ?_;refine aa ?_;refine ae rfl ?_;refine aa ?_;refine ap htf (.pv _ (.pv _ (.pv _ (.lend rfl c7 .nil)))) ?_;refine aa ?_ (by simp only[go_sem,↓reduceIte,r1,ha]<;>rfl)
 refine ac (.move rfl (.pv _ .nil)) rfl
theorem Tn(key:List Nat)(name:List UInt8)(hkb:∀x∈key,x<256)(hnl:name.length≤maxLen):Fn Tryz.prog 28 [] [.pv (.sl 1 (bytes key)),.pv (.str name)] (fun rs H'=>rs=[.pv (.sl 1 (bytes (dk key 1 name).1)),.pv (.int .i64 (dk key 1 name).2)]∧H'=[]):=by
 refine Fn.ob Tryz.f28 11 [.tmp 4,.tmp 5] fun C=> ?_
 refine aa ?_;refine av (args:=[.pv (.sl 1 (bytes key)),.pv (.int .u8 ((1:Nat):Int)),.pv (.str name)]) (fun _=>0) (tt key 1 name hkb (by decide) hnl) (.pv _ (.pv _ (.pv _ .nil))) ?_
 refine aa ?_;refine ac (.pv _ (.pv _ .nil)) rfl
theorem ab1(key:List Nat)(hkb:∀x∈key,x<256):Fn Tryz.prog 95 [] [.pv (.sl 1 (bytes key))] (fun rs H'=>rs=[.pv (.sl 1 (bytes (dk key 2 []).1)),.pv (.int .i64 (dk key 2 []).2)]∧H'=[]):=by
 refine Fn.ob Tryz.f95 8 [.tmp 2,.tmp 3] fun C=> ?_
 refine aa ?_;refine av (args:=[.pv (.sl 1 (bytes key)),.pv (.int .u8 ((2:Nat):Int)),.pv (.str [])]) (fun _=>0) (tt key 2 [] hkb (by decide) (z06 _)) (.pv _ (.pv _ (.pv _ .nil))) ?_
 refine aa ?_;refine ac (.pv _ (.pv _ .nil)) rfl
def xm(k:Nat):Nat:=64*4^k
theorem Rf(k:Nat):xm (k+1)=xm k*4:=by simp[xm,z08,Nat.mul_assoc]
theorem H4:∀k,k≤9→xm k≤16777216:=by decide
theorem az1:∀k,k≤9→(xm k≤4194304↔k≤8):=by decide
theorem ao2(k:Nat):0<xm k:=by simp[xm];exact Nat.pow_pos (by decide)
def szs(i:Nat):Option (List PV):=if i<9 then some [.int .i64 (i:Int),.int .i64 (xm i:Int)]else none
def c9(k:Int):Nat:=if 0≤k∧k≤8 then xm k.toNat else 0
def r7(k:Int)(i:Nat):Nat:=if 0≤k∧k<i then xm k.toNat else 0
theorem ah8(k:Int):r7 k 0=0:=by unfold r7;rw[if_neg (by omega)]
theorem ah7(k:Int):r7 k 9=c9 k:=by unfold r7 c9;congr 1;simp;omega
theorem acr(i:Nat):r7 (i:Int) (i+1)=xm i:=by unfold r7;rw[if_pos (by omega)];simp
theorem acq(k:Int)(i:Nat)(h:(i:Int)≠k):r7 k (i+1)=r7 k i:=by unfold r7;congr 1;simp;omega
theorem wo(k:Int):c9 k=0↔¬(0≤k∧k≤8):=by
 unfold c9;split
 ·rename_i h;have:=ao2 k.toNat;constructor
  ·intro h0;omega
  ·intro hn;exact absurd h hn
 ·rename_i h;exact⟨fun _=>h,fun _=>rfl⟩
theorem yt(k:Int):c9 k≤16777216:=by
 unfold c9;split
 ·exact H4 _ (by omega)
 ·decide
abbrev je:=List UInt8×Int
def aC3(e:je):PV:= .agg [.str e.1,.int .i64 e.2]
def b9(es:List je):List PV:=es.map aC3
theorem z8(es:List je):(b9 es).length=es.length:=by simp[b9]
attribute [go_sem] z8
theorem u3{es:List je}{i:Nat}{e:je}(h:es[i]?=some e):(b9 es)[i]?=some (.agg [.str e.1,.int .i64 e.2]):=by
 unfold b9;rw[z22,h];rfl
structure Man where
 v:Nat
 prev:List Nat
 es:List je
 root:List Nat
def Ak(m:Man):PV:= .agg [.int .u64 (m.v:Int),.sl 1 (bytes m.prev),.sl 2 (b9 m.es),.sl 1 (bytes m.root)]
def Hi(e:je):Bool:=c9 e.2==0
def uf(e:je):Bool:=decide (64<e.1.length)
def fm(m:Man):Nat:=
 if m.v=18446744073709551615∨m.prev.length≠32∨m.root.length≠32 then 1
 else if m.es.any Hi=true then 1
 else if 1048576<m.es.length∨m.es.any uf=true then 4 else 0
theorem az2(k:Nat):64≤xm k:=by
 induction k with
 |zero=>decide
 |succ k ih=>unfold xm at*;rw[z08];omega
def N2(n:Nat):Nat→Nat→Nat
 |0,k=>k
 |f+1,k=>if xm k<n+4 then N2 n f (k+1)else k
def Qy(n:Nat):Nat:=N2 n 8 0
theorem aaf(n:Nat):∀f k,N2 n f k≤k+f
 |0,k=>z16 _
 |f+1,k=>by
  unfold N2;split
  ·have:=aaf n f (k+1);omega
  ·omega
theorem Vw(n:Nat):Qy n≤8:=by have:=aaf n 8 0;unfold Qy;omega
theorem S2{n:Nat}(h:n+4≤xm 8):∀f k,k+f=8→n+4≤xm (N2 n f k)
 |0,k,hk=>by
    obtain rfl:k=8:=by omega
    exact h
 |f+1,k,hk=>by
  unfold N2;split
  ·exact S2 h f (k+1) (by omega)
  ·omega
theorem aq0:xm 8=4194304:=by decide
theorem aae{n:Nat}(h:n≤4194300):n+4≤xm (Qy n):=S2 (by rw[aq0];omega) 8 0 rfl
theorem zx{k:Nat}(h:k≤8):c9 (k:Int)=xm k:=by unfold c9;rw[if_pos (by omega)];rfl
def N0(b:List Nat):List Nat:=iy b.length 4++b++z01 (xm (Qy b.length)-(b.length+4)) 0
theorem Rt{b:List Nat}(h:b.length≤4194300):(N0 b).length=xm (Qy b.length):=by
 have:=aae h;unfold N0;rw[z00,z00,List.length_replicate,gv];omega
def vd(b:List Nat):List Nat×Nat:=if 4194300<b.length then([],4)else(N0 b,0)
def aa0(n:Nat):Nat×Nat:=if 4194300<n then(0,4)else(Qy n,0)
def Id(key:List Nat)(v i:Nat):List Nat:=(pz (dk key 3 []).1 (iy v 8++iy i 4)).take 12
def sd(key:List Nat)(v:Nat)(i:Int):List Nat×Nat:=if(dk key 3 []).2≠0 then([],(dk key 3 []).2)else if i<0∨1048576≤i then([],1)else(Id key v i.toNat,0)
theorem W0(key:List Nat)(v i:Nat):(Id key v i).length=12:=by unfold Id;rw[z15,kl];rfl
theorem Uc(key:List Nat)(v i:Nat):∀x∈Id key v i,x<256:=fun x hx=>Pa _ _ x (z20 hx)
theorem W1(key:List Nat)(v:Nat)(i:Int)(hkb:∀x∈key,x<256)(hv:v<2^64):Fn Tryz.prog 96 [] [.pv (.sl 1 (bytes key)),.pv (.int .u64 v),.pv (.int .i64 i)] (fun rs H'=>rs=[.pv (.sl 1 (bytes (sd key v i).1)),.pv (.int .i64 (sd key v i).2)]∧H'=[]):=by
 refine Fn.ob Tryz.f96 35 [.tmp 6,.tmp 7] fun C=> ?_
 have hr:aw=140737488355328:=rfl;have hdf:=tt key 3 [] hkb (by decide) (z06 _)
 have hkb2:=Y0 key 3 [];have hkl2:=agq key 3 [];have hnp:Id key v i.toNat=(pz (dk key 3 []).1 (iy v 8++iy i.toNat 4)).take 12:=rfl;unfold sd;rw[hnp];generalize dk key 3 []=D at*;obtain⟨k,ke⟩:=D;simp only at hkb2 hkl2 hdf⊢;refine aa ?_;refine av (args:=[.pv (.sl 1 (bytes key)),.pv (.int .u8 ((3:Nat):Int)),.pv (.str [])]) (fun _=>0) hdf (.pv _ (.pv _ (.pv _ .nil))) ?_
 by_cases hk0:ke=0
 rotate_left
 ·have d0:((ke:Int) !=0)=true:=by rw[bne_iff_ne];omega
  rw[if_pos hk0];refine aa ?_ (by simp only[go_sem,↓reduceIte,d0]<;>rfl)
  refine am rfl ?_;refine aa ?_;refine ac (.lend rfl c7 (.pv _ .nil)) rfl
 have d0:((ke:Int) !=0)=false:=by rw[hk0];rfl
 rw[if_neg (not_not_intro hk0)];refine aa ?_ (by simp only[go_sem,↓reduceIte,d0]<;>rfl)
 refine ae rfl ?_;by_cases hi:i<0∨1048576≤i
 ·rw[if_pos hi];refine Aj (T:= ?Te) (fun hT=> ?_) ?_;rotate_left
  ·by_cases h1:i<0
   ·have d1:decide (i<0)=true:=decide_eq_true h1;refine ak ?_ (by simp only[go_sem,↓reduceIte,d1]<;>rfl)
    refine bq [24] [] (s':=⟨35,[(24,.pv (.bool true))],[]⟩) ?_;exact hT ()
   ·have d1:decide (i<0)=false:=decide_eq_false h1;have d2:decide (i≥1048576)=true:=decide_eq_true (by omega)
    have d2':decide (1048576≤i)=true:=decide_eq_true (by omega)
    refine ak ?_ (by simp only[go_sem,↓reduceIte,d1,d2,d2']<;>rfl)
    refine bq [24] [] (s':=⟨35,[(24,.pv (.bool true))],[]⟩) ?_;exact hT ()
  refine am rfl ?_;refine aa ?_;refine ac (.lend rfl c7 (.pv _ .nil)) rfl
 rw[if_neg hi];obtain⟨j,rfl⟩:∃j:Nat,i=(j:Int):=⟨i.toNat,by omega⟩
 have d1:decide ((j:Int)<0)=false:=decide_eq_false (by omega)
 have d2:decide ((j:Int)≥1048576)=false:=decide_eq_false (by omega)
 have d2':decide (1048576≤j)=false:=decide_eq_false (by omega)
 have ej:IntKind.u64.wrap (j:Int)=(j:Int):=ay (by omega)
 have l8:=gv v 8;have l4:=gv j 4;have ha:bytes (iy v 8)++bytes (iy j 4)=bytes (iy v 8++iy j 4):=bx _ _;have r1:((8+4)≤aw)=True:=eq_true (by omega)
 rw[z24];refine ak ?_ (by simp only[go_sem,↓reduceIte,d1,d2,d2']<;>rfl)
 refine ae rfl ?_;refine aa ?_;refine av (args:=[.pv (.int .u64 v),.pv (.int .i64 ((8:Nat):Int))]) (fun _=>0) (jo v 8 hv (by decide)) (.pv _ (.pv _ .nil)) ?_
 refine aa ?_ (by simp only[go_sem,↓reduceIte,ej]<;>rfl)
 refine av (args:=[.pv (.int .u64 j),.pv (.int .i64 ((4:Nat):Int))]) (fun _=>0) (jo j 4 (by omega) (by decide)) (.pv _ (.pv _ .nil)) ?_
 refine aa ?_ (by simp only[go_sem,↓reduceIte,ba,l8,l4,ha,hr,Nat.reduceAdd,Nat.reduceLeDiff]<;>rfl)
 have hml:=kl k (iy v 8++iy j 4);refine av (args:=[.pv (.sl 1 (bytes k)),.pv (.sl 1 (bytes (iy v 8++iy j 4)))]) (fun _=>0) (I4 k (iy v 8++iy j 4) hkb2 (by omega) (by rw[z00,l8,l4];decide)) (.pv _ (.lend rfl c7 .nil)) ?_
 generalize pz k (iy v 8++iy j 4)=T at*;refine bj (.slot 33) ?_;have t1:(12≤T.length)=True:=eq_true (by omega)
 have t2:((12:Int)≤(T.length:Int))=True:=eq_true (by omega)
 have htk:=dz T 12;refine aa ?_ (by simp only[go_sem,↓reduceIte,t1,t2,htk]<;>rfl)
 refine ac (.pv _ (.pv _ .nil)) rfl
theorem Et(k:Int):Fn Tryz.prog 15 [] [.pv (.int .i64 k)] (fun rs H'=>rs=[.pv (.int .i64 (c9 k:Nat))]∧H'=[]):=by
 refine Fn.ob Tryz.f15 19 [.tmp 2] fun C=> ?_
 unfold c9;by_cases hk:0≤k∧k≤8
 ·rw[if_pos hk];obtain⟨j,rfl⟩:∃j:Nat,k=(j:Int):=⟨k.toNat,by omega⟩
  have d1:decide ((j:Int)<0)=false:=decide_eq_false (by omega)
  have d2:decide ((j:Int)>8)=false:=decide_eq_false (by omega)
  have d2':decide (8<j)=false:=decide_eq_false (by omega)
  rw[z24];refine ak ?_ (by simp only[go_sem,↓reduceIte,d1,d2,d2']<;>rfl)
  refine ae rfl ?_;refine aa ?_;refine aq (fun i:Nat=>⟨19,[(4,.pv (.int .i64 i)),(0,.pv (.int .i64 j)),(3,.pv (.int .i64 (xm i)))],[]⟩) (fun i=>i≤j) (fun i=>j-i) [4,0,3] [] 0 (z06 _) ?_
  rintro i hi K hK;refine aa ?_;refine AW.cond rfl (fun hc=> ?_) (fun hc=> ?_)
  ·have hlt:i<j:=by have:=of_decide_eq_true hc;omega
   have ei:IntKind.i64.wrap ((i:Int)+1)=((i+1:Nat):Int):=ai (by omega)
   have hs:=Rf i;have hl:=H4 (i+1) (by omega)
   have e4:IntKind.i64.wrap ((xm i:Int)*4)=(xm (i+1):Int):=by rw[hs];exact au (n:=xm i*4) (by omega)
   refine aa ?_ (by simp only[go_sem,↓reduceIte,e4,ei]<;>rfl)
   exact ah hK (i+1) (by omega) (by omega)
  have hge:i=j:=by have:=of_decide_eq_false hc;omega
  subst hge;refine aa ?_;refine ac (.pv _ .nil) rfl
 ·rw[if_neg hk];refine Aj (T:= ?Te) (fun hT=> ?_) ?_;rotate_left
  ·by_cases h1:k<0
   ·have d1:decide (k<0)=true:=decide_eq_true h1;refine ak ?_ (by simp only[go_sem,↓reduceIte,d1]<;>rfl)
    refine bq [10] [] (s':=⟨19,[(10,.pv (.bool true))],[]⟩) ?_;exact hT ()
   ·have d1:decide (k<0)=false:=decide_eq_false h1;have d2:decide (k>8)=true:=decide_eq_true (by omega)
    have d2':decide (8<k)=true:=decide_eq_true (by omega)
    refine ak ?_ (by simp only[go_sem,↓reduceIte,d1,d2,d2']<;>rfl)
    refine bq [10] [] (s':=⟨19,[(10,.pv (.bool true))],[]⟩) ?_;exact hT ()
  refine am rfl ?_;refine aa ?_;refine ac (.pv _ .nil) rfl
theorem Gd(n:Nat)(hn:n<2^62):Fn Tryz.prog 62 [] [.pv (.int .i64 n)] (fun rs H'=>rs=[.pv (.int .i64 (aa0 n).1),.pv (.int .i64 (aa0 n).2)]∧H'=[]):=by
 refine Fn.ob Tryz.f62 17 [.tmp 2,.tmp 3] fun C=> ?_
 have d1:decide ((n:Int)<0)=false:=decide_eq_false (by omega)
 unfold aa0;refine aa ?_ (by simp only[go_sem,↓reduceIte,d1]<;>rfl)
 refine ae rfl ?_;by_cases hb:4194300<n
 ·have d2:decide ((n:Int)>4194300)=true:=decide_eq_true (by omega)
  have d2':decide (4194300<n)=true:=decide_eq_true hb;rw[if_pos hb];refine aa ?_ (by simp only[go_sem,↓reduceIte,d2,d2']<;>rfl)
  refine am rfl ?_;refine aa ?_;refine ac (.pv _ (.pv _ .nil)) rfl
 have d2:decide ((n:Int)>4194300)=false:=decide_eq_false (by omega)
 have d2':decide (4194300<n)=false:=decide_eq_false hb;rw[if_neg hb];refine aa ?_ (by simp only[go_sem,↓reduceIte,d2,d2']<;>rfl)
 refine ae rfl ?_;refine aa ?_;have h8:n+4≤xm 8:=by rw[aq0];omega
 refine aq (fun k:Nat=>⟨17,[(4,.pv (.int .i64 k)),(0,.pv (.int .i64 n))],[]⟩) (fun k=>k≤8∧N2 n (8-k) k=Qy n) (fun k=>8-k) [4,0] [] 0 ⟨z06 _,rfl⟩ ?_
 rintro k ⟨hk,hbk⟩ K hK;have w4:IntKind.i64.wrap ((n:Int)+4)=((n+4:Nat):Int):=au (n:=n+4) (by omega)
 have hsz:=Et (k:Int);rw[zx hk]at hsz;refine aa ?_;refine ap hsz (.pv _ .nil) ?_;by_cases hlt:xm k<n+4
 ·have d3:decide ((xm k:Int)<((n+4:Nat):Int))=true:=decide_eq_true (by omega)
  have d3':decide (xm k<n+4)=true:=decide_eq_true hlt;have hk8:k<8:=by
   refine Nat.lt_of_not_le (fun h=> ?_)
   obtain rfl:k=8:=by omega
   omega
  have ek:IntKind.i64.wrap ((k:Int)+1)=((k+1:Nat):Int):=ai (by omega)
  refine aa ?_ (by simp only[go_sem,↓reduceIte,w4,d3,d3']<;>rfl)
  refine am rfl ?_;refine aa ?_ (by simp only[go_sem,↓reduceIte,ek]<;>rfl)
  refine ah hK (k+1) ⟨by omega, ?_⟩ (by omega)
  rw[←hbk,show 8-k=8-(k+1)+1 by omega]
  conv=>rhs;unfold N2
  rw[if_pos hlt]
 ·have d3:decide ((xm k:Int)<((n+4:Nat):Int))=false:=decide_eq_false (by omega)
  have d3':decide (xm k<n+4)=false:=decide_eq_false hlt;have hfin:Qy n=k:=by
   rw[←hbk];by_cases h:k=8
   ·subst h;rfl
   ·rw[show 8-k=8-(k+1)+1 by omega];unfold N2;rw[if_neg hlt]
  rw[hfin];refine aa ?_ (by simp only[go_sem,↓reduceIte,w4,d3,d3']<;>rfl)
  refine ae rfl ?_;refine aa ?_;refine ac (.pv _ (.pv _ .nil)) rfl
theorem ah9(b:List Nat)(hl:b.length≤2^40):Fn Tryz.prog 61 [] [.pv (.sl 1 (bytes b))] (fun rs H'=>rs=[.own 5 (bytes (vd b).1),.pv (.int .i64 (vd b).2)]∧H'=[]):=by
 refine Fn.ob Tryz.f61 29 [.tmp 2,.tmp 3] fun C=> ?_
 have hr:aw=140737488355328:=rfl;have hbf:=Gd b.length (by omega)
 unfold vd;unfold aa0 at hbf;refine aa ?_;refine ap hbf (.pv _ .nil) ?_;by_cases hb:4194300<b.length
 ·simp only[if_pos hb];refine aa ?_;refine am rfl ?_;refine aa ?_;refine ac (.move rfl (.pv _ .nil)) rfl
 simp only[if_neg hb];have hfit:=aae (n:=b.length) (by omega)
 have hk8:=Vw b.length;have hpp:N0 b=iy b.length 4++b++z01 (xm (Qy b.length)-(b.length+4)) 0:=rfl;have hsf:=Et (Qy b.length:Int);rw[zx hk8]at hsf;have hsl:=H4 (Qy b.length) (by omega)
 rw[hpp];generalize xm (Qy b.length)=sz at*;have l4:=gv b.length 4;have ha:bytes (iy b.length 4)++bytes b=bytes (iy b.length 4++b):=bx _ _;have el:IntKind.u64.wrap (b.length:Int)=(b.length:Int):=ay (by omega)
 have r1:(4+b.length≤aw)=True:=eq_true (by omega)
 have hll:(iy b.length 4++b).length=b.length+4:=by rw[z00,l4];omega
 refine aa ?_;refine ae rfl ?_;refine aa ?_ (by simp only[go_sem,↓reduceIte,el]<;>rfl)
 refine av (args:=[.pv (.int .u64 b.length),.pv (.int .i64 ((4:Nat):Int))]) (fun _=>0) (jo b.length 4 (by omega) (by decide)) (.pv _ (.pv _ .nil)) ?_
 generalize hX:iy b.length 4++b=X at*;refine aa ?_ (by simp only[go_sem,↓reduceIte,ba,l4,ha,r1]<;>rfl)
 refine ap hsf (.pv _ .nil) ?_;have ws:IntKind.i64.wrap ((sz:Int)-((b.length+4:Nat):Int))=((sz-(b.length+4):Nat):Int):=by rw[an (by omega) (by omega)];omega
 have hxs:bytes X++z01 (sz-(b.length+4)) (.int .u8 0)=bytes (X++z01 (sz-(b.length+4)) 0):=by
  rw[←bx];congr 1;unfold bytes;rw[List.map_replicate];rfl
 refine aa ?_ (by simp only[go_sem,↓reduceIte,ba,hll,ws]<;>rfl)
 refine AW.appendZ (x:= .tmp 22) (y:= .tmp 27) (p:= .slot 6) (xs:=bytes X) (n:=sz-(b.length+4)) (zp:= .int .u8 0) (by simp only[go_sem,↓reduceIte]<;>rfl) (by simp only[go_sem,↓reduceIte]<;>rfl) (by simp only[go_sem,↓reduceIte]<;>rfl) s9 arw aru (by decide) (by rw[ba];omega) (by rw[ba];omega) ?_
 rw[hxs];refine aa ?_;refine ac (.move rfl (.pv _ .nil)) rfl
def nk(bc:List (List UInt8))(e:je):List (List UInt8):=if e.1∈bc then bc else bc++[e.1]
def Lg(es:List je):List (List UInt8):=es.foldl nk []
theorem aim{es:List je}{i:Nat}{e:je}(h:es[i]?=some e):Lg (es.take (i+1))=nk (Lg (es.take i)) e:=by
 unfold Lg;rw[z12,h];simp
theorem P7{bc:List (List UInt8)}{e:je}(h:bc.Nodup):(nk bc e).Nodup:=by
 unfold nk;split
 ·exact h
 ·rename_i hn;rw[List.nodup_append];refine⟨h,by simp, ?_⟩
  intro a ha b hb;simp at hb;subst hb
  intro e2;subst e2;exact hn ha
theorem Mo:∀(es:List je) (bc:List (List UInt8)),bc.Nodup→(es.foldl nk bc).Nodup
 |[],bc,h=>h
 |e::r,bc,h=>Mo r _ (P7 h)
theorem Mn(es:List je):(Lg es).Nodup:=Mo es [] (by simp)
theorem Zs:∀(es:List je) (bc:List (List UInt8)),(es.foldl nk bc).length≤bc.length+es.length
 |[],bc=>by simp
 |e::r,bc=>by
  have:=Zs r (nk bc e);have h2:(nk bc e).length≤bc.length+1:=by unfold nk;split<;>simp
  simp only[z09,z02];omega
theorem vv(es:List je):(Lg es).length≤es.length:=by have:=Zs es [];simpa[Lg]using this
theorem Zr:∀(es:List je) (bc:List (List UInt8)) (s:List UInt8),s∈es.foldl nk bc↔s∈bc∨∃e∈es,e.1=s
 |[],bc,s=>by simp
 |e::r,bc,s=>by
  simp only[z09];rw[Zr r];have h1:s∈nk bc e↔s∈bc∨e.1=s:=by
   unfold nk;split
   ·rename_i h;constructor
    ·exact .inl
    ·rintro(h1|rfl)
     ·exact h1
     ·exact h
   ·simp[eq_comm]
  rw[h1];simp only[z05,exists_eq_or_imp];exact or_assoc
theorem Zq(es:List je)(s:List UInt8):s∈Lg es↔∃e∈es,e.1=s:=by
 unfold Lg;rw[Zr];simp
def iw(es:List je):List (List UInt8):=j6 (Lg es)
theorem Bg(ss:List (List UInt8)):(j6 ss).Perm ss:=List.mergeSort_perm ss _
theorem Bt(es:List je):(iw es).Nodup:=(Bg _).nodup_iff.2 (Mn es)
theorem yw(es:List je):(iw es).length=(Lg es).length:=Es _
theorem nr(es:List je)(s:List UInt8):s∈iw es↔∃e∈es,e.1=s:=by
 unfold iw;rw[(Bg _).mem_iff,Zq]
def Hd(f:List UInt8→Nat)(ds:List (List UInt8)):List (PV×PV):=ds.map fun s=>(.str s,.int .i64 (f s:Int))
theorem Mr(f:List UInt8→Nat)(t:List UInt8):∀ds,As (.str t) (Hd f ds)=some (if t∈ds then some (.int .i64 (f t:Int))else none)
 |[]=>rfl
 |s::r=>by
  have hc:Hd f (s::r)=(.str s,.int .i64 (f s:Int))::Hd f r:=rfl;rw[hc];simp only[As,At];by_cases h:t=s
  ·subst h;simp
  ·have h1:(t==s)=false:=by simpa using h
   rw[h1,Mr f t r];simp[h]
theorem Rz(f:List UInt8→Nat)(t:List UInt8)(v:PV):∀ds,t∉ds→Kx (.str t) v (Hd f ds)=some (Hd f ds++[(.str t,v)])
 |[],_=>rfl
 |s::r,h=>by
  have hc:Hd f (s::r)=(.str s,.int .i64 (f s:Int))::Hd f r:=rfl;have h1:(t==s)=false:=by simp at h⊢;exact h.1
  rw[hc];simp only[Kx,At,h1];rw[Rz f t v r (by simp at h;exact h.2)]
  rfl
theorem aiq(f:List UInt8→Nat)(t:List UInt8)(ds:List (List UInt8))(h:t∉ds):Kx (.str t) (.int .i64 (f t:Int)) (Hd f ds)=some (Hd f (ds++[t])):=by
 rw[Rz f t _ ds h];simp[Hd]
theorem ada{f g:List UInt8→Nat}{ds:List (List UInt8)}(h:∀s∈ds,f s=g s):Hd f ds=Hd g ds:=by
 unfold Hd;refine List.map_congr_left (fun s hs=>by rw[h s hs])
theorem Ry(f:List UInt8→Nat)(t:List UInt8)(v:Nat):∀ds,t∈ds→ds.Nodup→Kx (.str t) (.int .i64 (v:Int)) (Hd f ds)=some (Hd (fun s=>if s=t then v else f s) ds)
 |[],h,_=>by cases h
 |s::r,h,hn=>by
  have hc:∀g:List UInt8→Nat,Hd g (s::r)=(.str s,.int .i64 (g s:Int))::Hd g r:=fun _=>rfl
  rw[List.nodup_cons]at hn;rw[hc,hc];simp only[Kx,At];by_cases hts:t=s
  ·subst hts;have h1:(t==t)=true:=by simp
   rw[h1];simp only[if_true];have h4:Hd (fun s=>if s=t then v else f s) r=Hd f r:=ada (fun x hx=>by
    have hne:¬x=t:=fun e=>hn.1 (by rw[←e];exact hx)
    simp only[if_neg hne])
   rw[h4]
  ·have h1:(t==s)=false:=by simpa using hts
   have h2:t∈r:=by
    rcases z05.1 h with h|h
    ·exact absurd h hts
    ·exact h
   rw[h1];simp only;rw[Ry f t v r h2 hn.2];have h3:(if s=t then v else f s)=f s:=if_neg (fun e=>hts e.symm)
   simp only[afm,h3]
def Kv(l:List (List UInt8))(k:Nat)(s:List UInt8):Nat:=if l.idxOf s<k then l.idxOf s else 0
theorem aAh(l:List (List UInt8)):Kv l 0=fun _=>0:=by funext s;simp[Kv]
theorem acj{l:List (List UInt8)}(hn:l.Nodup){k:Nat}{t:List UInt8}(h:l[k]?=some t):(fun s=>if s=t then k else Kv l k s)=Kv l (k+1):=by
 have hk:k<l.length:=(z03.1 h).1;have ht:l[k]=t:=(z03.1 h).2
 funext s
 show(if s=t then k else Kv l k s)=Kv l (k+1) s
 unfold Kv;by_cases hs:s=t
 ·have hi:l.idxOf s=k:=by rw[hs,←ht];exact List.Nodup.idxOf_getElem hn k hk
  rw[if_pos hs,hi,if_pos (by omega)]
 ·rw[if_neg hs];have hne:l.idxOf s≠k:=by
   intro e;have hlt:l.idxOf s<l.length:=by omega
   have:=List.getElem_idxOf hlt;apply hs
   rw[←ht,←this]
   congr 1
  by_cases hlt:l.idxOf s<k
  ·rw[if_pos hlt,if_pos (by omega)]
  ·rw[if_neg hlt,if_neg (by omega)]
theorem pf{ss:List (List UInt8)}{i:Nat}{t:List UInt8}(h:ss[i]?=some t):(c6 ss)[i]?=some (.str t):=by
 unfold c6;rw[z22,h];rfl
theorem Ep(ss:List (List UInt8))(t:List UInt8):c6 ss++[.str t]=c6 (ss++[t]):=by simp[c6]
theorem ad9(ss:List (List UInt8)):vg (c6 ss)=true:=by
 induction ss with
 |nil=>rfl
 |cons a l ih=>simpa[c6,vg,PV.clo]using ih
attribute [go_sem] cy ad9
def Hw(m:Man):List Nat:=[67,83,75,49]++iy m.v 8++m.prev
def jr(s:List UInt8):List Nat:=cg s.length++nb s
def n7(ns:List (List UInt8))(e:je):List Nat:=cg (ns.idxOf e.1)++[e.2.toNat]
def dc(m:Man):List Nat:=Hw m++cg (iw m.es).length++(iw m.es).flatMap jr++cg m.es.length++m.es.flatMap (n7 (iw m.es))++m.root
def tw(m:Man):List Nat×Nat:=if fm m≠0 then([],fm m)else(dc m,0)
theorem jt{m:Man}(h:fm m=0):m.v≠18446744073709551615∧m.prev.length=32∧m.root.length=32∧(∀e∈m.es,0≤e.2∧e.2≤8)∧m.es.length≤1048576∧∀e∈m.es,e.1.length≤64:=by
 unfold fm at h;split at h
 ·cases h
 ·rename_i h1;split at h
  ·cases h
  ·rename_i h2;split at h
   ·cases h
   ·rename_i h3;refine⟨by omega,by omega,by omega,fun e he=> ?_,by omega,fun e he=> ?_⟩
    ·have:Hi e=false:=by
      cases hb:Hi e with
      |false=>rfl
      |true=>exact absurd (z23.2 ⟨e,he,hb⟩) h2
     unfold Hi at this;have h5:c9 e.2≠0:=by simpa using this
     rw[Ne,wo]at h5;omega
    ·have:uf e=false:=by
      cases hb:uf e with
      |false=>rfl
      |true=>exact absurd (.inr (z23.2 ⟨e,he,hb⟩)) h3
     unfold uf at this;have:=of_decide_eq_false this;omega
theorem jz{α:Type}(f:α→List Nat)(c:Nat):∀(l:List α),(∀x∈l,(f x).length≤c)→(l.flatMap f).length≤c*l.length
 |[],_=>by simp
 |x::r,h=>by
  have h1:=h x (by simp)
  have h2:=jz f c r (fun y hy=>h y (by simp[hy]))
  simp only[List.flatMap_cons,z00,z02,Nat.mul_succ];omega
theorem Dz{α:Type}(f:α→List Nat){l:List α}{i:Nat}{x:α}(h:l[i]?=some x):(l.take (i+1)).flatMap f=(l.take i).flatMap f++f x:=by
 rw[z12,h,List.flatMap_append];simp
theorem ut(s:List UInt8)(h:s.length≤64):(jr s).length≤74:=by
 have:=bn (v:=s.length) (by omega)
 simp only[jr,z00,Eh];omega
theorem aga(ns:List (List UInt8))(s:List UInt8):ns.idxOf s≤ns.length:=List.idxOf_le_length
theorem Dg(ns:List (List UInt8))(e:je)(h:ns.length<2^63):(n7 ns e).length≤11:=by
 have h1:=aga ns e.1;have:=bn (v:=ns.idxOf e.1) (by omega)
 simp only[n7,z00,z19];omega
def rn(s:List UInt8):List (List UInt8)→List (List UInt8)
 |[]=> [s]
 |a::r=>if a<s then a::rn s r else if a=s then a::r else s::a::r
def tnS(es:List je):List (List UInt8):=es.foldl (fun bc e=>rn e.1 bc) []
theorem ahf{es:List je}{i:Nat}{e:je}(h:es[i]?=some e):tnS (es.take (i+1))=rn e.1 (tnS (es.take i)):=by
 unfold tnS;rw[z12,h];simp
theorem I7(s t:List UInt8):∀ls,t∈rn s ls↔t=s∨t∈ls
 |[]=>by simp[rn]
 |a::r=>by
  unfold rn;split
  ·rw[z05,I7 s t r,z05];constructor
   ·rintro(h|h|h)
    ·exact .inr (.inl h)
    ·exact .inl h
    ·exact .inr (.inr h)
   ·rintro(h|h|h)
    ·exact .inr (.inl h)
    ·exact .inl h
    ·exact .inr (.inr h)
  ·split
   ·rename_i h1 h2;subst h2;simp
   ·simp
theorem Sc(s:List UInt8):∀ls,(rn s ls).length≤ls.length+1
 |[]=>by simp[rn]
 |a::r=>by
  have:=Sc s r;unfold rn;split
  ·simp only[z02];omega
  ·split<;>simp
theorem F5{a b:List UInt8}(h:a≤b)(hn:a≠b):a<b:=by
 refine Classical.byContradiction (fun h2=>hn ?_)
 exact List.le_antisymm h (z28.1 h2)
theorem F8(s:List UInt8):∀ls,ls.Pairwise (· < ·)→(rn s ls).Pairwise (· < ·)
 |[],_=>by simp[rn]
 |a::r,h=>by
  rw[z04]at h;unfold rn;split
  ·rename_i h1;rw[z04];refine⟨fun b hb=> ?_,F8 s r h.2⟩
   rcases(I7 s b r).1 hb with rfl|hb
   ·exact h1
   ·exact h.1 b hb
  ·split
   ·exact z04.2 h
   ·rename_i h1 h2;have hs:s<a:=F5 (z28.1 h1) (fun e=>h2 e.symm)
    rw[z04];refine⟨fun b hb=> ?_,z04.2 h⟩
    rcases z05.1 hb with rfl|hb
    ·exact hs
    ·exact z26 hs (h.1 b hb)
theorem O9(s:List UInt8):∀(ls:List (List UInt8)) (j:Nat),j≤ls.length→(∀a∈ls.take j,a<s)→(∀a,ls[j]?=some a→¬a<s)→rn s ls=if ls[j]?=some s then ls else ls.take j++s::ls.drop j
 |[],j,hj,h1,h2=>by
  have:j=0:=by simpa using hj
  subst this;simp[rn]
 |a::r,0,hj,h1,h2=>by
  have:=h2 a rfl;unfold rn;rw[if_neg this];simp
 |a::r,j+1,hj,h1,h2=>by
  have h3:a<s:=h1 a (by simp)
  unfold rn;rw[if_pos h3,O9 s r j (by simpa using hj) (fun b hb=>h1 b (by simp[hb])) (fun b hb=>h2 b (by simpa using hb))]
  simp only[List.getElem?_cons_succ,List.take_succ_cons,List.drop_succ_cons,List.cons_append];split<;>rfl
theorem Jk:∀(es:List je) (bc:List (List UInt8)),bc.Pairwise (· < ·)→(es.foldl (fun bc e=>rn e.1 bc) bc).Pairwise (· < ·)
 |[],_,h=>h
 |e::r,_,h=>Jk r _ (F8 e.1 _ h)
theorem Jj(es:List je):(tnS es).Pairwise (· < ·):=Jk es [] (by simp)
theorem Y8(s:List UInt8):∀(es:List je) (bc:List (List UInt8)),s∈es.foldl (fun bc e=>rn e.1 bc) bc↔s∈bc∨∃e∈es,e.1=s
 |[],bc=>by simp
 |e::r,bc=>by
  simp only[z09];rw[Y8 s r,I7];simp only[z05,exists_eq_or_imp];constructor
  ·rintro((h|h)|h)
   ·exact .inr (.inl h.symm)
   ·exact .inl h
   ·exact .inr (.inr h)
  ·rintro(h|h|h)
   ·exact .inl (.inr h)
   ·exact .inl (.inl h.symm)
   ·exact .inr h
theorem aoy(es:List je)(s:List UInt8):s∈tnS es↔∃e∈es,e.1=s:=by
 unfold tnS;rw[Y8];simp
theorem Y9:∀(es:List je) (bc:List (List UInt8)),(es.foldl (fun bc e=>rn e.1 bc) bc).length≤bc.length+es.length
 |[],bc=>by simp
 |e::r,bc=>by
  have:=Y9 r (rn e.1 bc);have h2:=Sc e.1 bc;simp only[z09,z02];omega
theorem aoz(es:List je):(tnS es).length≤es.length:=by have:=Y9 es [];simpa[tnS]using this
theorem Bf{l m:List (List UInt8)}(hl:l.Pairwise (· < ·))(hm:m.Pairwise (· < ·))(h:∀x,x∈l↔x∈m):l=m:=by
 have n1:l.Nodup:=hl.imp (fun {a b} h e=>by subst e;exact z18 a h)
 have n2:m.Nodup:=hm.imp (fun {a b} h e=>by subst e;exact z18 a h)
 have hp:l.Perm m:=(List.perm_ext_iff_of_nodup n1 n2).2 h;exact List.Perm.eq_of_pairwise (fun a b _ _ h1 h2=>absurd (z26 h1 h2) (z18 a)) hl hm hp
theorem pp(es:List je):(iw es).Pairwise (· < ·):=by
 have h1:(iw es).Pairwise (fun a b=>decide (a≤b)=true):=List.pairwise_mergeSort (fun a b c h1 h2=>by simp only[decide_eq_true_eq]at*;exact List.le_trans h1 h2) (fun a b=>by
  rcases List.le_total a b with h|h
  ·simp[h]
  ·simp[h]) _
 have h2:=Bt es;have h3:=h1.and h2;exact h3.imp (fun {a b} h=>F5 (by simpa using h.1) h.2)
theorem ao0(es:List je):tnS es=iw es:=Bf (Jj es) (pp es) (fun x=>by rw[aoy,nr])
theorem aAz{ls:List (List UInt8)}{s:List UInt8}{i:Nat}(h:ls[i]?=some s)(hn:s∉ls.take i):ls.idxOf s=i:=by
 have hi:i<ls.length:=(z03.1 h).1;have e1:ls=ls.take i++s::ls.drop (i+1):=by
  rw[←(z03.1 h).2,List.getElem_cons_drop,List.take_append_drop]
 rw[e1,List.idxOf_append,if_neg hn];simp;omega
def ft(q:List Nat):Nat×Int×List Nat:=
 if(a6 q).2.2≠0 then(0,(a6 q).2.2,q.drop (a6 q).2.1)else if 1048576<(a6 q).1 then(0,4,q.drop (a6 q).2.1)else((a6 q).1,0,q.drop (a6 q).2.1)
def Fq(bc:List (List UInt8))(t:List UInt8):Bool:=match bc.getLast? with
 |some l=>decide (l<t)
 |none=>true
def D4:Nat→List (List UInt8)→List Nat→List (List UInt8)×Int×List Nat
 |0,bc,q=>(bc,0,q)
 |n+1,bc,q=>if(blk q 64).2.1≠0 then([],(blk q 64).2.1,(blk q 64).2.2)else if Fq bc (ub (blk q 64).1)=true then D4 n (bc++[ub (blk q 64).1]) (blk q 64).2.2 else([],3,(blk q 64).2.2)
def ed(q:List Nat):List (List UInt8)×Int×List Nat:=if(ft q).2.1≠0 then([],(ft q).2)else D4 (ft q).1 [] (ft q).2.2
def rp(t:List UInt8)(x:Nat):je:=(t,(x:Int))
def D3(ts:List (List UInt8)):Nat→List je→List Nat→List je×Int×List Nat
 |0,bc,q=>(bc,0,q)
 |n+1,bc,q=>if(a6 q).2.2≠0 then([],(a6 q).2.2,q.drop (a6 q).2.1)else if ts.length≤(a6 q).1 then([],3,q.drop (a6 q).2.1)
  else if(q.drop (a6 q).2.1).length<1 then([],2,q.drop (a6 q).2.1)else if 8<(q.drop (a6 q).2.1).headD 0 then([],3,(q.drop (a6 q).2.1).drop 1)
  else D3 ts n (bc++[rp (ts.getD (a6 q).1 []) ((q.drop (a6 q).2.1).headD 0)]) ((q.drop (a6 q).2.1).drop 1)
def fc(ts:List (List UInt8))(q:List Nat):List je×Int×List Nat:=if(ft q).2.1≠0 then([],(ft q).2)else D3 ts (ft q).1 [] (ft q).2.2
def Fr(e:Int):Man×Int:=(⟨0,[],[],[]⟩,e)
def Av(v:Nat)(p:List Nat)(ts:List (List UInt8))(es:List je)(q:List Nat):Man×Int:=
 if q.length<32 then Fr 2 else if q.drop 32≠ []then Fr 3 else if(iw es).length≠ts.length then Fr 3 else(⟨v,p,es,q.take 32⟩,0)
def Aw(v:Nat)(p:List Nat)(ts:List (List UInt8))(q:List Nat):Man×Int:=if(fc ts q).2.1≠0 then Fr (fc ts q).2.1 else Av v p ts (fc ts q).1 (fc ts q).2.2
def yg(v:Nat)(p:List Nat)(q:List Nat):Man×Int:=if(ed q).2.1≠0 then Fr (ed q).2.1 else Aw v p (ed q).1 (ed q).2.2
def xo(v:Nat)(q:List Nat):Man×Int:=if q.length<32 then Fr 2 else yg v (q.take 32) (q.drop 32)
def te(q:List Nat):Man×Int:=if q.length<8 then Fr 2 else if u7 (q.take 8)=18446744073709551615 then Fr 3 else xo (u7 (q.take 8)) (q.drop 8)
def kz(b:List Nat):Man×Int:=if b.length<4 then Fr 2 else if b.take 4≠ [67,83,75,49]then Fr 3 else te (b.drop 4)
theorem lg{q:List Nat}(h:∀x∈q,x<256):∀x∈(ft q).2.2,x<256:=by
 have:(ft q).2.2=q.drop (a6 q).2.1:=by unfold ft;split;rfl;split<;>rfl
 rw[this];exact fun x hx=>h x (z11 hx)
theorem uo(q:List Nat):(ft q).2.2.length≤q.length:=by
 have:(ft q).2.2=q.drop (a6 q).2.1:=by unfold ft;split;rfl;split<;>rfl
 rw[this,z07];omega
theorem G9(q:List Nat):(ft q).1≤1048576:=by
 unfold ft;split
 ·exact z06 _
 ·split
  ·exact z06 _
  ·simp only;omega
theorem Rc:∀(n:Nat) (bc:List (List UInt8)) (q:List Nat),(∀x∈q,x<256)→∀x∈(D4 n bc q).2.2,x<256
 |0,bc,q,h=>h
 |n+1,bc,q,h=>by
  obtain⟨h1,h2,h3,h4⟩:=j8 (m:=64) h;unfold D4;split
  ·exact h2
  ·split
   ·exact Rc n _ _ h2
   ·exact h2
theorem Za:∀(n:Nat) (bc:List (List UInt8)) (q:List Nat),(∀x∈q,x<256)→(D4 n bc q).2.2.length≤q.length
 |0,bc,q,h=>z16 _
 |n+1,bc,q,h=>by
  obtain⟨h1,h2,h3,h4⟩:=j8 (m:=64) h;unfold D4;split
  ·simp only;omega
  ·split
   ·exact z14 (Za n _ _ h2) (by omega)
   ·simp only;omega
theorem aqy:∀(n:Nat) (bc:List (List UInt8)) (q:List Nat),(D4 n bc q).1.length≤bc.length+n
 |0,bc,q=>by simp[D4]
 |n+1,bc,q=>by
  unfold D4;split
  ·simp
  ·split
   ·have:=aqy n (bc++[ub (blk q 64).1]) (blk q 64).2.2;simp at this;omega
   ·simp
theorem Be{q:List Nat}(h:∀x∈q,x<256):∀x∈(ed q).2.2,x<256:=by
 unfold ed;split
 ·exact lg h
 ·exact Rc _ _ _ (lg h)
theorem abi{q:List Nat}(h:∀x∈q,x<256):(ed q).2.2.length≤q.length:=by
 unfold ed;split
 ·exact uo q
 ·exact z14 (Za _ _ _ (lg h)) (uo q)
theorem ao1(q:List Nat):(ed q).1.length≤1048576:=by
 unfold ed;split
 ·simp
 ·have:=aqy (ft q).1 [] (ft q).2.2;have:=G9 q;simp at*;omega
theorem Sq(ts:List (List UInt8)):∀(n:Nat) (bc:List je) (q:List Nat),(∀x∈q,x<256)→∀x∈(D3 ts n bc q).2.2,x<256
 |0,bc,q,h=>h
 |n+1,bc,q,h=>by
  have h2:∀x∈q.drop (a6 q).2.1,x<256:=fun x hx=>h x (z11 hx)
  have h3:∀x∈(q.drop (a6 q).2.1).drop 1,x<256:=fun x hx=>h2 x (z11 hx)
  unfold D3;split
  ·exact h2
  ·split
   ·exact h2
   ·split
    ·exact h2
    ·split
     ·exact h3
     ·exact Sq ts n _ _ h3
theorem Z5(ts:List (List UInt8)):∀(n:Nat) (bc:List je) (q:List Nat),(D3 ts n bc q).2.2.length≤q.length
 |0,bc,q=>z16 _
 |n+1,bc,q=>by
  have h2:(q.drop (a6 q).2.1).length≤q.length:=by rw[z07];omega
  have h3:((q.drop (a6 q).2.1).drop 1).length≤q.length:=by rw[z07];omega
  unfold D3;split
  ·exact h2
  ·split
   ·exact h2
   ·split
    ·exact h2
    ·split
     ·exact h3
     ·exact z14 (Z5 ts n _ _) h3
theorem are(ts:List (List UInt8)):∀(n:Nat) (bc:List je) (q:List Nat),(D3 ts n bc q).1.length≤bc.length+n
 |0,bc,q=>by simp[D3]
 |n+1,bc,q=>by
  unfold D3;split
  ·simp
  ·split
   ·simp
   ·split
    ·simp
    ·split
     ·simp
     ·have:=are ts n (bc++[rp (ts.getD (a6 q).1 []) ((q.drop (a6 q).2.1).headD 0)]) ((q.drop (a6 q).2.1).drop 1);rw[z00,z19]at this;omega
theorem Xi(ts:List (List UInt8)){q:List Nat}(h:∀x∈q,x<256):∀x∈(fc ts q).2.2,x<256:=by
 unfold fc;split
 ·exact lg h
 ·exact Sq ts _ _ _ (lg h)
theorem adx(ts:List (List UInt8))(q:List Nat):(fc ts q).2.2.length≤q.length:=by
 unfold fc;split
 ·exact uo q
 ·exact z14 (Z5 _ _ _ _) (uo q)
theorem Z4(ts:List (List UInt8))(q:List Nat):(fc ts q).1.length≤1048576:=by
 unfold fc;split
 ·simp
 ·have:=are ts (ft q).1 [] (ft q).2.2;have:=G9 q;simp at*;omega
theorem C9{bc:List (List UInt8)}{l:List UInt8}(t:List UInt8)(h:bc.getLast?=some l):Fq bc t=decide (l<t):=by unfold Fq;rw[h]
def rv(key:List Nat)(m:Man):List Nat×Int:=
 if(dk key 4 []).2≠0 then([],((dk key 4 []).2:Int))else if(tw m).2≠0 then([],((tw m).2:Int))else((tw m).1++pz (dk key 4 []).1 (tw m).1,0)
theorem aeg(m:Man)(h:fm m=0)(hv:m.v<2^64):(dc m).length≤2^28∧0<(dc m).length:=by
 obtain⟨w1,w2,w3,w4,w5,w6⟩:=jt h;have hnl:(iw m.es).length≤m.es.length:=by rw[yw];exact vv _
 have hn64:∀s∈iw m.es,s.length≤64:=by
  intro s hs;obtain⟨e,he,rfl⟩:=(nr m.es s).1 hs;exact w6 e he
 have h1:=jz jr 74 (iw m.es) (fun s hs=>ut s (hn64 s hs))
 have h2:=jz (n7 (iw m.es)) 11 m.es (fun s hs=>Dg _ s (by omega))
 have l1:=bn (v:=(iw m.es).length) (by omega)
 have l2:=bn (v:=m.es.length) (by omega)
 have hb:=gv m.v 8;simp only[dc,Hw,z00,z02,z17];omega
theorem So(m:Man)(hv:m.v<2^64):(tw m).1.length≤2^28:=by
 unfold tw;split
 ·simp
 ·rename_i h;exact(aeg m (by simpa using h) hv).1
def br(b:List Nat):List Nat:=Gi (0::b)
def kf(l r:List Nat):List Nat:=Gi (1::l++r)
def co(n:Nat):Nat:=if n≤2 then 1 else 2*co ((n+1)/2)
termination_by n
decreasing_by omega
theorem oq{n:Nat}(h:n≤2):co n=1:=by unfold co;rw[if_pos h]
theorem De{n:Nat}(h:2<n):co n=2*co ((n+1)/2):=by conv=>lhs;unfold co;rw[if_neg (by omega)]
theorem fq(n:Nat):0<co n:=by
 induction n using z10 with
 |_ n ih=>
  by_cases h:n≤2
  ·rw[oq h];decide
  ·rw[De (by omega)];have:=ih ((n+1)/2) (by omega);omega
theorem iv{n:Nat}(h:2≤n):co n<n:=by
 induction n using z10 with
 |_ n ih=>
  by_cases h2:n≤2
  ·rw[oq h2];omega
  ·rw[De (by omega)]
   have:=ih ((n+1)/2) (by omega) (by omega)
   omega
theorem Pb{n:Nat}(h:1≤n):n≤2*co n:=by
 induction n using z10 with
 |_ n ih=>
  by_cases h2:n≤2
  ·rw[oq h2];omega
  ·rw[De (by omega)]
   have:=ih ((n+1)/2) (by omega) (by omega)
   omega
theorem I8(n:Nat):∃k,co n=2^k:=by
 induction n using z10 with
 |_ n ih=>
  by_cases h2:n≤2
  ·exact⟨0,by rw[oq h2,Nat.pow_zero]⟩
  ·obtain⟨k,hk⟩:=ih ((n+1)/2) (by omega)
   exact⟨k+1,by rw[De (by omega),hk,z08];omega⟩
theorem Wp{a b n:Nat}(h1:2^a<n)(h2:n≤2*2^a)(h3:2^b<n)(h4:n≤2*2^b):a=b:=by
 rcases Nat.lt_trichotomy a b with h|h|h
 ·have:2^ (a+1)≤2^b:=z21 (by omega) h
  rw[z08]at this;omega
 ·exact h
 ·have:2^ (b+1)≤2^a:=z21 (by omega) h
  rw[z08]at this;omega
theorem rk{n k:Nat}(h:2≤n)(h1:2^k<n)(h2:n≤2*2^k):co n=2^k:=by
 obtain⟨a,ha⟩:=I8 n;have h3:=iv h;have h4:=Pb (n:=n) (by omega)
 rw[ha]at h3 h4⊢;rw[Wp h3 h4 h1 h2]
def mroot(l:List (List Nat)):List Nat:=
 if h:l.length<2 then(match l with|[]=>Gi []|x::_=>x)
 else kf (mroot (l.take (co l.length))) (mroot (l.drop (co l.length)))
termination_by l.length
decreasing_by
 ·rw[z15];have:=iv (n:=l.length) (by omega);omega
 ·rw[z07];have:=fq l.length;omega
theorem rj:mroot []=Gi []:=by unfold mroot;rfl
theorem og(x:List Nat):mroot [x]=x:=by unfold mroot;rfl
theorem oh{l:List (List Nat)}(h:2≤l.length):mroot l=kf (mroot (l.take (co l.length))) (mroot (l.drop (co l.length))):=by
 conv=>lhs;unfold mroot
 rw[dif_neg (by omega)]
def gt(l:List (List Nat))(i j lo hi:Nat):List (List Nat):=
 if i≤lo∧hi≤j+1 then []else if j<lo∨hi≤i then [mroot ((l.drop lo).take (hi-lo))]
 else if h:hi≤lo+1 then []else gt l i j lo (lo+co (hi-lo))++gt l i j (lo+co (hi-lo)) hi
termination_by hi-lo
decreasing_by
 ·have:=iv (n:=hi-lo) (by omega);omega
 ·have:=fq (hi-lo);omega
def cu(l:List (List Nat))(i j:Int):List (List Nat)×Int:=
 if i<0∨j<i∨(l.length:Int)≤j then([],1)else(gt l i.toNat j.toNat 0 l.length,0)
def lt(ls:List (List Nat))(i j lo hi:Nat)(ps:List (List Nat)):Option (List Nat×List (List Nat)):=
 if j<lo∨hi≤i then(match ps with|[]=>none|p::r=>some (p,r))
 else if i≤lo∧hi≤j+1 then some (mroot ((ls.drop (lo-i)).take (hi-lo)),ps)
 else if h:hi≤lo+1 then some ([],ps)
 else match lt ls i j lo (lo+co (hi-lo)) ps with
  |none=>none
  |some (l,r1)=>(match lt ls i j (lo+co (hi-lo)) hi r1 with
   |none=>none
   |some (r,r2)=>some (kf l r,r2))
termination_by hi-lo
decreasing_by
 ·have:=iv (n:=hi-lo) (by omega);omega
 ·have:=fq (hi-lo);omega
def gm(n:Int)(i:Int)(ls ps:List (List Nat)):List Nat×Int:=
 if n<1∨1048576<n∨ls=[]∨i<0∨n≤i∨n-i<ls.length then([],1)
 else match lt ls i.toNat (i.toNat+ls.length-1) 0 n.toNat ps with
  |some (r,[])=>(r,0)
  |_=>([],8)
def Ch(root:List Nat)(n i:Int)(ls ps:List (List Nat)):Bool:=(gm n i ls ps).2==0&&decide ((gm n i ls ps).1=root)
end Go.Ck
