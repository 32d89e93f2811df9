/- What is proved here: parts of the proofs of this seat's statements (a verified evaluator for calls over pure values, its laws, and contracts of functions). No condition. -/
import Derived.Test.YtmkoabmapmehdaaGreatDoorKzf
import Derived.Test.YtmkoabmapmehdaaGreatDoorKn
import Derived.Test.YtmkoabmapmehdaaGreatDoorKo
import Derived.Test.YtmkoabmapmehdaaGreatDoorKz
import Derived.Test.YtmkoabmapmehdaaGreatDoorKy
import Derived.Test.YtmkoabmapmehdaaGreatDoorKza
set_option linter.all false
open List renaming append_assoc→z00,take_of_length_le→z01,length_cons→z02,take_append_drop→z03,length_take→z04,take_append_of_le_length→z05,mem_of_mem_drop→z06,drop_append_of_le_length→z07,nil_append→z08,flatMap_cons→z09,getElem?_eq_getElem→z10,drop_of_length_le→z11,pairwise_append→z12,cons_append→z14,idxOf_lt_length_of_mem→z16,getD_eq_getElem?_getD→z17,mem_of_mem_take→z18,take_add_one→z20,getElem_mem→z21,any_eq_true→z22,mem_append→z25,length_nil→z26,append_nil→z27,drop_left→z29,mem_cons→z30
open Nat renaming zero_add→z13,zero_le→z15,le_refl→z19,mod_eq_of_lt→z24,mul_add_div→z28,zero_mul→z33,pow_succ→z34,mul_comm→z35,pow_pos→z36
open Int renaming toNat_natCast→z23
set_option maxRecDepth 10000
set_option maxHeartbeats 1000000
namespace Go.Ck
open Go.Proofs
theorem Tx(xs:List Int)(w:Int)(hr64:∀x∈xs,ql x):Fn Tryz.prog 120 [] [.pv (.sl 1 (j4 xs)),.pv (.int .i64 w)]
  (fun rs H'=>rs=[.own 5 (bytes (o8 xs w).1),.pv (.int .i64 (o8 xs w).2)]∧H'=[]):=by
 refine Fn.ob Tryz.f120 86 [.tmp 4,.tmp 5] fun C=> ?_
 have hr:aw=140737488355328:=rfl;unfold o8;by_cases hw:w<0∨5≤w
 ·rw[if_pos hw];by_cases h0:w<0
  ·have d0:decide (w<0)=true:=decide_eq_true h0;refine ak ?_ (by simp only[go_sem,↓reduceIte,d0]<;>rfl)
   refine am rfl ?_;refine aa ?_;refine ac (.move rfl (.pv _ .nil)) rfl
  ·have d0:decide (w<0)=false:=decide_eq_false h0;have d5:decide (w>4)=true:=decide_eq_true (by omega)
   have d5':decide (4<w)=true:=decide_eq_true (by omega)
   refine ak ?_ (by simp only[go_sem,↓reduceIte,d0,d5,d5']<;>rfl)
   refine am rfl ?_;refine aa ?_;refine ac (.move rfl (.pv _ .nil)) rfl
 rw[if_neg hw];obtain⟨t,rfl⟩:∃t:Nat,w=t:=⟨w.toNat,by omega⟩
 have ht:t<5:=by omega
 rw[z23];have d5:decide ((t:Int)>4)=false:=decide_eq_false (by omega)
 have d5':decide ((4:Int)<(t:Int))=false:=decide_eq_false (by omega)
 have d5'':decide (4<t)=false:=decide_eq_false (by omega)
 refine ak ?_ (by simp only[go_sem,↓reduceIte,d5,d5',d5'']<;>rfl)
 refine ae rfl ?_;refine aa ?_;refine AW.cond rfl (fun hc=> ?_) (fun hc=> ?_)
 ·have hl:65536<xs.length:=by simp at hc;omega
  rw[if_pos hl];refine aa ?_;refine ac (.move rfl (.pv _ .nil)) rfl
 have hl:¬65536<xs.length:=by simp at hc;omega
 rw[if_neg hl];refine aa ?_;refine AW.cond rfl (fun hc=> ?_) (fun hc=> ?_)
 ·have h0:xs=[]:=by
   have:xs.length=0:=by simpa using hc
   exact List.length_eq_zero_iff.1 this
  rw[if_pos h0];refine aa ?_;refine ac (.move rfl (.pv _ .nil)) rfl
 have h0:¬xs=[]:=by rintro rfl;simp at hc
 rw[if_neg h0];have hpos:0<xs.length:=by cases xs with|nil=>exact absurd rfl h0|cons a r=>simp
 unfold aau;refine aa ?_;refine AW.cond rfl (fun hc=> ?_) (fun hc=> ?_)
 ·have ht0:t=0:=by simpa using hc
  rw[if_pos ht0];refine aa ?_;refine aq (fun i:Nat=>⟨86,[(7,.pv (.int .i64 i)),(6,.own 5 (bytes (Gk (xs.take i)))),(0,.pv (.sl 1 (j4 xs)))],[]⟩) (fun i=>i≤xs.length) (fun i=>xs.length-i) [7,6,0] [] 0 (z15 _) ?_
  rintro i hi K hK;refine aa ?_;refine AW.cond rfl (fun hc2=> ?_) (fun hc2=> ?_)
  ·have hlt:i<xs.length:=by simpa using hc2
   have hget:=Sb hlt;have hti:xs.take (i+1)=xs.take i++[xs[i]]:=by simp
   have hll:=Iz (xs.take i);have hls:=ace (xs.take i) xs[i];rw[z04]at hll;rw[←hti]at hls;generalize xs[i]=x at*;have eu:=V2 x;have hu:=ahc x;generalize Hk x=u at*;have hb8:=gv u 8;have ei:IntKind.i64.wrap ((i:Int)+1)=((i+1:Nat):Int):=ai (by omega)
   have h1:(Gk (xs.take i)).length+(iy u 8).length≤aw:=by omega
   refine aa ?_ (by simp only[go_sem,↓reduceIte,hget,eu]<;>rfl)
   refine ap (jo u 8 hu (by omega)) (.pv _ (.pv _ .nil)) ?_
   refine aa ?_ (by simp only[go_sem,↓reduceIte,h1,←hls,ei]<;>rfl)
   refine ah hK (i+1) hlt (by omega)
  ·have hge:¬i<xs.length:=by simpa using hc2
   rw[z01 (by omega)]
   refine aa ?_;refine ac (.move rfl (.pv _ .nil)) rfl
 have ht0:¬t=0:=by simpa using hc
 rw[if_neg ht0];unfold zdI;have hdl:=Ac xs (oft t);have hdr:=Pj hr64 (oft t);have hD:=Js xs (by omega) (oft t) (aAl t)
 refine aa ?_;refine pi (fun _:Unit=>⟨86,[(8,.pv (.int .i64 (oft t:Nat))),(6,.own 5 (bytes [])),(1,.pv (.int .i64 t)),(0,.pv (.sl 1 (j4 xs)))],[]⟩) (fun _=>True) [8,6,1,0] [] ?_ ?_
 ·intro K hK;refine AW.cond rfl (fun hc2=> ?_) (fun hc2=> ?_)
  ·have h3:3≤t:=by simp at hc2;omega
   have ho:((oft t:Nat):Int)=2:=by unfold oft;rw[if_neg ht0,if_pos (by omega)];rfl
   refine aa ?_;refine jh hK () trivial (by simp only[go_sem,↓reduceIte]) (by simp only[go_sem,↓reduceIte,ho]<;>rfl)
  ·have h3:¬3≤t:=by simp at hc2;omega
   have ho:((oft t:Nat):Int)=1:=by unfold oft;rw[if_neg ht0,if_neg (by omega)];rfl
   refine aa ?_;refine jh hK () trivial (by simp only[go_sem,↓reduceIte]) (by simp only[go_sem,↓reduceIte,ho]<;>rfl)
 rintro _-;refine aa ?_;refine ap hD (.pv _ (.pv _ .nil)) ?_;refine bj (.part 49 0) ?_;generalize Cf xs (oft t)=d at*;refine aa ?_;refine ap (amb d (by omega) hdr) (.pv _ .nil) ?_
 have hzx:∀x∈d.map Qr,x<2^64:=by
  intro x hx;simp only[List.mem_map]at hx;obtain⟨y,hy,rfl⟩:=hx;exact aft (hdr y hy)
 have hml:(d.map Qr).length=d.length:=by simp
 generalize d.map Qr=zz at*;refine aa ?_;cases zz with
 |nil=>simp at hml;omega
 |cons z0 z=>
  have hz0:=hzx z0 (by simp)
  have hzt:∀x∈z,x<2^64:=fun x hx=>hzx x (by simp[hx])
  simp only[z02]at hml;have hg0:=Ly z0 z;have h10:=bn hz0;have hzd:(z0::z).tail=z:=rfl;have hzh:(z0::z).headD 0=z0:=rfl;unfold aku;refine AW.cond rfl (fun hc2=> ?_) (fun hc2=> ?_)
  ·have ht1:t=1:=by simp at hc2;omega
   have htail:ua z t=(Al z,0):=by unfold ua;rw[if_neg (by omega),if_neg (by omega),if_neg (by omega)]
   have hlz:cg z0++Al z=Al (z0::z):=(Mu z0 z).symm;rw[hzd,hzh,htail];simp only[ne_eq,not_true_eq_false,if_false,hlz];clear hg0 hzd hzh;have hzl:(z0::z).length≤65536:=by simp only[z02];omega
   generalize z0::z=q at*;refine aa ?_;refine aq (fun i:Nat=>⟨86,[(12,.pv (.int .i64 i)),(11,.own 24 (dw q)),(6,.own 5 (bytes (Al (q.take i))))],[]⟩) (fun i=>i≤q.length) (fun i=>q.length-i) [12,11,6] [] 0 (z15 _) ?_
   rintro i hi K hK;refine aa ?_;refine AW.cond rfl (fun hc3=> ?_) (fun hc3=> ?_)
   ·have hlt:i<q.length:=by simpa using hc3
    have hget:=gh hlt;have hti:q.take (i+1)=q.take i++[q[i]]:=by simp
    have hxx:=hzx _ (z21 hlt);have hll:=R5 (z:=q.take i) (fun x hx'=>hzx x (z18 hx'))
    have hls:=ade (q.take i) q[i];rw[z04]at hll;rw[←hti]at hls;generalize q[i]=x at*;have ei:IntKind.i64.wrap ((i:Int)+1)=((i+1:Nat):Int):=ai (by omega)
    refine aa ?_ (by simp only[go_sem,↓reduceIte,hget,hlt]<;>rfl)
    refine ap (cx (Al (q.take i)) x hxx (by omega)) (.lend rfl c7 (.pv _ .nil)) ?_
    refine aa ?_ (by simp only[go_sem,↓reduceIte,←hls,ei]<;>rfl)
    refine ah hK (i+1) hlt (by omega)
   ·have hge:¬i<q.length:=by simpa using hc3
    rw[z01 (by omega)]
    refine aa ?_;refine ac (.move rfl (.pv _ .nil)) rfl
  have ht1:¬t=1:=by simp at hc2;omega
  refine aa ?_ (by simp only[go_sem,↓reduceIte,hg0]<;>rfl)
  refine ap (cx [] z0 hz0 (by simp;omega)) (.nilsP 1 (.pv _ .nil)) ?_
  have v1:(1:Int)≤((z.length+1:Nat):Int):=by omega
  have v2:(((z.length+1:Nat):Int)-1).toNat=z.length:=by omega
  refine aa ?_ (by simp only[go_sem,↓reduceIte,z08,z02,v1,v2]<;>rfl)
  have v3:dw z=((dw (z0::z)).drop 1).take z.length:=by
   show dw z=(dw z).take z.length
   rw[z01 (by rw[Fv];exact z19 _)]
  refine ap (aia z t (by omega) (by omega) (by omega) hzt) (.lendV rfl rfl v3 (.pv _ .nil)) ?_
  rw[hzd,hzh];have htl:=L0 t hzt (by omega)
  generalize ua z t=r at*;obtain⟨rb,re⟩:=r;simp only at htl⊢;refine aa ?_;refine AW.cond rfl (fun hc3=> ?_) (fun hc3=> ?_)
  ·have he:re≠0:=by simpa using hc3
   simp only[if_pos he];refine aa ?_;refine ac (.move rfl (.pv _ .nil)) rfl
  ·have he:¬re≠0:=by simpa using hc3
   simp only[if_neg he];have h1:(cg z0).length+rb.length≤aw:=by omega
   refine aa ?_ (by simp only[go_sem,↓reduceIte,h1]<;>rfl)
   refine ac (.move rfl (.pv _ .nil)) rfl
def Ny(xs:List Int)(w:Nat):Int×List Nat:=if w=0 then(-1,[])else(((kg xs w).1:Nat),(kg xs w).2)
theorem aa7{xs:List Int}(h:¬65536<xs.length):(o8 xs 0).2=0:=by
 unfold o8;rw[if_neg (by omega),if_neg h]
 split
 ·rfl
 ·rfl
theorem Wk(xs:List Int)(hr64:∀x∈xs,ql x):Fn Tryz.prog 97 [] [.pv (.sl 1 (j4 xs))]
  (fun rs H'=>rs=[.own 5 (bytes (Am xs).1),.pv (.int .i64 (Am xs).2)]∧H'=[]):=by
 refine Fn.ob Tryz.f97 42 [.tmp 2,.tmp 3] fun C=> ?_
 have hr:aw=140737488355328:=rfl;unfold Am;refine aa ?_;refine AW.cond rfl (fun hc=> ?_) (fun hc=> ?_)
 ·have hl:65536<xs.length:=by simp at hc;omega
  simp only[if_pos hl];refine aa ?_;refine ac (.move rfl (.pv _ .nil)) rfl
 have hl:¬65536<xs.length:=by simp at hc;omega
 simp only[if_neg hl];have hinv:=Ah hr64;have hb1:=aej xs;have hz:=aa7 hl;refine aa ?_;refine bj (.slot 5) ?_;refine aq (fun w:Nat=>⟨42,[(6,.pv (.int .i64 w)),(4,.pv (.int .i64 (Ny xs w).1)),(5,.pv (.sl 1 (bytes (Ny xs w).2))),(0,.pv (.sl 1 (j4 xs)))],[]⟩) (fun w=>w≤5) (fun w=>5-w) [6,4,5,0] [] 0 (z15 _) ?_
 rintro w hw K hK;refine aa ?_;refine AW.cond rfl (fun hc2=> ?_) (fun hc2=> ?_)
 ·have hlt:w<5:=by simp at hc2;omega
  have hsu:=wz xs w;rw[Lj]at hsu;have ei:IntKind.i64.wrap ((w:Int)+1)=((w+1:Nat):Int):=ai (by omega)
  have hrs:Ny xs (w+1)=(((kg xs (w+1)).1:Int),(kg xs (w+1)).2):=by unfold Ny;rw[if_neg (by omega)]
  refine aa ?_;refine ap (Tx xs (w:Int) hr64) (.pv _ (.pv _ .nil)) ?_;refine bj (.part 19 0) ?_;by_cases hw0:w=0
  ·subst hw0;have hr0:Ny xs 0=(-1,[]):=rfl;rw[hb1]at hrs;have hc0:((0:Nat):Int)=0:=rfl;rw[hc0];generalize o8 xs 0=r at*;obtain⟨rb,re⟩:=r;simp only at hz hrs⊢;subst hz;refine ak ?_ (by simp only[go_sem,↓reduceIte,hr0]<;>rfl)
   refine am rfl ?_;refine aa ?_ (by simp only[go_sem,↓reduceIte,ei]<;>rfl)
   refine ah hK 1 (by omega) (by omega) (by simp only[go_sem,↓reduceIte]) (by simp only[go_sem,↓reduceIte,hrs]<;>rfl)
  have hrw:Ny xs w=(((kg xs w).1:Int),(kg xs w).2):=by unfold Ny;rw[if_neg hw0]
  rw[hrw];generalize o8 xs (w:Int)=r at*;obtain⟨rb,re⟩:=r;simp only at hsu⊢;generalize kg xs w=b at*;obtain⟨bt,bb⟩:=b;simp only at hsu⊢;by_cases he:re=0
  ·have eb:(re==0)=true:=by simpa using he
   by_cases hlen:rb.length<bb.length
   ·rw[if_pos ⟨he,hlen⟩]at hsu;rw[hsu]at hrs;have dl:decide (rb.length<bb.length)=true:=decide_eq_true hlen;refine ak ?_ (by simp only[go_sem,↓reduceIte,eb,dl]<;>rfl)
    refine am rfl ?_;refine aa ?_ (by simp only[go_sem,↓reduceIte,ei]<;>rfl)
    refine ah hK (w+1) (by omega) (by omega) (by simp only[go_sem,↓reduceIte]) (by simp only[go_sem,↓reduceIte,hrs]<;>rfl)
   ·rw[if_neg (fun h=>hlen h.2)]at hsu
    rw[hsu]at hrs;have dl:decide (rb.length<bb.length)=false:=decide_eq_false hlen;refine ak ?_ (by simp only[go_sem,↓reduceIte,eb,dl]<;>rfl)
    refine ae rfl ?_;refine aa ?_ (by simp only[go_sem,↓reduceIte,ei]<;>rfl)
    refine ah hK (w+1) (by omega) (by omega) (by simp only[go_sem,↓reduceIte]) (by simp only[go_sem,↓reduceIte,hrs]<;>rfl)
  ·have eb:(re==0)=false:=by simpa using he
   rw[if_neg (fun h=>he h.1)]at hsu
   rw[hsu]at hrs;refine ak ?_ (by simp only[go_sem,↓reduceIte,eb]<;>rfl)
   refine ae rfl ?_;refine aa ?_ (by simp only[go_sem,↓reduceIte,ei]<;>rfl)
   refine ah hK (w+1) (by omega) (by omega) (by simp only[go_sem,↓reduceIte]) (by simp only[go_sem,↓reduceIte,hrs]<;>rfl)
 ·have hge:w=5:=by simp at hc2;omega
  subst hge;have hrw:Ny xs 5=(((kg xs 5).1:Int),(kg xs 5).2):=by unfold Ny;rw[if_neg (by omega)]
  rw[hrw];obtain⟨i1,i2,-⟩:=hinv 5 (z19 _);generalize kg xs 5=b at*;obtain⟨bt,bb⟩:=b;simp only at i1 i2⊢;have eu:IntKind.u8.wrap ((bt:Nat):Int)=(bt:Nat):=fi (by omega)
  have h1:1+bb.length≤aw:=by omega
  refine aa ?_ (by simp only[go_sem,↓reduceIte,eu,m9,h1,z02,z26,z13,z14,z08]<;>rfl)
  refine ac (.move rfl (.pv _ .nil)) rfl
def aJq(x y:SV)(e:Int):List (Nat×HO):=[(1002,.cells 42 [x,y]),(1003,.cells 29 [.pv (.int .i64 e)])]
attribute [go_sem] aJq
theorem T0(t:List UInt8)(xs:List Sm)(ht:t.length≤maxLen)(hx:vb xs):Fn Tryz.prog 60 [] [.pv (chP (t,xs))]
  (fun rs H'=>rs=[.own 5 (bytes (lv t xs).1),.pv (.int .i64 (lv t xs).2)]∧H'=[]):=by
 refine Fn.ob Tryz.f60 77 [.tmp 2,.tmp 3] fun C=> ?_
 have hr:aw=140737488355328:=rfl;have hc:chP (t,xs)= .agg [.str t,.sl 2 (sms xs)]:=rfl;rw[hc];unfold lv;by_cases h1:64<t.length
 ·have d1:decide ((t.length:Int)>64)=true:=decide_eq_true (by omega)
  refine ak ?_ (by simp only[go_sem,↓reduceIte,d1]<;>rfl)
  refine am rfl ?_;rw[if_pos (.inl h1)];refine aa ?_;refine ac (.move rfl (.pv _ .nil)) rfl
 have d1:decide ((t.length:Int)>64)=false:=decide_eq_false (by omega)
 by_cases h2:65536<xs.length
 ·have d2:decide ((xs.length:Int)>65536)=true:=decide_eq_true (by omega)
  refine ak ?_ (by simp only[go_sem,↓reduceIte,d1,d2,zk]<;>rfl)
  refine am rfl ?_;rw[if_pos (.inr h2)];refine aa ?_;refine ac (.move rfl (.pv _ .nil)) rfl
 have d2:decide ((xs.length:Int)>65536)=false:=decide_eq_false (by omega)
 refine ak ?_ (by simp only[go_sem,↓reduceIte,d1,d2,zk]<;>rfl)
 refine ae rfl ?_;rw[if_neg (by omega)]
 refine aa ?_ (by simp only[go_sem,↓reduceIte,zk]<;>rfl)
 refine aq (fun p:Nat×List Int×List Nat=>⟨77,[(6,.pv (.int .i64 p.1)),(1,.ptr 1 0),(4,.own 3 (j4 p.2.1)),(5,.own 24 (dw p.2.2))],[(1,.cells 42 [.pv (.str t),.pv (.sl 2 (sms xs))])]⟩) (fun p=>p.1≤xs.length∧p.2.1=(xs.map Prod.fst).take p.1∧p.2.2=(xs.map Prod.snd).take p.1) (fun p=>xs.length-p.1) [6,1,4,5] [1] (0,[],[]) ⟨z15 _,rfl,rfl⟩ ?_
 rintro⟨i,A,B⟩ ⟨hi,hA,hB⟩ K hK;simp only at hi hA hB;refine aa ?_ (by simp only[go_sem,↓reduceIte,zk]<;>rfl)
 refine AW.cond rfl (fun hc=> ?_) (fun hc=> ?_)
 ·have hlt:i<xs.length:=by simpa using hc
  have hg:(sms xs)[i]?=some (.agg [.int .i64 xs[i].1,.int .u64 (xs[i].2:Nat)]):=by unfold sms;rw[List.getElem?_map,z10 hlt];rfl
  have hAl:A.length=i:=by rw[hA];simp;omega
  have hBl:B.length=i:=by rw[hB];simp;omega
  have hA1:A++[xs[i].1]=(xs.map Prod.fst).take (i+1):=by rw[z20,hA];simp[hlt]
  have hB1:B++[xs[i].2]=(xs.map Prod.snd).take (i+1):=by rw[z20,hB];simp[hlt]
  generalize xs[i].1=x at*;generalize xs[i].2=y at*;have h1:(A.length+1)*8≤aw:=by omega
  have h2:A.length+1≤aw:=by omega
  have h3:(B.length+1)*8≤aw:=by omega
  have h4:B.length+1≤aw:=by omega
  have e1:j4 A++[PV.int .i64 x]=j4 (A++[x]):=by simp[j4]
  have e2:dw B++[PV.int .u64 (y:Nat)]=dw (B++[y]):=by simp[dw]
  have ei:IntKind.i64.wrap ((i:Int)+1)=((i+1:Nat):Int):=ai (by omega)
  refine aa ?_ (by simp only[go_sem,↓reduceIte,hlt,hg,zk,h1,h2,h3,h4,ei,e1,e2]<;>rfl)
  exact ah hK (i+1,A++[x],B++[y]) ⟨by simp only;omega,hA1,hB1⟩ (by simp only;omega)
 have hge:i=xs.length:=by simp at hc;omega
 subst hge;have hA2:A=xs.map Prod.fst:=by rw[hA,z01 (by simp)]
 have hB2:B=xs.map Prod.snd:=by rw[hB,z01 (by simp)]
 subst hA2;subst hB2;have hx1:=hx.t;have hx2:=hx.v;have ln:(nb t).length=t.length:=Eh t;have l1:(Am (xs.map Prod.fst)).1.length≤2^23:=ad3 hx1;have l2:(Gn (xs.map Prod.snd)).1.length≤8*xs.length+1:=by have:=Sk (xs.map Prod.snd);rw[List.length_map]at this;exact this
 have hfin:Am (xs.map Prod.fst)=(U9 xs,(Am (xs.map Prod.fst)).2):=rfl;have hfin2:Gn (xs.map Prod.snd)=(U8 xs,(Gn (xs.map Prod.snd)).2):=rfl;refine aa ?_;refine ap (Wk _ hx1) (.lend rfl Ca .nil) ?_;rw[hfin]at l1⊢;simp only at l1⊢;generalize(Am (xs.map Prod.fst)).2=e1;refine aa ?_;refine ap (aca _ hx2) (.lend rfl Y1 .nil) ?_;rw[hfin2]at l2⊢;simp only at l2⊢;generalize(Gn (xs.map Prod.snd)).2=e2;unfold Lp;generalize U9 xs=ts at*;generalize U8 xs=vs at*;refine aa ?_;refine Dp ht afb s9 afc ?_;rw[tm];refine aa ?_;have wl:IntKind.u64.wrap (xs.length:Int)=(xs.length:Int):=ay (by omega)
 have l3:=bn (v:=(nb t).length) (by omega)
 have l4:=bn (v:=xs.length) (by omega)
 have l5:=bn (v:=ts.length) (by omega)
 have l6:=bn (v:=vs.length) (by omega)
 refine ap (im (nb t) (by omega)) (.pv _ .nil) ?_
 have eb:cg (nb t).length++nb t=Eb (nb t):=rfl;have ebl:=ur (nb t);rw[eb];generalize Eb (nb t)=bt at*;have g1:1+bt.length≤aw:=by omega
 refine aa ?_ (by simp only[go_sem,↓reduceIte,m9,wl,zk,g1,z02,z26,z13,z14,z08]<;>rfl)
 refine ap (cx (1::bt) xs.length (by omega) (by simp;omega)) (.lend rfl c7 (.pv _ .nil)) ?_
 try rw[z14]
 generalize hL:1::(bt++cg xs.length)=L;have hLl:L.length≤bt.length+11:=by rw[←hL];simp;omega
 refine aa ?_;refine ap (im ts (by omega)) (.lend rfl c7 .nil) ?_
 have eb:cg ts.length++ts=Eb ts:=rfl;have ebl2:=ur ts;rw[eb];generalize Eb ts=bts at*;have g2:L.length+bts.length≤aw:=by omega
 refine aa ?_ (by simp only[go_sem,↓reduceIte,g2]<;>rfl)
 refine ap (im vs (by omega)) (.lend rfl c7 .nil) ?_
 have eb:cg vs.length++vs=Eb vs:=rfl;have ebl3:=ur vs;rw[eb];generalize Eb vs=bvs at*;have g3:L.length+bts.length+bvs.length≤aw:=by omega
 have g4:L.length+(bts.length+bvs.length)≤aw:=by omega
 have g5:(L++bts).length+bvs.length≤aw:=by simp;omega
 have hfin3:1::(bt++(cg xs.length++(bts++bvs)))=L++bts++bvs:=by rw[←hL];simp
 rw[hfin3];refine aa ?_ (by simp only[go_sem,↓reduceIte,g3,g4,g5,List.length_append]<;>rfl)
 refine ac (.move rfl (.pv _ .nil)) rfl
def z32:List Nat:=List.replicate 32 0
theorem Fe:∀(l:List Nat) (a:Nat),l.foldl (fun a x=>a*256+x) a=a*256^l.length+u7 l
 |[],a=>by simp[u7]
 |x::r,a=>by
  have h1:=Fe r (a*256+x);have h2:=Fe r (0*256+x);have e:u7 (x::r)=r.foldl (fun a x=>a*256+x) (0*256+x):=rfl
  rw[List.foldl_cons,h1,e,h2,z02,z34,Nat.add_mul,z33,z13,Nat.mul_assoc,z35 (256^r.length) 256,Nat.add_assoc]
theorem ael(x:Nat)(r:List Nat):u7 (x::r)=x*256^r.length+u7 r:=by
 have:=Fe r (0*256+x);have e:u7 (x::r)=r.foldl (fun a x=>a*256+x) (0*256+x):=rfl
 rw[e,this,z33,z13]
theorem S6:∀(j n k v:Nat),j≤n→iy (k*256^n+v) j=iy v j
 |0,n,k,v,h=>rfl
 |j+1,n,k,v,h=>by
  rw[Dl,Dl,S6 j n k v (by omega)]
  congr 1
  obtain⟨d,rfl⟩:∃d,n=j+1+d:=⟨n-(j+1),by omega⟩
  have e:k*256^ (j+1+d)=256^j*(256*(k*256^d)):=by
   rw[Nat.pow_add,z34]
   ac_rfl
  rw[e,z28 (z36 (by decide)),Nat.mul_add_mod]
theorem S5:∀(l:List Nat),(∀x∈l,x<256)→iy (u7 l) l.length=l
 |[],_=>rfl
 |x::r,h=>by
  have hx:=h x (by simp)
  have hr:∀y∈r,y<256:=fun y hy=>h y (by simp[hy])
  have hlt:=Ik r hr;rw[z02,Dl,ael,S6 _ _ _ _ (z19 _),S5 r hr]
  congr 1
  rw[z35,z28 (z36 (by decide)),Nat.div_eq_of_lt hlt,Nat.add_zero,z24 hx]
theorem aid{bc:List (List UInt8)}{t:List UInt8}(h:bc.Pairwise (· < ·))(ho:Fq bc t=true):(bc++[t]).Pairwise (· < ·):=by
 rw[z12];refine⟨h,by simp,fun a ha b hb=> ?_⟩
 have hbt:b=t:=by simpa using hb
 subst hbt;have hne:bc≠ []:=by rintro rfl;cases ha
 have hl:bc.getLast?=some (bc.getLast hne):=List.getLast?_eq_some_getLast hne;rw[C9 b hl]at ho;have ho:=of_decide_eq_true ho;have e:=List.dropLast_concat_getLast hne;rw[←e]at ha h;rcases z25.1 ha with ha|ha
 ·exact List.lt_trans ((z12.1 h).2.2 a ha _ (by simp)) ho
 ·have:a=bc.getLast hne:=by simpa using ha
  rw[this];exact ho
theorem Sx{q:List Nat}(hb:∀x∈q,x<256)(h:(ft q).2.1=0):q=cg (ft q).1++(ft q).2.2:=by
 unfold ft at h⊢;split at h
 ·rename_i h1;exact absurd h h1
 ·rename_i h1;rw[if_neg h1];split at h
  ·cases h
  ·rename_i h2;rw[if_neg h2];exact(xd hb (by simpa using h1)).1
theorem Zb:∀(n:Nat) (bc:List (List UInt8)) (q:List Nat),(∀x∈q,x<256)→bc.Pairwise (· < ·)→(∀s∈bc,s.length≤64)→(D4 n bc q).2.1=0→
  ∃ss,(D4 n bc q).1=bc++ss∧ss.length=n∧q=ss.flatMap jr++(D4 n bc q).2.2∧(bc++ss).Pairwise (· < ·)∧∀s∈bc++ss,s.length≤64
 |0,bc,q,hb,hp,hl,h=>⟨[],by simp[D4],rfl,rfl,by simpa using hp,by simpa using hl⟩
 |n+1,bc,q,hb,hp,hl,h=>by
  obtain⟨b1,b2,b3,b4⟩:=j8 (m:=64) hb;rw[D4]at h⊢;by_cases h1:(blk q 64).2.1=0
  ·rw[if_neg (by simpa using h1)]at h⊢
   by_cases h2:Fq bc (ub (blk q 64).1)=true
   ·rw[if_pos h2]at h⊢;obtain⟨c1,c2⟩:=aei hb h1;have hul:(ub (blk q 64).1).length≤64:=by rw[afv];exact c2
    obtain⟨ss,e1,e2,e3,e4,e5⟩:=Zb n (bc++[ub (blk q 64).1]) (blk q 64).2.2 b2 (aid hp h2) (fun s hs=>by
     rcases z25.1 hs with hs|hs
     ·exact hl s hs
     ·have:s=ub (blk q 64).1:=by simpa using hs
      rw[this];exact hul) h
    refine⟨ub (blk q 64).1::ss,by rw[e1];simp,by simp[e2], ?_,by simpa using e4,by simpa using e5⟩
    rw[z09,z00,←e3,jr,afv,aq6 b1];exact c1
   ·rw[if_neg h2]at h;cases h
  ·rw[if_pos h1]at h;exact absurd h h1
theorem Lz{q:List Nat}(hb:∀x∈q,x<256)(h:(ed q).2.1=0):q=cg (ed q).1.length++(ed q).1.flatMap jr++(ed q).2.2∧(ed q).1.Pairwise (· < ·)∧∀s∈(ed q).1,s.length≤64:=by
 unfold ed at h⊢;by_cases h1:(ft q).2.1=0
 ·rw[if_neg (by simpa using h1)]at h⊢
  have hc:=Sx hb h1;obtain⟨ss,e1,e2,e3,e4,e5⟩:=Zb (ft q).1 [] (ft q).2.2 (lg hb) (by simp) (by simp) h
  rw[z08]at e1 e4 e5;rw[e1,e2,z00,←e3];exact⟨hc,e4,e5⟩
 ·rw[if_pos h1]at h;exact absurd h h1
theorem Z6{ts:List (List UInt8)}(hn:ts.Nodup):∀(n:Nat) (bc:List je) (q:List Nat),(∀x∈q,x<256)→(D3 ts n bc q).2.1=0→
  ∃es,(D3 ts n bc q).1=bc++es∧es.length=n∧q=es.flatMap (n7 ts)++(D3 ts n bc q).2.2∧∀e∈es,e.1∈ts∧0≤e.2∧e.2≤8
 |0,bc,q,hb,h=>⟨[],by simp[D3],rfl,rfl,by simp⟩
 |n+1,bc,q,hb,h=>by
  have hb2:∀x∈q.drop (a6 q).2.1,x<256:=fun x hx=>hb x (z06 hx)
  rw[D3]at h⊢;by_cases h1:(a6 q).2.2=0
  ·rw[if_neg (by simpa using h1)]at h⊢
   have hc:=(xd hb h1).1;generalize q.drop (a6 q).2.1=q2 at*;generalize(a6 q).1=v at*;by_cases h2:ts.length≤v
   ·rw[if_pos h2]at h;cases h
   ·rw[if_neg h2]at h⊢;by_cases h3:q2.length<1
    ·rw[if_pos h3]at h;cases h
    ·rw[if_neg h3]at h⊢;by_cases h4:8<q2.headD 0
     ·rw[if_pos h4]at h;cases h
     ·rw[if_neg h4]at h⊢;obtain⟨x,q3,rfl⟩:∃x r,q2=x::r:=by
       cases q2 with
       |nil=>simp at h3
       |cons x r=>exact⟨x,r,rfl⟩
      have t2:(x::q3).drop 1=q3:=rfl;have t3:(x::q3).headD 0=x:=rfl;rw[t2,t3]at h⊢;rw[t3]at h4;obtain⟨es,e1,e2,e3,e4⟩:=Z6 hn n _ q3 (fun y hy=>hb2 y (by simp[hy])) h
      have hvl:v<ts.length:=by omega
      have hg:ts.getD v []=ts[v]:=by rw[z17,z10 hvl];rfl
      refine⟨rp (ts.getD v []) x::es,by rw[e1];simp,by simp[e2], ?_, ?_⟩
      ·rw[z09,z00,←e3];have:n7 ts (rp (ts.getD v []) x)=cg v++[x]:=by
        unfold n7 rp;simp only[z23];rw[hg,List.Nodup.idxOf_getElem hn v hvl]
       rw[this,z00];exact hc
      ·intro e he;rcases z30.1 he with rfl|he
       ·refine⟨?_,by simp only[rp];omega,by simp only[rp];omega⟩
        simp only[rp];rw[hg];exact z21 hvl
       ·exact e4 e he
  ·rw[if_pos h1]at h;exact absurd h h1
theorem M6{ts:List (List UInt8)}(hn:ts.Nodup){q:List Nat}(hb:∀x∈q,x<256)(h:(fc ts q).2.1=0):q=cg (fc ts q).1.length++(fc ts q).1.flatMap (n7 ts)++(fc ts q).2.2∧∀e∈(fc ts q).1,e.1∈ts∧0≤e.2∧e.2≤8:=by
 unfold fc at h⊢;by_cases h1:(ft q).2.1=0
 ·rw[if_neg (by simpa using h1)]at h⊢
  have hc:=Sx hb h1;obtain⟨es,e1,e2,e3,e4⟩:=Z6 hn (ft q).1 [] (ft q).2.2 (lg hb) h;rw[z08]at e1;rw[e1,e2,z00,←e3];exact⟨hc,e4⟩
 ·rw[if_pos h1]at h;exact absurd h h1
theorem I0{l:List (List UInt8)}(h:l.Pairwise (· < ·)):l.Nodup:=h.imp (fun {a b} h e=>by subst e;exact List.lt_irrefl a h)
theorem Ss{es:List je}{ts:List (List UInt8)}(hs:ts.Pairwise (· < ·))(he:∀e∈es,e.1∈ts)(hl:(iw es).length=ts.length):iw es=ts:=by
 have hsub:∀s∈iw es,s∈ts:=by
  intro s hm;obtain⟨e,h1,rfl⟩:=(nr es s).1 hm;exact he e h1
 refine Bf (pp es) hs (fun x=>⟨hsub x,fun hx=> ?_⟩)
 refine Classical.byContradiction (fun hn=> ?_)
 have h1:(x::iw es).Nodup:=List.nodup_cons.2 ⟨hn,Bt es⟩;have h2:=h1.length_le_of_subset (l₂:=ts) (fun s hs'=>by
  rcases z30.1 hs' with rfl|h3
  ·exact hx
  ·exact hsub s h3)
 simp only[z02]at h2;omega
theorem ajt{b:List Nat}(hb:∀x∈b,x<256)(h:(kz b).2=0):tw (kz b).1=(b,0)∧(kz b).1.v<2^64:=by
 unfold kz at h⊢;split at h
 ·cases h
 rename_i h1;rw[if_neg h1];split at h
 ·cases h
 rename_i h2;rw[if_neg h2];have h2':b.take 4=[67,83,75,49]:=by simpa using h2
 have eb:b=[67,83,75,49]++b.drop 4:=by rw[←h2',z03]
 have hb1:∀x∈b.drop 4,x<256:=fun x hx=>hb x (z06 hx)
 generalize b.drop 4=q1 at*;subst eb;clear h1 h2 h2' hb;unfold te at h⊢;split at h
 ·cases h
 rename_i h1;rw[if_neg h1];split at h
 ·cases h
 rename_i h2;rw[if_neg h2];have hb8:∀x∈q1.take 8,x<256:=fun x hx=>hb1 x (z18 hx)
 have hl8:(q1.take 8).length=8:=by rw[z04];omega
 have hv:=S5 (q1.take 8) hb8;have hvl:=Ik (q1.take 8) hb8;rw[hl8]at hv hvl;have eq1:q1=q1.take 8++q1.drop 8:=(z03 8 q1).symm;rw[←hv]at eq1;have hb2:∀x∈q1.drop 8,x<256:=fun x hx=>hb1 x (z06 hx)
 generalize u7 (q1.take 8)=v at*;generalize q1.drop 8=q2 at*;rw[eq1];clear eq1 h1 hb8 hl8 hv hb1;unfold xo at h⊢;split at h
 ·cases h
 rename_i h1;rw[if_neg h1];have hp:(q2.take 32).length=32:=by rw[z04];omega
 have eq2:q2=q2.take 32++q2.drop 32:=(z03 32 q2).symm;have hb3:∀x∈q2.drop 32,x<256:=fun x hx=>hb2 x (z06 hx)
 generalize q2.take 32=prev at*;generalize q2.drop 32=q3 at*;subst eq2;clear h1 hb2;unfold yg at h⊢;split at h
 ·rename_i h3;exact absurd h h3
 rename_i h3;rw[if_neg h3];obtain⟨i1,i2,i3⟩:=Lz hb3 (by simpa using h3)
 have hb4:=Be hb3;generalize(ed q3).1=ts at*;generalize(ed q3).2.2=q4 at*;rw[i1];clear i1 h3 hb3;have hnd:=I0 i2;unfold Aw at h⊢;split at h
 ·rename_i h3;exact absurd h h3
 rename_i h3;rw[if_neg h3];obtain⟨j1,j2⟩:=M6 hnd hb4 (by simpa using h3)
 have hel:=Z4 ts q4;generalize(fc ts q4).1=es at*;generalize(fc ts q4).2.2=q5 at*;rw[j1];clear j1 h3 hb4;unfold Av at h⊢;split at h
 ·cases h
 rename_i h4;rw[if_neg h4];split at h
 ·cases h
 rename_i h5;rw[if_neg h5];split at h
 ·cases h
 rename_i h6;rw[if_neg h6];have hd:iw es=ts:=Ss i2 (fun e he=>(j2 e he).1) (by simpa using h6)
 have hq5:q5=q5.take 32:=by
  have:=z03 32 q5;rw[show q5.drop 32=[]by simpa using h5,z27]at this
  exact this.symm
 have hr:(q5.take 32).length=32:=by rw[z04];omega
 have hw:fm ⟨v,prev,es,q5.take 32⟩=0:=by
  unfold fm;simp only;rw[if_neg (by rintro(h|h|h);exact h2 h;exact h hp;exact h hr),if_neg,if_neg]
  ·rintro(h|h)
   ·omega
   ·obtain⟨e,he,h7⟩:=z22.1 h;have:=i3 e.1 (j2 e he).1;unfold uf at h7;have:=of_decide_eq_true h7;omega
  ·intro h;obtain⟨e,he,h7⟩:=z22.1 h;have:=j2 e he;unfold Hi at h7;have h8:c9 e.2=0:=by simpa using h7
   rw[wo]at h8;exact h8 ⟨this.2.1,this.2.2⟩
 refine⟨?_,hvl⟩;unfold tw;rw[if_neg (by rw[hw];simp)]
 have:dc ⟨v,prev,es,q5.take 32⟩=[67,83,75,49]++(iy v 8++(prev++(cg ts.length++ts.flatMap jr++(cg es.length++es.flatMap (n7 ts)++q5)))):=by
  unfold dc Hw;simp only[hd,←hq5];simp only[z00]
 rw[this]
theorem Jb{b:List Nat}(h:(kz b).2≠0):(kz b).1=⟨0,[],[],[]⟩:=by
 unfold kz at h⊢;split
 ·rfl
 split
 ·rfl
 rename_i h1 h2;rw[if_neg h1,if_neg h2]at h;unfold te at h⊢;split
 ·rfl
 split
 ·rfl
 rename_i h1 h2;rw[if_neg h1,if_neg h2]at h;unfold xo at h⊢;split
 ·rfl
 rename_i h1;rw[if_neg h1]at h;unfold yg at h⊢;split
 ·rfl
 rename_i h1;rw[if_neg h1]at h;unfold Aw at h⊢;split
 ·rfl
 rename_i h1;rw[if_neg h1]at h;unfold Av at h⊢;split
 ·rfl
 split
 ·rfl
 split
 ·rfl
 rename_i h1 h2 h3;rw[if_neg h1,if_neg h2,if_neg h3]at h;exact absurd rfl h
theorem Sy{n:Nat}(hn:n≤1048576)(r:List Nat):ft (cg n++r)=(n,0,r):=by
 unfold ft;rw[rf (by omega)]
 simp only[ne_eq,not_true_eq_false,if_false,z29];rw[if_neg (by omega)]
theorem Ub{bc ss:List (List UInt8)}{s:List UInt8}(h:(bc++s::ss).Pairwise (· < ·)):Fq bc s=true:=by
 cases hl:bc.getLast? with
 |none=>unfold Fq;rw[hl]
 |some l=>
  rw[C9 s hl];have hm:l∈bc:=List.mem_of_getLast? hl;exact decide_eq_true ((z12.1 h).2.2 l hm s (by simp))
theorem Zc:∀(ss bc:List (List UInt8)) (r:List Nat),(bc++ss).Pairwise (· < ·)→(∀s∈ss,s.length≤64)→D4 ss.length bc (ss.flatMap jr++r)=(bc++ss,0,r)
 |[],bc,r,hp,hl=>by simp[D4]
 |s::ss,bc,r,hp,hl=>by
  have hs:=hl s (by simp)
  have hb:=Pr (l:=nb s) (m:=64) (by rw[Eh];exact hs) (by rw[Eh];omega) (ss.flatMap jr++r)
  have e:(s::ss).flatMap jr++r=cg (nb s).length++nb s++(ss.flatMap jr++r):=by rw[z09,jr,Eh,z00]
  rw[z02,D4,e,hb];simp only[ne_eq,not_true_eq_false,if_false];rw[aEt,if_pos (Ub hp),Zc ss (bc++[s]) r (by simpa using hp) (fun t ht=>hl t (by simp[ht]))]
  simp
theorem abj{ts:List (List UInt8)}(hn:ts.length≤1048576)(hp:ts.Pairwise (· < ·))(hl:∀s∈ts,s.length≤64)(r:List Nat):ed (cg ts.length++ts.flatMap jr++r)=(ts,0,r):=by
 unfold ed;rw[z00,Sy hn];simp only[ne_eq,not_true_eq_false,if_false];rw[Zc ts [] r (by simpa using hp) hl]
 rfl
def Yw(ts:List (List UInt8))(e:je):Prop:=e.1∈ts∧0≤e.2∧e.2≤8
theorem ap9{ts:List (List UInt8)}{e:je}(h:Yw ts e):rp (ts.getD (ts.idxOf e.1) []) e.2.toNat=e:=by
 have hi:=z16 h.1;rw[z17,z10 hi,Option.getD_some,List.getElem_idxOf hi];unfold rp;have:=h.2.1;rw[Int.toNat_of_nonneg this]
theorem Z7{ts:List (List UInt8)}(hn:ts.length≤1048576):∀(es bc:List je) (r:List Nat),(∀e∈es,Yw ts e)→D3 ts es.length bc (es.flatMap (n7 ts)++r)=(bc++es,0,r)
 |[],bc,r,h=>by simp[D3]
 |e::es,bc,r,h=>by
  have he:=h e (by simp)
  have hi:=z16 he.1;have h8:=he.2.2;have eq:(e::es).flatMap (n7 ts)++r=cg (ts.idxOf e.1)++(e.2.toNat::(es.flatMap (n7 ts)++r)):=by rw[z09,n7];simp
  rw[z02,D3,eq,rf (by omega)]
  simp only[ne_eq,not_true_eq_false,if_false,z29,List.headD_cons,List.drop_succ_cons,List.drop_zero,z02];rw[if_neg (by omega),if_neg (by omega),if_neg (by omega),ap9 he,Z7 hn es (bc++[e]) r (fun x hx=>h x (by simp[hx]))]
  simp
theorem ady{ts:List (List UInt8)}(hn:ts.length≤1048576){es:List je}(hl:es.length≤1048576)(h:∀e∈es,Yw ts e)(r:List Nat):fc ts (cg es.length++es.flatMap (n7 ts)++r)=(es,0,r):=by
 unfold fc;rw[z00,Sy hl];simp only[ne_eq,not_true_eq_false,if_false];rw[Z7 hn es [] r h];rfl
theorem Uv(m:Man):dc m=[67,83,75,49]++(iy m.v 8++(m.prev++((cg (iw m.es).length++(iw m.es).flatMap jr)++((cg m.es.length++m.es.flatMap (n7 (iw m.es)))++m.root)))):=by
 unfold dc Hw;simp only[z00]
theorem aAv{m:Man}(h:fm m=0):(iw m.es).length≤1048576∧(∀s∈iw m.es,s.length≤64)∧m.es.length≤1048576∧∀e∈m.es,Yw (iw m.es) e:=by
 obtain⟨w1,w2,w3,w4,w5,w6⟩:=jt h;have hnl:(iw m.es).length≤m.es.length:=by rw[yw];exact vv _
 refine⟨by omega, ?_,w5,fun e he=>⟨(nr m.es e.1).2 ⟨e,he,rfl⟩,w4 e he⟩⟩
 intro s hs;obtain⟨e,he,rfl⟩:=(nr m.es s).1 hs;exact w6 e he
theorem aju{m:Man}(h:fm m=0)(hv:m.v<2^64)(r:List Nat):kz (dc m++r)=if r≠ []then Fr 3 else(m,0):=by
 obtain⟨w1,w2,w3,w4,w5,w6⟩:=jt h;obtain⟨o1,o2,o3,o4⟩:=aAv h;have hb8:=gv m.v 8;have hbv:u7 (iy m.v 8)=m.v:=by rw[aql,z24 (by omega)]
 rw[Uv];simp only[z00];have s1:∀q:List Nat,kz ([67,83,75,49]++q)=te q:=fun q=>by
  unfold kz;rw[if_neg (by simp),if_neg (by simp)]
  rfl
 have s2:∀q:List Nat,te (iy m.v 8++q)=xo m.v q:=fun q=>by
  unfold te;have t1:(iy m.v 8++q).take 8=iy m.v 8:=by rw[z05 (by omega),z01 (by omega)]
  have t2:(iy m.v 8++q).drop 8=q:=by rw[z07 (by omega),z11 (by omega)];rfl
  rw[if_neg (by simp[hb8]),t1,t2,hbv,if_neg w1]
 have s3:∀q:List Nat,xo m.v (m.prev++q)=yg m.v m.prev q:=fun q=>by
  unfold xo;have t1:(m.prev++q).take 32=m.prev:=by rw[z05 (by omega),z01 (by omega)]
  have t2:(m.prev++q).drop 32=q:=by rw[z07 (by omega),z11 (by omega)];rfl
  rw[if_neg (by simp[w2]),t1,t2]
 rw[s1,s2,s3,←z00 (cg (iw m.es).length)];unfold yg;rw[abj o1 (pp m.es) o2];simp only[ne_eq,not_true_eq_false,if_false];rw[←z00 (cg m.es.length)];unfold Aw;rw[ady o1 o3 o4];simp only[ne_eq,not_true_eq_false,if_false];unfold Av;have t1:(m.root++r).take 32=m.root:=by rw[z05 (by omega),z01 (by omega)]
 have t2:(m.root++r).drop 32=r:=by rw[z07 (by omega),z11 (by omega)];rfl
 rw[if_neg (by simp[w3]),t1,t2]
 simp only[ne_eq,not_true_eq_false,if_false]
theorem J9{m:Man}(h:fm m=0)(hv:m.v<2^64):kz (dc m)=(m,0):=by
 have:=aju h hv [];rw[z27]at this;rw[this];rfl
end Go.Ck
