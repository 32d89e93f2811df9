/- What is proved here: parts of the proofs of this seat's statements (a verified evaluator for calls over pure values, its laws, and contracts of functions). No condition. -/
import Derived.Test.YtmkoabmapmehdaaGreatDoorKze
import Derived.Test.YtmkoabmapmehdaaGreatDoorKy
import Derived.Test.YtmkoabmapmehdaaGreatDoorKw
import Derived.Test.YtmkoabmapmehdaaGreatDoorKz
set_option linter.all false
open List renaming take_of_length_le→z00,getElem_mem→z01,getElem?_eq_getElem→z02,length_append→z04,append_nil→z06,getD_eq_getElem?_getD→z07,drop_eq_nil_of_le→z08,mem_singleton→z09,take_add_one→z10,getElem?_map→z11,append_assoc→z12,length_take→z13,length_drop→z14,nil_append→z15,mem_append→z16,length→z20
open Nat renaming zero_le→z03,le_refl→z05,mul_le_mul→z17,zero_add→z18,lt_or_ge→z19
set_option maxRecDepth 10000
set_option maxHeartbeats 1000000
namespace Go.Ck
open Go.Proofs
theorem ab9(xs:List Nat)(w:Int)(hx:∀x∈xs,x<2^64):Fn Tryz.prog 121 [] [.pv (.sl 1 (dw xs)),.pv (.int .i64 w)]
  (fun rs H'=>rs=[.own 5 (bytes (n9 xs w).1),.pv (.int .i64 (n9 xs w).2)]∧H'=[]):=by
 refine Fn.ob Tryz.f121 68 [.tmp 4,.tmp 5] fun C=> ?_
 have hr:aw=140737488355328:=rfl;by_cases hw:w<0∨4≤w
 ·have hws:n9 xs w=([],1):=by rw[n9,if_pos hw]
  rw[hws];by_cases h1:w<0
  ·have d1:decide (w<0)=true:=decide_eq_true h1;refine ak ?_ (by simp only[go_sem,↓reduceIte,d1]<;>rfl)
   refine am rfl ?_;refine aa ?_;refine ac (.move rfl (.pv _ .nil)) rfl
  ·have d1:decide (w<0)=false:=decide_eq_false h1;have d2:decide (w>3)=true:=decide_eq_true (by omega)
   refine ak ?_ (by simp only[go_sem,↓reduceIte,d1,d2]<;>rfl)
   refine am rfl ?_;refine aa ?_;refine ac (.move rfl (.pv _ .nil)) rfl
 have d1:decide (w<0)=false:=decide_eq_false (by omega)
 have d2:decide (w>3)=false:=decide_eq_false (by omega)
 refine ak ?_ (by simp only[go_sem,↓reduceIte,d1,d2]<;>rfl)
 refine ae rfl ?_;refine aa ?_;refine AW.cond rfl (fun hc=> ?_) (fun hc=> ?_)
 ·have hl:65536<xs.length:=by simp at hc;omega
  have hws:n9 xs w=([],4):=by rw[n9,if_neg hw,if_pos hl]
  rw[hws];refine aa ?_;refine ac (.move rfl (.pv _ .nil)) rfl
 have hl:¬65536<xs.length:=by simp at hc;omega
 have hle:xs.length≤65536:=by omega
 refine aa ?_;have hw4:w=0∨w=1∨w=2∨w=3:=by omega
 rcases hw4 with rfl|rfl|rfl|rfl
 ·have hws:n9 xs 0=(vf xs,0):=by rw[n9,if_neg hw,if_neg hl];rfl
  rw[hws];refine am rfl ?_;refine aa ?_;refine aq (fun i:Nat=>⟨68,[(7,.pv (.int .i64 i)),(6,.own 5 (bytes (vf (xs.take i)))),(0,.pv (.sl 1 (dw xs)))],[]⟩) (fun i=>i≤xs.length) (fun i=>xs.length-i) [7,6,0] [] 0 (z03 _) ?_
  rintro i hi K hK;refine aa ?_;refine AW.cond rfl (fun hc=> ?_) (fun hc=> ?_)
  ·have hlt:i<xs.length:=by simpa using hc
   have hget:=gh hlt;have hxx:=hx _ (z01 hlt);have hti:xs.take (i+1)=xs.take i++[xs[i]]:=by simp
   have hel:=Sn (xs.take i);have hfn:vf (xs.take (i+1))=vf (xs.take i)++iy xs[i] 8:=by rw[hti,vf,List.flatMap_append];simp[vf]
   rw[z13]at hel;generalize xs[i]=x at*;have ei:IntKind.i64.wrap ((i:Int)+1)=((i+1:Nat):Int):=ai (by omega)
   refine aa ?_ (by simp only[go_sem,↓reduceIte,hget]<;>rfl)
   refine ap (jo x 8 hxx (by omega)) (.pv _ (.pv _ .nil)) ?_
   have h2:(vf (xs.take i)).length+(iy x 8).length≤aw:=by rw[gv];omega
   refine aa ?_ (by simp only[go_sem,↓reduceIte,h2,ei,←hfn]<;>rfl)
   refine ah hK (i+1) hlt (by omega)
  ·have hge:¬i<xs.length:=by simpa using hc
   rw[z00 (by omega)]
   refine aa ?_;refine ac (.move rfl (.pv _ .nil)) rfl
 ·have hws:n9 xs 1=if aax xs=false∨xs=[]then([],1)else(vf (xs.take 1),0):=by rw[n9,if_neg hw,if_neg hl];rfl
  rw[hws];refine ae rfl ?_;refine aa ?_;refine am rfl ?_;refine aa ?_;refine AW.cond rfl (fun hc2=> ?_) (fun hc2=> ?_)
  ·have hnil:xs=[]:=by simpa using hc2
   rw[if_pos (.inr hnil)];refine aa ?_;refine ac (.move rfl (.pv _ .nil)) rfl
  have hnil:xs≠ []:=by simpa using hc2
  have hlt0:0<xs.length:=by cases xs with|nil=>exact absurd rfl hnil|cons a r=>simp
  have hget0:=gh hlt0;have hx0:=hx _ (z01 hlt0);have ht1:xs.take 1=[xs[0]]:=by cases xs with|nil=>exact absurd rfl hnil|cons a r=>simp
  have heP:vf (xs.take 1)=iy xs[0] 8:=by rw[ht1,vf];simp
  rw[heP];rw[pg hlt0]at hget0 hx0⊢;refine aa ?_;refine aq (fun i:Nat=>⟨68,[(8,.pv (.int .i64 i)),(0,.pv (.sl 1 (dw xs)))],[]⟩) (fun i=>i≤xs.length∧∀j,j<i→xs.getD j 0=xs.getD 0 0) (fun i=>xs.length-i) [8,0] [] 0 ⟨z03 _,fun j hj=>by omega⟩ ?_
  rintro i ⟨hi,hall⟩ K hK;refine aa ?_;refine AW.cond rfl (fun hc=> ?_) (fun hc=> ?_)
  ·have hlt:i<xs.length:=by simpa using hc
   have hget:=gh hlt;have ei:IntKind.i64.wrap ((i:Int)+1)=((i+1:Nat):Int):=ai (by omega)
   refine aa ?_;refine pc mixed (by decide+kernel) ?_ (by simp only[go_sem,↓reduceIte,hget,hget0]<;>rfl)
   refine aa ?_;refine AW.cond rfl (fun hc2=> ?_) (fun hc2=> ?_)
   ·have hne:xs[i]≠xs.getD 0 0:=aqi hc2;rw[if_pos (.inl (Wv hlt hne))];refine aa ?_;refine ac (.move rfl (.pv _ .nil)) rfl
   ·have he:xs[i]=xs.getD 0 0:=aqk hc2;refine aa ?_ (by simp only[go_sem,↓reduceIte,ei]<;>rfl)
    refine ah hK (i+1) ⟨hlt,fun j hj=> ?_⟩ (by omega)
    by_cases hji:j=i
    ·subst hji;rw[←pg hlt];exact he
    ·exact hall j (by omega)
  ·have hge:i=xs.length:=by simp at hc;omega
   subst hge;rw[if_neg (by rw[acv hall];simpa using hnil)]
   refine aa ?_ (by simp only[go_sem,↓reduceIte,hget0]<;>rfl)
   refine ap (jo (xs.getD 0 0) 8 hx0 (by omega)) (.pv _ (.pv _ .nil)) ?_
   refine aa ?_;refine ac (.move rfl (.pv _ .nil)) rfl
 ·have hws:n9 xs 2=(Lo xs,0):=by rw[n9,if_neg hw,if_neg hl];rfl
  rw[hws];refine ae rfl ?_;refine aa ?_;refine ae rfl ?_;refine aa ?_;refine am rfl ?_;refine aa ?_;refine ap (T4 xs hx) (.pv _ .nil) ?_;simp only[if_pos hle];refine aa ?_;refine ac (.move rfl (.pv _ .nil)) rfl
 ·have hws:n9 xs 3=(Yx xs,0):=by rw[n9,if_neg hw,if_neg hl];rfl
  rw[hws];refine ae rfl ?_;refine aa ?_;refine ae rfl ?_;refine aa ?_;refine ae rfl ?_;refine aa ?_;refine ap (T5 xs hx) (.pv _ .nil) ?_;simp only[if_pos hle];refine aa ?_;refine ac (.move rfl (.pv _ .nil)) rfl
def tgW(xs:List Nat)(w:Nat):Int:=if w=0 then-1 else((nj xs (w-1)).1:Nat)
def bsW(xs:List Nat)(w:Nat):List Nat:=if w=0 then []else(nj xs (w-1)).2
theorem aca(xs:List Nat)(hx:∀x∈xs,x<2^64):Fn Tryz.prog 98 [] [.pv (.sl 1 (dw xs))]
  (fun rs H'=>rs=[.own 5 (bytes (Gn xs).1),.pv (.int .i64 (Gn xs).2)]∧H'=[]):=by
 refine Fn.ob Tryz.f98 42 [.tmp 2,.tmp 3] fun C=> ?_
 have hr:aw=140737488355328:=rfl;unfold Gn;refine aa ?_;refine AW.cond rfl (fun hc=> ?_) (fun hc=> ?_)
 ·have hl:65536<xs.length:=by simp at hc;omega
  simp only[if_pos hl];refine aa ?_;refine ac (.move rfl (.pv _ .nil)) rfl
 have hl:¬65536<xs.length:=by simp at hc;omega
 simp only[if_neg hl];refine aa ?_;refine bj (.slot 5) ?_;refine aq (fun w:Nat=>⟨42,[(6,.pv (.int .i64 w)),(4,.pv (.int .i64 (tgW xs w))),(5,.pv (.sl 1 (bytes (bsW xs w)))),(0,.pv (.sl 1 (dw xs)))],[]⟩) (fun w=>w≤4) (fun w=>4-w) [6,4,5,0] [] 0 (by omega) ?_
 rintro w hw K hK;refine aa ?_;refine AW.cond rfl (fun hc=> ?_) (fun hc=> ?_)
 ·have hlt:w<4:=by simp at hc;omega
  have ei:IntKind.i64.wrap ((w:Int)+1)=((w+1:Nat):Int):=ai (by omega)
  refine aa ?_;refine ap (ab9 xs w hx) (.pv _ (.pv _ .nil)) ?_;refine bj (.part 19 0) ?_;refine aa ?_;by_cases h0:w=0
  ·subst h0;have hz:=aa5 hl;have hz':n9 xs ((0:Nat):Int)=(vf xs,0):=hz;rw[hz'];refine ak ?_;refine am rfl ?_;refine aa ?_ (by simp only[go_sem,↓reduceIte,ei]<;>rfl)
   refine ah hK 1 (by omega) (by omega) (by simp only[go_sem,↓reduceIte]) (by simp only[go_sem,↓reduceIte,tgW,bsW,w7,Nat.sub_self,Nat.one_ne_zero]<;>rfl)
  obtain⟨u,rfl⟩:∃u,w=u+1:=⟨w-1,by omega⟩
  have e0:tgW xs (u+1)=((nj xs u).1:Nat):=rfl;have e1:bsW xs (u+1)=(nj xs u).2:=rfl;have e2:tgW xs (u+1+1)=((nj xs (u+1)).1:Nat):=rfl;have e3:bsW xs (u+1+1)=(nj xs (u+1)).2:=rfl;have hss:=w9 xs u;rw[Lk]at hss;rw[e0,e1];generalize nj xs u=b at*;obtain⟨t,bs⟩:=b;simp only at hss⊢;by_cases he:(n9 xs ((u+1:Nat):Int)).2=0
  ·by_cases hlen:(n9 xs ((u+1:Nat):Int)).1.length<bs.length
   ·rw[if_pos ⟨he,hlen⟩]at hss;generalize n9 xs ((u+1:Nat):Int)=r at*;obtain⟨rb,re⟩:=r;simp only at he hlen hss⊢;subst he;refine ak ?_;refine AW.cond rfl (fun hc2=> ?_) (fun hc2=>absurd hlen (by simpa using hc2))
    refine aa ?_ (by simp only[go_sem,↓reduceIte,ei]<;>rfl)
    refine ah hK (u+1+1) (by omega) (by omega) (by simp only[go_sem,↓reduceIte]) (by simp only[go_sem,↓reduceIte,e2,e3,hss]<;>rfl)
   ·rw[if_neg (fun h=>hlen h.2)]at hss
    generalize n9 xs ((u+1:Nat):Int)=r at*;obtain⟨rb,re⟩:=r;simp only at he hlen hss⊢;subst he;refine ak ?_;refine AW.cond rfl (fun hc2=>absurd (by simpa using hc2) hlen) (fun hc2=> ?_)
    refine aa ?_ (by simp only[go_sem,↓reduceIte,ei]<;>rfl)
    refine ah hK (u+1+1) (by omega) (by omega) (by simp only[go_sem,↓reduceIte]) (by simp only[go_sem,↓reduceIte,e2,e3,hss]<;>rfl)
  ·rw[if_neg (fun h=>he h.1)]at hss
   generalize n9 xs ((u+1:Nat):Int)=r at*;obtain⟨rb,re⟩:=r;simp only at he hss⊢;have hre:(re==0)=false:=by simpa using he
   refine ak ?_ (by simp only[go_sem,↓reduceIte,hre]<;>rfl)
   refine ae rfl ?_;refine aa ?_ (by simp only[go_sem,↓reduceIte,ei]<;>rfl)
   refine ah hK (u+1+1) (by omega) (by omega) (by simp only[go_sem,↓reduceIte]) (by simp only[go_sem,↓reduceIte,e2,e3,hss]<;>rfl)
 ·have h4:w=4:=by simp at hc;omega
  subst h4;have hle:=S3 xs 3;have htg:=Nn xs 3;have e0:tgW xs 4=((nj xs 3).1:Nat):=rfl;have e1:bsW xs 4=(nj xs 3).2:=rfl;rw[e0,e1];generalize nj xs 3=b at*;obtain⟨t,bs⟩:=b;simp only at hle htg⊢;have eu:IntKind.u8.wrap ((t:Nat):Int)=(t:Nat):=fi (by omega)
  have h1:1+bs.length≤aw:=by omega
  refine aa ?_ (by simp only[go_sem,↓reduceIte,eu,m9,h1,List.length_cons,List.length_nil,z18,List.cons_append,z15]<;>rfl)
  refine ac (.move rfl (.pv _ .nil)) rfl
attribute [go_sem] fv yd uu qf
theorem ab8(n:Int)(h:ql n):Fn Tryz.prog 158 [] [.pv (.int .i64 n)] (fun rs H'=>rs=[.pv (.int .u64 (Qr n:Nat))]∧H'=[]):=by
 refine Fn.ob Tryz.f158 14 [.tmp 2] fun C=> ?_
 unfold ql at h;refine aa ?_;refine AW.cond rfl (fun hc=> ?_) (fun hc=> ?_)
 ·have h0:0≤n:=by simpa using hc
  have e:IntKind.u64.wrap (2*IntKind.u64.wrap n)=(Qr n:Nat):=by
   unfold Qr;rw[if_pos h0,IntKind.wrap_u64,IntKind.wrap_u64];omega
  refine aa ?_ (by simp only[go_sem,↓reduceIte,e]<;>rfl)
  refine ac (.pv _ .nil) rfl
 ·have h0:¬0≤n:=by simp at hc;omega
  have e:IntKind.u64.wrap (IntKind.u64.wrap (2*IntKind.u64.wrap (IntKind.i64.wrap (0-IntKind.i64.wrap (n+1))))+1)=(Qr n:Nat):=by
   unfold Qr;rw[if_neg h0,an (n:=n+1) (by omega) (by omega),an (by omega) (by omega),IntKind.wrap_u64,IntKind.wrap_u64,IntKind.wrap_u64];omega
  refine aa ?_ (by simp only[go_sem,↓reduceIte,e]<;>rfl)
  refine ac (.pv _ .nil) rfl
attribute [go_sem] ai4
theorem Js(l:List Int)(hl:l.length≤2^40):∀(k:Nat) (hk:k≤3),Fn Tryz.prog 134 [] [.pv (.sl 1 (j4 l)),.pv (.int .i64 k)] (fun rs H'=>rs=[.own 3 (j4 (Cf l k)),.pv (.int .i64 0)]∧H'=[])
 |0,hk=>by
  refine Fn.ob Tryz.f134 58 [.tmp 4,.tmp 5] fun C=> ?_
  have hr:aw=140737488355328:=rfl;have h2:l.length*8≤aw:=by omega
  have h3:l.length≤aw:=by omega
  refine ak ?_;refine ae rfl ?_;refine aa ?_;refine am rfl ?_;refine aa ?_ (by simp only[go_sem,↓reduceIte,h2,h3]<;>rfl)
  refine ac (.move rfl (.pv _ .nil)) rfl
 |k+1,hk=>by
  refine Fn.ob Tryz.f134 58 [.tmp 4,.tmp 5] fun C=> ?_
  have hr:aw=140737488355328:=rfl;have d1:decide (((k+1:Nat):Int)>3)=false:=decide_eq_false (by omega)
  have d2:(((k+1:Nat):Int)==0)=false:=by simp;omega
  have ek:IntKind.i64.wrap (((k+1:Nat):Int)-1)=(k:Int):=by rw[an (by omega) (by omega)];omega
  refine ak ?_ (by simp only[go_sem,↓reduceIte,d1]<;>rfl)
  refine ae rfl ?_;refine aa ?_ (by simp only[go_sem,↓reduceIte,d2]<;>rfl)
  refine ae rfl ?_;refine aa ?_ (by simp only[go_sem,↓reduceIte,ek]<;>rfl)
  refine ap (Js l hl k (by omega)) (.pv _ (.pv _ .nil)) ?_
  have hM:=Ac l k;rw[Cf];generalize Cf l k=M at*;have hD:=L4 k M;refine aa ?_;refine aq (fun i:Nat=>⟨58,[(9,.pv (.int .i64 i)),(6,.own 3 (j4 M)),(8,.own 3 (j4 ((qe k M).take i))),(1,.pv (.int .i64 (k+1:Nat)))],[]⟩) (fun i=>i≤M.length) (fun i=>M.length-i) [9,6,8,1] [] 0 (z03 _) ?_
  rintro i hi K hK;have htl:((qe k M).take i).length=i:=by simp;omega
  refine aa ?_;refine AW.cond rfl (fun hc=> ?_) (fun hc=> ?_)
  ·have hlt:i<M.length:=by simpa using hc
   have hget:=Z1 (afo hlt);have h1:(i+1)*8≤aw:=by omega
   have h2:i+1≤aw:=by omega
   have ei:IntKind.i64.wrap ((i:Int)+1)=((i+1:Nat):Int):=ai (by omega)
   refine aa ?_;refine AW.cond rfl (fun hc2=> ?_) (fun hc2=> ?_)
   ·have hik:i≤k:=by simp at hc2;omega
    have hap:(qe k M).take i++[M.getD i 0]=(qe k M).take (i+1):=by rw[z10,Wa hik hlt,afo hlt];rfl
    refine aa ?_ (by simp only[go_sem,↓reduceIte,hlt,hget,htl,I6,h1,h2,hap,ei]<;>rfl)
    refine ah hK (i+1) hlt (by omega)
   ·have hik:k<i:=by simp at hc2;omega
    have hget1:=Z1 (afo (show i-1<M.length by omega))
    have hlt1:i-1<M.length:=by omega
    have ei1:IntKind.i64.wrap ((i:Int)-1)=((i-1:Nat):Int):=by rw[an (by omega) (by omega)];omega
    have hap:(qe k M).take i++[IntKind.i64.wrap (M.getD i 0-M.getD (i-1) 0)]=(qe k M).take (i+1):=by rw[z10,abr hik hlt];rfl
    refine aa ?_;refine tl mixed ?_;refine AW.takes (fuel:=6) [0,1,2,5,6,3,7,8] ?_ (by simp only[go_sem,↓reduceIte,hlt,hlt1,ei1]<;>rfl) dt (listed':= #[true,true,true,true,false,true,true,true,true,false,false,false,false,false]) (by decide+kernel) (by decide+kernel)
    refine ce (fuel:=5) (rs:=[4,9]) ?_ (by decide+kernel) (by simp)
    intro y hy;simp only[List.mem_cons,List.not_mem_nil,or_false]at hy;rcases hy with rfl|rfl
    ·refine aa ?_ (by simp only[go_sem,↓reduceIte,hget,hget1]<;>rfl)
     refine bp (fuel:=0) (listed':= #[true,true,true,true,true,true,true,true,true,true,true,true,true,true]) [9,10,11,12,13] ?_ (by decide+kernel)
     refine aa ?_ (by simp only[go_sem,↓reduceIte,hget,hget1,htl,I6,h1,h2,hap,ei]<;>rfl)
     refine a8 (by decide+kernel) ?_
     refine aa ?_ (by simp only[go_sem,↓reduceIte,ei]<;>rfl)
     refine ah hK (i+1) hlt (by omega)
    ·refine aa ?_ (by simp only[go_sem,↓reduceIte,hget,hget1]<;>rfl)
     refine bp (fuel:=0) (listed':= #[true,true,true,true,true,true,true,true,true,true,true,true,true,true]) [4,10,11,12,13] ?_ (by decide+kernel)
     refine aa ?_ (by simp only[go_sem,↓reduceIte,hget,hget1,htl,I6,h1,h2,hap,ei]<;>rfl)
     refine a8 (by decide+kernel) ?_
     refine aa ?_ (by simp only[go_sem,↓reduceIte,ei]<;>rfl)
     refine ah hK (i+1) hlt (by omega)
  ·have hge:i=M.length:=by simp at hc;omega
   have hall:(qe k M).take i=qe k M:=z00 (by omega)
   rw[hall];refine aa ?_;refine ac (.move rfl (.pv _ .nil)) rfl
attribute [go_sem] fv yd uu qf
theorem Wj(xs:List Nat)(hl:xs.length≤65536)(hx:∀x∈xs,x<2^64):Fn Tryz.prog 159 [] [.pv (.sl 1 (dw xs))]
  (fun rs H'=>rs=[.own 5 (bytes (Ht xs)),.pv (.int .i64 0)]∧H'=[]):=by
 refine Fn.ob Tryz.f159 87 [.tmp 2,.tmp 3] fun C=> ?_
 have hr:aw=140737488355328:=rfl;have hgt:decide (65536<xs.length)=false:=decide_eq_false (by omega)
 have hgi:decide ((xs.length:Int)>65536)=false:=decide_eq_false (by omega)
 refine aa ?_ (by simp only[go_sem,↓reduceIte,hgt,hgi]<;>rfl)
 refine ae rfl ?_;refine aa ?_;refine aq (fun i:Nat=>⟨87,[(6,.pv (.int .i64 i)),(4,.pv (.int .u64 (lo (xs.take i):Nat))),(5,.pv (.int .u64 (hi (xs.take i):Nat))),(0,.pv (.sl 1 (dw xs)))],[]⟩) (fun i=>i≤xs.length) (fun i=>xs.length-i) [6,4,5,0] [] 0 (z03 _) ?_
 rintro i hiu K hK;refine aa ?_;refine AW.cond rfl (fun hc=> ?_) (fun hc=> ?_)
 ·have hlt:i<xs.length:=by simpa using hc
  have hget:=gh hlt;have hto:=apu (l:=xs) (i:=i) hlt;have hti:=ap3 (l:=xs) (i:=i) hlt;have h1:=aiw (l:=xs) (by omega)
  have ei:IntKind.i64.wrap ((i:Int)+1)=((i+1:Nat):Int):=ai (by omega)
  by_cases h0:i=0
  ·subst h0;have e0:(((0:Nat):Int)==0)=true:=rfl;refine ak ?_ (by simp only[go_sem,↓reduceIte,e0]<;>rfl)
   refine am rfl ?_;refine ak ?_ (by simp only[go_sem,↓reduceIte,hget,e0]<;>rfl)
   refine am rfl ?_;refine aa ?_ (by simp only[go_sem,↓reduceIte,hget,ei]<;>rfl)
   refine ah hK 1 hlt (by omega) (by simp only[go_sem,↓reduceIte]) (by simp only[go_sem,↓reduceIte,h1.1,h1.2]<;>rfl)
  ·have e0:((i:Int)==0)=false:=by simp;omega
   have hto:=hto h0;have hti:=hti h0;generalize xs[i]=x at*;generalize lo (xs.take i)=a at*;generalize hi (xs.take i)=b at*;by_cases hxa:x<a
   ·have d1:decide (x<a)=true:=decide_eq_true hxa;have hto:lo (xs.take (i+1))=x:=by omega
    refine ak ?_ (by simp only[go_sem,↓reduceIte,e0,hget,d1]<;>rfl)
    refine am rfl ?_;by_cases hxb:b<x
    ·have d2:decide (b<x)=true:=decide_eq_true hxb;have d2i:decide ((x:Int)>(b:Int))=true:=decide_eq_true (by omega)
     have hti:hi (xs.take (i+1))=x:=by omega
     refine ak ?_ (by simp only[go_sem,↓reduceIte,hget,e0,d2,d2i]<;>rfl)
     refine am rfl ?_;refine aa ?_ (by simp only[go_sem,↓reduceIte,hget,ei]<;>rfl)
     refine ah hK (i+1) hlt (by omega) (by simp only[go_sem,↓reduceIte]) (by simp only[go_sem,↓reduceIte,hto,hti]<;>rfl)
    ·have d2:decide (b<x)=false:=decide_eq_false hxb;have d2i:decide ((x:Int)>(b:Int))=false:=decide_eq_false (by omega)
     have hti:hi (xs.take (i+1))=b:=by omega
     refine ak ?_ (by simp only[go_sem,↓reduceIte,hget,e0,d2,d2i]<;>rfl)
     refine ae rfl ?_;refine aa ?_ (by simp only[go_sem,↓reduceIte,hget,ei]<;>rfl)
     refine ah hK (i+1) hlt (by omega) (by simp only[go_sem,↓reduceIte]) (by simp only[go_sem,↓reduceIte,hto,hti]<;>rfl)
   ·have d1:decide (x<a)=false:=decide_eq_false hxa;have hto:lo (xs.take (i+1))=a:=by omega
    refine ak ?_ (by simp only[go_sem,↓reduceIte,e0,hget,d1]<;>rfl)
    refine ae rfl ?_;by_cases hxb:b<x
    ·have d2:decide (b<x)=true:=decide_eq_true hxb;have d2i:decide ((x:Int)>(b:Int))=true:=decide_eq_true (by omega)
     have hti:hi (xs.take (i+1))=x:=by omega
     refine ak ?_ (by simp only[go_sem,↓reduceIte,hget,e0,d2,d2i]<;>rfl)
     refine am rfl ?_;refine aa ?_ (by simp only[go_sem,↓reduceIte,hget,ei]<;>rfl)
     refine ah hK (i+1) hlt (by omega) (by simp only[go_sem,↓reduceIte]) (by simp only[go_sem,↓reduceIte,hto,hti]<;>rfl)
    ·have d2:decide (b<x)=false:=decide_eq_false hxb;have d2i:decide ((x:Int)>(b:Int))=false:=decide_eq_false (by omega)
     have hti:hi (xs.take (i+1))=b:=by omega
     refine ak ?_ (by simp only[go_sem,↓reduceIte,hget,e0,d2,d2i]<;>rfl)
     refine ae rfl ?_;refine aa ?_ (by simp only[go_sem,↓reduceIte,hget,ei]<;>rfl)
     refine ah hK (i+1) hlt (by omega) (by simp only[go_sem,↓reduceIte]) (by simp only[go_sem,↓reduceIte,hto,hti]<;>rfl)
 have hge:¬i<xs.length:=by simpa using hc
 rw[z00 (by omega)]
 clear hK hc;have hwd:wF xs=dg (hi xs-lo xs):=rfl;have hw:=afj hx;have hlo:=aq7 (by omega) hx
 have hhi:=arb (by omega) hx
 have hlh:=aHd xs;have hfit:∀x∈xs,x-lo xs<2^wF xs∧lo xs≤x:=fun x h=>⟨avh h,Ys h⟩
 unfold Ht;generalize wF xs=w at*;generalize lo xs=v at*;generalize hi xs=b at*;have es:IntKind.u64.wrap ((b:Int)-(v:Int))=((b-v:Nat):Int):=by rw[show(b:Int)-(v:Int)=((b-v:Nat):Int)by omega];exact ay (by omega)
 refine aa ?_ (by simp only[go_sem,↓reduceIte,es]<;>rfl)
 refine ap (ju (b-v) (by omega)) (.pv _ .nil) ?_
 rw[←hwd];refine aa ?_;refine aq (fun i:Nat=>⟨87,[(9,.pv (.int .i64 i)),(8,.own 3 (ct (pb (xs.take i) v w))),(7,.pv (.int .i64 w)),(4,.pv (.int .u64 v)),(0,.pv (.sl 1 (dw xs)))],[]⟩) (fun i=>i≤xs.length) (fun i=>xs.length-i) [9,8,7,4,0] [] 0 (z03 _) ?_
 rintro i hiu K hK;refine aa ?_;refine AW.cond rfl (fun hc=> ?_) (fun hc=> ?_)
 ·have hlt:i<xs.length:=by simpa using hc
  have hget:=gh hlt;have hti:xs.take (i+1)=xs.take i++[xs[i]]:=by simp
  have hxx:=hx _ (z01 hlt);obtain⟨hf1,hf2⟩:=hfit _ (z01 hlt);generalize xs[i]=x at*;have hbl:=Fd (xs.take i) v w;have hbs:=X5 (xs.take i) x v w;rw[z13]at hbl;have hm:min i xs.length*w≤65536*64:=z17 (by omega) hw
  rw[←hti]at hbs;have ei:IntKind.i64.wrap ((i:Int)+1)=((i+1:Nat):Int):=ai (by omega)
  have ex:IntKind.u64.wrap ((x:Int)-(v:Int))=((x-v:Nat):Int):=by rw[show(x:Int)-(v:Int)=((x-v:Nat):Int)by omega];exact ay (by omega)
  have ew1:IntKind.i64.wrap ((w:Int)-1)=(w:Int)-1:=an (by omega) (by omega)
  have hy:x-v<2^64:=by omega
  generalize x-v=y at*;generalize pb (xs.take i) v w=bs at*;refine aa ?_ (by simp only[go_sem,↓reduceIte,ew1]<;>rfl)
  refine aq (fun a:List Nat×Nat=>⟨87,[(10,.pv (.int .i64 ((a.2:Int)-1))),(9,.pv (.int .i64 i)),(8,.own 3 (ct a.1)),(7,.pv (.int .i64 w)),(4,.pv (.int .u64 v)),(0,.pv (.sl 1 (dw xs)))],[]⟩) (fun a=>a.1++js y a.2=bs++js y w∧a.2≤w) (fun a=>a.2) [10,9,8,7,4,0] [] (bs,w) ⟨rfl,z05 _⟩ ?_
  rintro⟨o,j⟩ ⟨ho,hj⟩ K' hK';simp only at ho hj;have hol:o.length+j=bs.length+w:=by have:=congrArg z20 ho;simpa[kn]using this
  refine aa ?_;refine AW.cond rfl (fun hc=> ?_) (fun hc=> ?_)
  ·cases j with
   |zero=>simp at hc
   |succ j=>
    have e0:(((j+1:Nat):Int)-1)=(j:Nat):=by omega
    have e2:IntKind.u64.wrap ((j:Nat):Int)=(j:Nat):=ay (by omega)
    have e4:IntKind.i64.wrap ((j:Int)-1)=(j:Int)-1:=an (by omega) (by omega)
    have e3:IntKind.i64.wrap (ef .and .u64 (mo .u64 (y:Int) (j:Nat)) 1)=((y/2^j % 2:Nat):Int):=by
     rw[j7 .u64 y _ (by show j≤64;omega),aai (Nat.lt_of_le_of_lt (Nat.div_le_self _ _) hy),au (by omega)]
    have h1:(o.length+1)*8≤aw:=by omega
    have h2:o.length+1≤aw:=by omega
    refine aa ?_ (by simp only[go_sem,↓reduceIte,hget,ex,e0,e2,e3,e4,th,h1,h2]<;>rfl)
    refine ah hK' (o++[y/2^j % 2],j) ⟨?_,by simp only;omega⟩ (by simp only;omega)
    rw[←ho,Nm];simp
  ·cases j with
   |zero=>
    simp only[js,z06]at ho;refine aa ?_ (by simp only[go_sem,↓reduceIte,ei]<;>rfl)
    refine ah hK (i+1) hlt (by omega) (by simp only[go_sem,↓reduceIte]) (by simp only[go_sem,↓reduceIte,ho,hbs]<;>rfl)
   |succ j=>exact absurd hc (by simp)
 ·have hge:¬i<xs.length:=by simpa using hc
  rw[z00 (by omega)]
  have hbl:=Fd xs v w;have hm:xs.length*w≤65536*64:=z17 (by omega) hw
  have h10:=bn hlo;refine aa ?_;refine ap (cx [] v hlo (by simp;omega)) (.nilsP 1 (.pv _ .nil)) ?_
  have eu:IntKind.u8.wrap ((w:Nat):Int)=(w:Nat):=fi (by omega)
  have h1:(cg v).length+1≤aw:=by omega
  refine aa ?_ (by simp only[go_sem,↓reduceIte,z15,eu,m9,h1]<;>rfl)
  refine ap (Bi (pb xs v w) (by omega) (Nl _ _ _)) (.lend rfl Ca .nil) ?_
  have hpl:=Ib (pb xs v w);have h3:(cg v++[w]).length+(pk (pb xs v w)).length≤aw:=by rw[z04,hpl,hbl];simp;omega
  have hap:cg v++[w]++pk (pb xs v w)=cg v++(w::pk (pb xs v w)):=by simp
  refine aa ?_ (by simp only[go_sem,↓reduceIte,h3,hap]<;>rfl)
  refine ac (.move rfl (.pv _ .nil)) rfl
theorem Jr(s:Nat)(hs:s<16):Fn Tryz.prog 183 [] [.pv (.int .i64 s)] (fun rs H'=>rs=[.pv (.int .i64 (cn s:Nat)),.pv (.int .i64 (wn s:Nat))]∧H'=[]):=by
 refine Fn.ob Tryz.f183 22 [.tmp 2,.tmp 3] fun C=> ?_
 have hg:decide (15<s)=false:=decide_eq_false (by omega)
 have hgj:decide ((s:Int)>15)=false:=decide_eq_false (by omega)
 have h16:decide (s<16)=true:=decide_eq_true hs;have h1:(ct Vh)[s]?=some (.int .i64 (cn s:Nat)):=by
  have h:Vh[s]?=some (cn s):=by unfold cn;rw[z07,z02 (show s<Vh.length from hs)];rfl
  rw[ct,z11,h];rfl
 have h2:(ct U7)[s]?=some (.int .i64 (wn s:Nat)):=by
  have h:U7[s]?=some (wn s):=by unfold wn;rw[z07,z02 (show s<U7.length from hs)];rfl
  rw[ct,z11,h];rfl
 have hl1:(ct Vh).length=16:=rfl;have hl2:(ct U7).length=16:=rfl;have f1:[PV.int .i64 240,.int .i64 120,.int .i64 60,.int .i64 30,.int .i64 20,.int .i64 15,.int .i64 12,.int .i64 10,.int .i64 8,.int .i64 7,.int .i64 6,.int .i64 5,.int .i64 4,.int .i64 3,.int .i64 2,.int .i64 1]=ct Vh:=rfl;have f2:[PV.int .i64 0,.int .i64 0,.int .i64 1,.int .i64 2,.int .i64 3,.int .i64 4,.int .i64 5,.int .i64 6,.int .i64 7,.int .i64 8,.int .i64 10,.int .i64 12,.int .i64 15,.int .i64 20,.int .i64 30,.int .i64 60]=ct U7:=rfl;generalize hq1:ct Vh=q1 at*;generalize hq2:ct U7=q2 at*;have r16:16≤aw:=by decide
 refine ak ?_ (by simp only[go_sem,↓reduceIte,hg,hgj,f1,f2]<;>rfl)
 refine ae rfl ?_;refine aa ?_;refine pc mixed (by decide+kernel) ?_ (by simp only[go_sem,↓reduceIte,h1,h2,h16,hl1,hl2,hs]<;>rfl)
 refine aa ?_;refine ac (.pv _ (.pv _ .nil)) rfl
theorem P0(l:List Nat)(s:Nat)(hs:s<16)(hl:l.length≤65536)(hx:∀x∈l,x<2^64):Fn Tryz.prog 182 [] [.pv (.sl 1 (dw l)),.pv (.int .i64 s)] (fun rs H'=>rs=[.pv (.bool (ro l s))]∧H'=[]):=by
 refine Fn.ob Tryz.f182 29 [.tmp 4] fun C=> ?_
 have hr:aw=140737488355328:=rfl;obtain⟨c1,c2,c3,c4⟩:=cw s hs;refine aa ?_;refine ap (Jr s hs) (.pv _ .nil) ?_;have hbig:∀x,x∈l.take (cn s)→¬x<2^wn s→ro l s=false:=fun x=>ajh
 have hall:=aji (l:=l) (s:=s);have hsh:=Xf (l:=l) (s:=s);generalize ro l s=bb at*;generalize cn s=c at*;generalize wn s=w at*;refine aa ?_;refine AW.cond rfl (fun hc=> ?_) (fun hc=> ?_)
 ·have h:¬c≤l.length:=by simp at hc;omega
  rw[hsh h];refine aa ?_;refine ac (.pv _ .nil) rfl
 have h:c≤l.length:=by simp at hc;omega
 refine aa ?_;refine aq (fun i:Nat=>⟨29,[(7,.pv (.int .i64 i)),(0,.pv (.sl 1 (dw l))),(5,.pv (.int .i64 c)),(6,.pv (.int .i64 w))],[]⟩) (fun i=>i≤c∧∀x∈l.take i,x<2^w) (fun i=>c-i) [7,0,5,6] [] 0 ⟨z03 _,by simp⟩ ?_
 rintro i ⟨hi,hz⟩ K hK;refine aa ?_;refine AW.cond rfl (fun hc2=> ?_) (fun hc2=> ?_)
 ·have hic:i<c:=by simpa using hc2
  have hlt:i<l.length:=by omega
  have hget:=gh hlt;have hti:l.take (i+1)=l.take i++[l[i]]:=by simp
  have hmem:l[i]∈l.take c:=by rw[List.mem_take_iff_getElem];exact⟨i,by omega,rfl⟩
  have hxx:=hx _ (z01 hlt);generalize l[i]=x at*;have ei:IntKind.i64.wrap ((i:Int)+1)=((i+1:Nat):Int):=ai (by omega)
  have hb:=aad (x:=x) (w:=w);refine aa ?_ (by simp only[go_sem,↓reduceIte,hget,hlt]<;>rfl)
  refine ap (ju x hxx) (.pv _ .nil) ?_;refine aa ?_;refine AW.cond rfl (fun hc3=> ?_) (fun hc3=> ?_)
  ·have hy:¬x<2^w:=by
    have:decide (w<dg x)=true:=by simpa using hc3
    rw[hb]at this;simpa using this
   rw[hbig _ hmem hy];refine aa ?_;refine ac (.pv _ .nil) rfl
  ·have hy:x<2^w:=by
    have:decide (w<dg x)=false:=by simpa using hc3
    rw[hb]at this;simpa using this
   refine aa ?_ (by simp only[go_sem,↓reduceIte,ei]<;>rfl)
   refine ah hK (i+1) ⟨by omega, ?_⟩ (by omega)
   rw[hti];intro z hz';rcases z16.1 hz' with h|h
   ·exact hz z h
   ·rw[z09.1 h];exact hy
 ·have hge:i=c:=by simp at hc2;omega
  subst hge;rw[hall h hz];refine aa ?_;refine ac (.pv _ .nil) rfl
theorem Gs(xs:List Nat)(hl:xs.length≤65536)(hx:∀x∈xs,x<2^64):Fn Tryz.prog 160 [] [.pv (.sl 1 (dw xs))]
  (fun rs H'=>rs=[.own 5 (bytes (Hy xs).1),.pv (.int .i64 (Hy xs).2)]∧H'=[]):=by
 refine Fn.ob Tryz.f160 69 [.tmp 2,.tmp 3] fun C=> ?_
 have hr:aw=140737488355328:=rfl;have hgt:decide (65536<xs.length)=false:=decide_eq_false (by omega)
 have hgi:decide ((xs.length:Int)>65536)=false:=decide_eq_false (by omega)
 refine aa ?_ (by simp only[go_sem,↓reduceIte,hgt,hgi]<;>rfl)
 refine ae rfl ?_;refine aa ?_;refine aq (fun i:Nat=>⟨69,[(4,.pv (.int .i64 i)),(0,.pv (.sl 1 (dw xs)))],[]⟩) (fun i=>i≤xs.length∧∀x∈xs.take i,x<2^60) (fun i=>xs.length-i) [4,0] [] 0 ⟨z03 _,by simp⟩ ?_
 rintro i ⟨hi,hz⟩ K hK;refine aa ?_;refine AW.cond rfl (fun hc=> ?_) (fun hc=> ?_)
 ·have hlt:i<xs.length:=by simpa using hc
  have hget:=gh hlt;have hti:xs.take (i+1)=xs.take i++[xs[i]]:=by simp
  have hmem:=z01 hlt;have hxx:=hx _ hmem;generalize xs[i]=x at*;have ei:IntKind.i64.wrap ((i:Int)+1)=((i+1:Nat):Int):=ai (by omega)
  have hb:=aad (x:=x) (w:=60);refine aa ?_ (by simp only[go_sem,↓reduceIte,hget]<;>rfl)
  refine ap (ju x hxx) (.pv _ .nil) ?_;generalize dg x=bl at*;refine aa ?_;refine AW.cond rfl (fun hc3=> ?_) (fun hc3=> ?_)
  ·have hy:¬x<2^60:=by
    have:decide (60<bl)=true:=decide_eq_true (by simp at hc3;omega)
    rw[hb]at this;simpa using this
   have hbig:Q8 xs=true:=by unfold Q8;rw[List.any_eq_true];exact⟨x,hmem,by simp;omega⟩
   unfold Hy;rw[if_pos hbig];refine aa ?_;refine ac (.move rfl (.pv _ .nil)) rfl
  ·have hy:x<2^60:=by
    have:decide (60<bl)=false:=decide_eq_false (by simp at hc3;omega)
    rw[hb]at this;simpa using this
   refine aa ?_ (by simp only[go_sem,↓reduceIte,ei]<;>rfl)
   refine ah hK (i+1) ⟨by omega, ?_⟩ (by omega)
   rw[hti];intro z hz';rcases z16.1 hz' with h|h
   ·exact hz z h
   ·rw[z09.1 h];exact hy
 have hge:¬i<xs.length:=by simpa using hc
 rw[z00 (by omega)]at hz
 clear hK hc;unfold Hy;rw[if_neg (by rw[Uw hz];exact Bool.noConfusion)]
 have hel:=Sl xs.length xs (z05 _);refine aa ?_;refine aq (fun a:List Nat×List Nat=>⟨69,[(5,.own 5 (bytes a.1)),(0,.pv (.sl 1 (dw a.2)))],[]⟩) (fun a=>a.1++A5 a.2=A5 xs∧a.2.length≤xs.length∧∀x∈a.2,x<2^60) (fun a=>a.2.length) [5,0] [] ([],xs) ⟨by simp,z05 _,hz⟩ ?_
 rintro⟨out,q⟩ ⟨he,hql,hq⟩ K hK;simp only at he hql hq;refine aa ?_;refine AW.cond rfl (fun hc=> ?_) (fun hc=> ?_)
 ·have hne:q≠ []:=by rintro rfl;simp at hc
  have hqn:q.length≠0:=fun e=>hne (List.length_eq_zero_iff.1 e)
  have hq64:∀x∈q,x<2^64:=fun x h=>Nat.lt_trans (hq x h) (by omega)
  have holn:out.length+(A5 q).length=(A5 xs).length:=by rw[←he];simp
  have hlast:=adw hne hq;refine aa ?_;refine aq (fun s:Nat=>⟨69,[(6,.pv (.int .i64 s)),(5,.own 5 (bytes out)),(0,.pv (.sl 1 (dw q)))],[]⟩) (fun s=>s<16∧∀t,t<s→ro q t=false) (fun s=>16-s) [6,5,0] [] 0 ⟨by omega,fun t ht=>by omega⟩ ?_
  rintro s ⟨hs,hno⟩ K2 hK2;refine aa ?_;refine ap (P0 q s hs (by omega) hq64) (.pv _ (.pv _ .nil)) ?_
  refine aa ?_;refine AW.cond rfl (fun hc2=> ?_) (fun hc2=> ?_)
  ·have hf:ro q s=false:=by simpa using hc2
   have hs15:s≠15:=by rintro rfl;rw[hlast]at hf;cases hf
   have ei:IntKind.i64.wrap ((s:Int)+1)=((s+1:Nat):Int):=ai (by omega)
   refine aa ?_ (by simp only[go_sem,↓reduceIte,ei]<;>rfl)
   refine ah hK2 (s+1) ⟨by omega,fun t ht=> ?_⟩ (by omega)
   rcases z19 t s with h|h
   ·exact hno t h
   ·rw[show t=s by omega];exact hf
  have hf:ro q s=true:=by simpa using hc2
  clear hK2;have hp:=ap6 hs hno hf;have h1:=E4 hne;rw[hp]at h1;have hen:out++iy (Cb q s) 8++A5 (q.drop (cn s))=A5 xs:=by rw[z12,←h1,he]
  have hln:(out++iy (Cb q s) 8).length≤2^30:=by
   have:=congrArg z20 h1;rw[z04]at this;rw[z04];omega
  obtain⟨c1,c2,c3,c4⟩:=cw s hs;obtain⟨hcl,hfit⟩:=ajg hf;have hwl:=(ag4 hs hf).2;have e1:IntKind.u64.wrap (s:Int)=(s:Int):=ay (by omega)
  have e2:xw .u64 (s:Int) 60=((s*2^60:Nat):Int):=Zf (a:=s) (w:=60) (by omega) (by omega)
  have hwd:Cb q s=A4 0 (wn s) s (q.take (cn s)) (cn s):=by
   unfold Cb A4;rw[List.take_take,Nat.min_self]
  have h2:out.length+(iy (Cb q s) 8).length≤aw:=by rw[←z04];omega
  rw[hwd]at hen hln hwl h2;have htl:(q.take (cn s)).length=cn s:=by simp;omega
  have htg:∀j,j<cn s→(q.take (cn s))[j]?=q[j]?:=fun j h=>List.getElem?_take_of_lt h
  have ht0:=abf (wn s) s (q.take (cn s));generalize hqt:q.take (cn s)=qt at*;refine aa ?_;refine ap (Jr s hs) (.pv _ .nil) ?_;generalize cn s=c at*;generalize wn s=w at*;refine aa ?_ (by simp only[go_sem,↓reduceIte,e1,e2,←ht0]<;>rfl)
  refine aq (fun j:Nat=>⟨69,[(10,.pv (.int .i64 j)),(9,.pv (.int .u64 (A4 0 w s qt j:Nat))),(8,.pv (.int .i64 w)),(7,.pv (.int .i64 c)),(5,.own 5 (bytes out)),(0,.pv (.sl 1 (dw q)))],[]⟩) (fun j=>j≤c) (fun j=>c-j) [10,9,8,7,5,0] [] 0 (z03 _) ?_
  rintro j hj K3 hK3;refine aa ?_;refine AW.cond rfl (fun hc3=> ?_) (fun hc3=> ?_)
  ·have hjc:j<c:=by simpa using hc3
   have hjq:j<q.length:=by omega
   have hm:(j+1)*w≤c*w:=Nat.mul_le_mul_right _ hjc;obtain⟨t1,t2⟩:=aox (w:=w) (s:=s) (i:=j) (q:=qt) (by omega) (by omega) hs hfit
   have hqj:qt[j]'(by omega)=q[j]:=by
    have:=htg j hjc;rw[z02 (by omega),z02 hjq]at this
    exact Option.some.inj this
   rw[hqj]at t1 t2;have hget:=gh hjq;generalize q[j]=x at*;have ei:IntKind.i64.wrap ((j:Int)+1)=((j+1:Nat):Int):=ai (by omega)
   have em:IntKind.i64.wrap (((j+1)*w:Nat):Int)=(((j+1)*w:Nat):Int):=au (by omega)
   have e6:IntKind.u64.wrap (IntKind.i64.wrap (60-(((j+1)*w:Nat):Int)))=((60-(j+1)*w:Nat):Int):=by
    rw[an (by omega) (by omega),show(60:Int)-(((j+1)*w:Nat):Int)=((60-(j+1)*w:Nat):Int)by omega];exact ay (by omega)
   have e7:=Zf (a:=x) (w:=60-(j+1)*w) (by omega) t2
   refine aa ?_ (by simp only[go_sem,↓reduceIte,hget,hjq,ei,em,e6,e7,t1]<;>rfl)
   refine ah hK3 (j+1) hjc (by omega)
  ·have hjc:j=c:=by simp at hc3;omega
   subst hjc;refine aa ?_;refine ap (jo (A4 0 w s qt j) 8 hwl (by omega)) (.pv _ (.pv _ .nil)) ?_
   have e:(((q.length:Int)-(j:Nat)).toNat)=q.length-j:=by omega
   have e2:(dw (q.drop j)).take (q.length-j)=dw (q.drop j):=z00 (by simp[dw])
   refine aa ?_ (by simp only[go_sem,↓reduceIte,h2,hcl,e];rw[←Lx,e2]<;>rfl)
   refine ah hK (out++iy (A4 0 w s qt j) 8,q.drop j) ⟨hen,by simp only[z14];omega,fun x hx'=>hq x (List.mem_of_mem_drop hx')⟩ (by simp only[z14];omega)
 ·have hqe:q=[]:=by
   cases q with
   |nil=>rfl
   |cons a r=>simp at hc
  subst hqe;rw[yv,z06]at he;rw[he];refine aa ?_;refine ac (.move rfl (.pv _ .nil)) rfl
theorem K5(xs:List Nat)(hl:xs.length≤65536)(hx:∀x∈xs,x<2^64):Fn Tryz.prog 161 [] [.pv (.sl 1 (dw xs))]
  (fun rs H'=>rs=[.own 5 (bytes (jk 0 xs)),.pv (.int .i64 0)]∧H'=[]):=by
 refine Fn.ob Tryz.f161 46 [.tmp 2,.tmp 3] fun C=> ?_
 have hr:aw=140737488355328:=rfl;have hgt:decide (65536<xs.length)=false:=decide_eq_false (by omega)
 have hgi:decide ((xs.length:Int)>65536)=false:=decide_eq_false (by omega)
 have hel:=Aa xs 0 hx (by omega)
 refine aa ?_ (by simp only[go_sem,↓reduceIte,hgt,hgi]<;>rfl)
 refine ae rfl ?_;refine aa ?_;refine aq (fun a:Nat×List Nat=>⟨46,[(5,.pv (.int .i64 a.1)),(4,.own 5 (bytes a.2)),(0,.pv (.sl 1 (dw xs)))],[]⟩) (fun a=>a.1≤xs.length∧a.2++jk 0 (xs.drop a.1)=jk 0 xs) (fun a=>xs.length-a.1) [5,4,0] [] (0,[]) ⟨z03 _,by simp⟩ ?_
 rintro⟨i,out⟩ ⟨hi,he⟩ K hK;simp only at hi he;have hol:out.length≤(jk 0 xs).length:=by rw[←he];simp
 refine aa ?_;refine AW.cond rfl (fun hc=> ?_) (fun hc=> ?_)
 ·have hlt:i<xs.length:=by simpa using hc
  have hget:=gh hlt;have hxx:=hx _ (z01 hlt);have hxi:xs[i]?=some xs[i]:=z02 hlt;generalize xs[i]=x at*;have ha1:(out++cg x).length≤out.length+10:=by rw[z04];have:=bn hxx;omega
  refine aa ?_;refine aq (fun j:Nat=>⟨46,[(6,.pv (.int .i64 j)),(5,.pv (.int .i64 i)),(4,.own 5 (bytes out)),(0,.pv (.sl 1 (dw xs)))],[]⟩) (fun j=>i≤j∧j≤xs.length∧xs.drop i=List.replicate (j-i) x++xs.drop j) (fun j=>xs.length-j) [6,5,4,0] [] i ⟨z05 _,hi,by simp⟩ ?_
  rintro j ⟨hij,hj,hdr⟩ K2 hK2;have hfin:(xs.drop j).head?≠some x→i<j∧out++cg x++cg (j-i-1)++jk 0 (xs.drop j)=jk 0 xs:=by
   intro h;have hlt2:i<j:=by
    rcases z19 i j with h2|h2
    ·exact h2
    ·exfalso
     have:j=i:=by omega
     subst this;apply h
     rw[List.head?_drop,hxi]
   refine⟨hlt2, ?_⟩;obtain⟨m,hm⟩:∃m,j-i=m+1:=⟨j-i-1,by omega⟩
   rw[hm]at hdr;rw[hdr,M7 h m 0,z18]at he;rw[hm,Nat.add_sub_cancel,←he];simp
  have ej:IntKind.i64.wrap ((j:Int)+1)=((j+1:Nat):Int):=ai (by omega)
  have fin:∀(h:(xs.drop j).head?≠some x),IntKind.u64.wrap (IntKind.i64.wrap (IntKind.i64.wrap ((j:Int)-(i:Int))-1))=((j-i-1:Nat):Int):=by
   intro h;have:=(hfin h).1;rw[an (n:=(j:Int)-(i:Int)) (by omega) (by omega),an (by omega) (by omega),show(j:Int)-(i:Int)-1=((j-i-1:Nat):Int)by omega]
   exact ay (by omega)
  refine aa ?_;by_cases hjl:j<xs.length
  ·have d1:decide (j<xs.length)=true:=decide_eq_true hjl;have hgetj:=gh hjl;have hdj:=List.drop_eq_getElem_cons hjl;generalize xs[j]=y at*;by_cases hxy:y=x
   ·subst hxy;have e2:((y:Int)==(y:Int))=true:=by simp
    refine pc mixed (by decide+kernel) ?_ (by simp only[go_sem,↓reduceIte,hget,hgetj,d1,hjl,hlt,e2]<;>rfl)
    refine am rfl ?_;refine aa ?_ (by simp only[go_sem,↓reduceIte,ej]<;>rfl)
    refine ah hK2 (j+1) ⟨by omega,by omega, ?_⟩ (by omega)
    rw[hdr,hdj,show j+1-i=(j-i)+1 by omega,List.replicate_succ',z12];rfl
   ·have e2:((y:Int)==(x:Int))=false:=by simp;omega
    have hh:(xs.drop j).head?≠some x:=by rw[hdj];simpa using hxy
    obtain⟨h3,h4⟩:=hfin hh;have h5:=fin hh;clear hK2;refine pc mixed (by decide+kernel) ?_ (by simp only[go_sem,↓reduceIte,hget,hgetj,d1,hjl,hlt,e2]<;>rfl)
    refine ae rfl ?_;refine aa ?_ (by simp only[go_sem,↓reduceIte,hget,hlt]<;>rfl)
    refine ap (cx out x hxx (by omega)) (.lend rfl c7 (.pv _ .nil)) ?_
    refine aa ?_ (by simp only[go_sem,↓reduceIte,h5]<;>rfl)
    refine ap (cx (out++cg x) (j-i-1) (by omega) (by omega)) (.lend rfl c7 (.pv _ .nil)) ?_
    refine aa ?_;refine ah hK (j,out++cg x++cg (j-i-1)) ⟨hj,h4⟩ (by simp only;omega)
  ·have d1:decide (j<xs.length)=false:=decide_eq_false hjl;have hh:(xs.drop j).head?≠some x:=by rw[z08 (by omega)];simp
   obtain⟨h3,h4⟩:=hfin hh;have h5:=fin hh;clear hK2;refine pc mixed (by decide+kernel) ?_ (by simp only[go_sem,↓reduceIte,d1]<;>rfl)
   refine ae rfl ?_;refine aa ?_ (by simp only[go_sem,↓reduceIte,hget,hlt]<;>rfl)
   refine ap (cx out x hxx (by omega)) (.lend rfl c7 (.pv _ .nil)) ?_
   refine aa ?_ (by simp only[go_sem,↓reduceIte,h5]<;>rfl)
   refine ap (cx (out++cg x) (j-i-1) (by omega) (by omega)) (.lend rfl c7 (.pv _ .nil)) ?_
   refine aa ?_;refine ah hK (j,out++cg x++cg (j-i-1)) ⟨hj,h4⟩ (by simp only;omega)
 ·have hge:xs.length≤i:=by simp at hc;omega
  rw[z08 hge,M8,z06]at he;rw[he];refine aa ?_;refine ac (.move rfl (.pv _ .nil)) rfl
theorem aia(z:List Nat)(t:Nat)(ht:2≤t)(ht4:t≤4)(hl:z.length≤65536)(hx:∀x∈z,x<2^64):Fn Tryz.prog 136 [] [.pv (.sl 1 (dw z)),.pv (.int .i64 t)]
  (fun rs H'=>rs=[.own 5 (bytes (ua z t).1),.pv (.int .i64 (ua z t).2)]∧H'=[]):=by
 refine Fn.ob Tryz.f136 23 [.tmp 4,.tmp 5] fun C=> ?_
 have hr:aw=140737488355328:=rfl;unfold ua;refine aa ?_;refine AW.cond rfl (fun hc=> ?_) (fun hc=> ?_)
 ·have h2:t=2:=by simp at hc;omega
  simp only[if_pos h2];refine aa ?_;refine ap (Wj z hl hx) (.pv _ .nil) ?_;refine aa ?_;refine ac (.move rfl (.pv _ .nil)) rfl
 have h2:¬t=2:=by simp at hc;omega
 simp only[if_neg h2];refine aa ?_;refine AW.cond rfl (fun hc=> ?_) (fun hc=> ?_)
 ·have h3:t=3:=by simp at hc;omega
  simp only[if_pos h3];refine aa ?_;refine ap (Gs z hl hx) (.pv _ .nil) ?_;refine aa ?_;refine ac (.move rfl (.pv _ .nil)) rfl
 have h3:¬t=3:=by simp at hc;omega
 have h4:t=4:=by omega
 simp only[if_neg h3,if_pos h4];refine aa ?_;refine ap (K5 z hl hx) (.pv _ .nil) ?_;refine aa ?_;refine ac (.move rfl (.pv _ .nil)) rfl
theorem amb(l:List Int)(hl:l.length≤2^40)(hr64:∀x∈l,ql x):Fn Tryz.prog 135 [] [.pv (.sl 1 (j4 l))]
  (fun rs H'=>rs=[.own 24 (dw (l.map Qr))]∧H'=[]):=by
 refine Fn.ob Tryz.f135 20 [.tmp 2] fun C=> ?_
 have hr:aw=140737488355328:=rfl;refine aa ?_;refine aq (fun i:Nat=>⟨20,[(4,.pv (.int .i64 i)),(3,.own 24 (dw ((l.take i).map Qr))),(0,.pv (.sl 1 (j4 l)))],[]⟩) (fun i=>i≤l.length) (fun i=>l.length-i) [4,3,0] [] 0 (z03 _) ?_
 rintro i hi K hK;refine aa ?_;refine AW.cond rfl (fun hc=> ?_) (fun hc=> ?_)
 ·have hlt:i<l.length:=by simpa using hc
  have hget:=Sb hlt;have hti:(l.take (i+1)).map Qr=(l.take i).map Qr++[Qr l[i]]:=by rw[←List.map_singleton,←List.map_append];congr 1;simp
  have hxx:=hr64 _ (z01 hlt);generalize l[i]=x at*;have ei:IntKind.i64.wrap ((i:Int)+1)=((i+1:Nat):Int):=ai (by omega)
  have hml:((l.take i).map Qr).length=i:=by simp;omega
  have h1:(i+1)*8≤aw:=by omega
  have h2:i+1≤aw:=by omega
  generalize(l.take i).map Qr=m at*;refine aa ?_ (by simp only[go_sem,↓reduceIte,hget]<;>rfl)
  refine ap (ab8 x hxx) (.pv _ .nil) ?_;refine aa ?_ (by simp only[go_sem,↓reduceIte,hml,Rb,h1,h2,←hti,ei]<;>rfl)
  refine ah hK (i+1) hlt (by omega)
 ·have hge:¬i<l.length:=by simpa using hc
  rw[z00 (by omega)]
  refine aa ?_;refine ac (.move rfl .nil) rfl
end Go.Ck
