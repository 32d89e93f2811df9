/- What is proved here: parts of the proofs of this seat's statements (a verified evaluator for calls over pure values, its laws, and contracts of functions). No condition. -/
import Derived.Test.YtmkoabmapmehdaaGreatDoorKza
import Derived.Test.YtmkoabmapmehdaaGreatDoorKy
import Derived.Test.YtmkoabmapmehdaaGreatDoorKx
import Derived.Test.YtmkoabmapmehdaaGreatDoorKz
import Derived.Shelf.Sort.Plain
import Derived.Test.YtmkoabmapmehdaaGreatDoorKn
import Derived.Test.YtmkoabmapmehdaaGreatDoorKs
set_option linter.all false
open List renaming length_cons→z00,length_drop→z02,length_singleton→z03,length_append→z04,length_take→z05,getElem?_eq_getElem→z06,length_nil→z07,mem_of_mem_take→z09,mem_of_mem_drop→z10,take_of_length_le→z15,mem_of_getElem?→z17,length_pos_iff→z18,take_succ_eq_append_getElem→z19,take_length→z20,take_append_of_le_length→z21,eq_nil_of_length_eq_zero→z22,drop_append_of_le_length→z23,nil_append→z24,length_map→z25,getElem?_eq_some_iff→z26,drop_eq_nil_of_le→z27,getElem?_map→z28,cons_append→z29,map_append→z33
open Nat renaming pow_succ→z01,zero_le→z11,le_refl→z12,two_pow_pos→z13,zero_add→z14,strongRecOn→z16
open Bool renaming eq_iff_iff→z08
open Int renaming toNat_natCast→z30
namespace Go.Ck
def Qz:List (List Nat)→List Nat
 |[]=> []
 |[x]=>x
 |x::y::r=>kf x (Qz (y::r))
theorem Fa{x:List Nat}{t:List (List Nat)}(h:t≠ []):Qz (x::t)=kf x (Qz t):=by
 cases t with
 |nil=>exact absurd rfl h
 |cons y r=>rfl
def n8:List (List Nat)→List (List Nat)
 |[]=> []
 |[x]=> [x]
 |[x,y]=> [kf x y]
 |x::y::z::r=>x::n8 (y::z::r)
def joinN:Nat→List (List Nat)→List (List Nat)
 |0,t=>t
 |n+1,t=>joinN n (n8 t)
theorem wu:∀(t:List (List Nat)) (a b:List Nat),n8 (t++[a,b])=t++[kf a b]
 |[],a,b=>rfl
 |[x],a,b=>rfl
 |x::y::r,a,b=>by
  have h:=wu (y::r) a b;have:∃z r2,(y::r)++[a,b]=y::z::r2:=by
   cases r with
   |nil=>exact⟨a,[b],rfl⟩
   |cons c r=>exact⟨c,r++[a,b],rfl⟩
  obtain⟨z,r2,hz⟩:=this;show n8 (x::(y::r++[a,b]))=x::(y::r++[kf a b])
  rw[hz]at h⊢;rw[show n8 (x::y::z::r2)=x::n8 (y::z::r2)from rfl,h]
theorem uy:∀(t:List (List Nat)),2≤t.length→(n8 t).length=t.length-1
 |[],h=>by simp at h
 |[x],h=>by simp at h
 |[x,y],h=>rfl
 |x::y::z::r,h=>by
  have:=uy (y::z::r) (by simp)
  simp only[n8,z00]at this⊢;omega
theorem Xb{x:List Nat}{t:List (List Nat)}(h:2≤t.length):n8 (x::t)=x::n8 t:=by
 match t,h with
 |y::z::r,_=>rfl
theorem J3{x:List Nat}:∀(n:Nat) {t:List (List Nat)},n<t.length→joinN n (x::t)=x::joinN n t
 |0,t,h=>rfl
 |n+1,t,h=>by
  unfold joinN;rw[Xb (by omega),J3 n (by rw[uy t (by omega)];omega)]
theorem Kd:∀(t:List (List Nat)),Qz (n8 t)=Qz t
 |[]=>rfl
 |[x]=>rfl
 |[x,y]=>rfl
 |x::y::z::r=>by
  rw[show n8 (x::y::z::r)=x::n8 (y::z::r)from rfl,Fa,Kd (y::z::r)]
  ·rfl
  ·intro h;have:=uy (y::z::r) (by simp)
   rw[h]at this;simp at this
theorem Bm:∀(n:Nat) {t:List (List Nat)},t.length=n+1→joinN n t=[Qz t]
 |0,t,h=>by
  match t,h with
  |[x],_=>rfl
 |n+1,t,h=>by
  unfold joinN;rw[Bm n (by rw[uy t (by omega)];omega),Kd]
def stk(l:List (List Nat)):List (List Nat):=
 if h:l=[]then []else mroot (l.take (co (l.length+1)))::stk (l.drop (co (l.length+1)))
termination_by l.length
decreasing_by
 have h1:=fq (l.length+1);have h2:0<l.length:=z18.2 h;rw[z02];omega
theorem tf:stk []=[]:=by unfold stk;rfl
theorem nm{l:List (List Nat)}(h:l≠ []):stk l=mroot (l.take (co (l.length+1)))::stk (l.drop (co (l.length+1))):=by
 conv=>lhs;unfold stk
 rw[dif_neg h]
theorem ri{l:List (List Nat)}(h:0<l.length):l≠ []:=z18.1 h
theorem af1{l:List (List Nat)}(h:l≠ []):stk l≠ []:=by rw[nm h];simp
theorem ajv{l:List (List Nat)}(h:l≠ []):Qz (stk l)=mroot l:=by
 generalize hn:l.length=n
 induction n using z16 generalizing l with
 |_ n ih=>
  have hp:0<l.length:=z18.2 h;have h1:=iv (n:=l.length+1) (by omega)
  have h2:=Pb (n:=l.length+1) (by omega)
  have h3:=fq (l.length+1);obtain⟨k,hk⟩:=I8 (l.length+1);rw[nm h];by_cases he:l.length=co (l.length+1)
  ·rw[z15 (by omega),z27 (by omega),tf];rfl
  ·have hd:0<(l.drop (co (l.length+1))).length:=by rw[z02];omega
   rw[Fa (af1 (ri hd)),ih _ (by rw[z02];omega) (ri hd) rfl]
   have h4:co l.length=co (l.length+1):=by
    rw[hk]at he h1 h2⊢;exact rk (by omega) (by omega) (by omega)
   rw[oh (l:=l) (by omega),h4]
theorem Nc:∀(k:Nat) {l:List (List Nat)} (x:List Nat),l.length+1=2^k→(stk l).length=k∧Qz (stk l++[x])=mroot (l++[x])
 |0,l,x,h=>by
  obtain rfl:l=[]:=by simpa using h
  rw[tf];exact⟨rfl,by rw[z24,og];rfl⟩
 |k+1,l,x,h=>by
  rw[z01]at h;have hk:0<2^k:=z13 k;have h1:co (l.length+1)=2^k:=rk (by omega) (by omega) (by omega)
  obtain⟨e1,e2⟩:=Nc k (l:=l.drop (2^k)) x (by rw[z02];omega)
  rw[nm (ri (by omega)),h1]
  refine⟨by rw[z00,e1], ?_⟩
  rw[z29,Fa (by simp),e2,oh (l:=l++[x]) (by rw[z04,z03];omega),z04,z03,h1,
   z21 (by omega),z23 (by omega)]
theorem ant(k:Nat):zi (2^k)=k:=by
 induction k with
 |zero=>exact vr (by decide)
 |succ k ih=>
  have:=z13 k;rw[z01,ui (by omega) (by omega),Nat.mul_div_cancel _ (by omega),ih]
theorem Y7:∀(k a:Nat),0<a→a<2^k→zi (2^k+a)=zi a
 |0,a,h0,h=>by simp at h;omega
 |k+1,a,h0,h=>by
  rw[z01]at h⊢;by_cases ho:a % 2=1
  ·rw[vr ho,vr (by omega)]
  ·rw[ui (v:=a) (by omega) (by omega),ui (by omega) (by omega),show(2^k*2+a)/2=2^k+a/2 by omega,Y7 k (a/2) (by omega) (by omega)]
theorem ahm(l:List (List Nat))(x:List Nat):stk (l++[x])=joinN (zi (l.length+1)) (stk l++[x])∧zi (l.length+1)≤(stk l).length:=by
 generalize hn:l.length=n
 induction n using z16 generalizing l with
 |_ n ih=>
  by_cases h0:n=0
  ·obtain rfl:l=[]:=z22 (by omega)
   rw[z24,tf,h0,vr (by decide),nm (by simp)]
   have:co ([x].length+1)=1:=oq (by simp)
   rw[this];refine⟨?_,z12 _⟩;show mroot [x]::stk []=[x]
   rw[og,tf]
  have hl:l≠ []:=ri (by omega)
  have h1:=iv (n:=n+1) (by omega)
  have h2:=Pb (n:=n+1) (by omega)
  obtain⟨k,hk⟩:=I8 (n+1);have hkp:0<2^k:=z13 k;rw[hk]at h1 h2;have hla:(l++[x]).length=n+1:=by rw[z04,z03,hn]
  by_cases hb:n+1=2*2^k
  ·have hh:co (n+1+1)=2^ (k+1):=rk (by omega) (by rw[z01];omega) (by rw[z01];omega)
   obtain⟨e1,e2⟩:=Nc (k+1) (l:=l) x (by rw[z01];omega)
   have ht:zi (n+1)=k+1:=by rw[show n+1=2^ (k+1)by rw[z01];omega,ant]
   rw[ht];refine⟨?_,by omega⟩
   rw[nm (ri (by omega)),hla,hh,z15 (by rw[hla,z01];omega),z27 (by rw[hla,z01];omega),tf,
    Bm (k+1) (by rw[z04,z03,e1]),e2]
  ·have hh:co (n+1+1)=2^k:=rk (by omega) (by omega) (by omega)
   obtain⟨e1,e2⟩:=ih (n-2^k) (by omega) (l.drop (2^k)) (by rw[z02];omega)
   have ht:zi (n+1)=zi (n-2^k+1):=by
    rw[show n+1=2^k+(n-2^k+1)by omega,Y7 k _ (by omega) (by omega)]
   rw[ht,nm hl,hn,hk];refine⟨?_,by rw[z00];omega⟩
   rw[nm (ri (by omega)),hla,hh,z21 (by omega),z23 (by omega),e1,z29,
    J3 _ (by rw[z04,z03];omega)]
def az(ls:List (List Nat)):List PV:=ls.map (fun b=> .sl 1 (bytes b))
theorem bf(ls:List (List Nat)):(az ls).length=ls.length:=by simp[az]
theorem gz{ls:List (List Nat)}{i:Nat}{b:List Nat}(h:ls[i]?=some b):(az ls)[i]?=some (.sl 1 (bytes b)):=by unfold az;rw[z28,h];rfl
theorem ng(ls:List (List Nat))(n:Nat):(az ls).take n=az (ls.take n):=by simp[az]
theorem pt(ls:List (List Nat))(n:Nat):(az ls).drop n=az (ls.drop n):=by simp[az]
theorem ia(ls ms:List (List Nat)):az ls++az ms=az (ls++ms):=by simp[az]
theorem Bx(b:List Nat):[PV.sl 1 (bytes b)]=az [b]:=rfl
theorem pm{N:Nat}(hN:32≤N):∀(n:Nat) {l:List (List Nat)},l.length≤n→(∀x∈l,x.length≤N)→(mroot l).length≤N
 |n,[],_,_=>by rw[rj,qo];exact hN
 |n,[x],_,h=>by rw[og];exact h x (by simp)
 |n,x::y::r,_,h=>by rw[oh (by simp)];unfold kf;rw[qo];exact hN
theorem Bk{l:List (List Nat)}(h:∀x∈l,∀y∈x,y<256):∀y∈mroot l,y<256:=by
 match l,h with
 |[],_=>rw[rj];exact H7 _
 |[x],h=>rw[og];exact h x (by simp)
 |x::y::r,h=>rw[oh (by simp)];exact H7 _
theorem ap5{n j:Nat}(hn:1≤n)(h1:j=0∨2^j<n)(h2:n≤2^j*2):co n=2^j:=by
 rcases h1 with rfl|h1
 ·exact oq (by simpa using h2)
 ·exact rk (by have:=z13 j;omega) h1 (by omega)
theorem m3(l:List (List Nat))(i j:Nat):∀(n lo hi:Nat),hi-lo≤n→lo<hi→(gt l i j lo hi).length≤hi-lo
 |0,lo,hi,h,h2=>by omega
 |n+1,lo,hi,h,h2=>by
  unfold gt;split
  ·exact z11 _
  ·split
   ·simp only[z03];omega
   ·split
    ·exact z11 _
    ·rename_i h3;have h4:=iv (n:=hi-lo) (by omega)
     have h5:=fq (hi-lo);have h6:=m3 l i j n lo (lo+co (hi-lo)) (by omega) (by omega)
     have h7:=m3 l i j n (lo+co (hi-lo)) hi (by omega) (by omega)
     rw[z04];omega
theorem le(b:List Nat):(br b).length=32:=qo _
theorem W4(b:List Nat):∀y∈br b,y<256:=H7 _
theorem pj{l:List (List Nat)}{N:Nat}(hN:32≤N)(hx:∀x∈l,x.length≤N){i j:Nat}:∀(n lo hi:Nat),hi-lo≤n→∀x∈gt l i j lo hi,x.length≤N
 |n,lo,hi,h=>by
  unfold gt;split
  ·simp
  ·split
   ·intro x hx';rw[List.mem_singleton]at hx';subst hx';exact pm hN _ (z12 _) (fun x hx'=>hx x (z10 (z09 hx')))
   ·split
    ·simp
    ·rename_i h3;have h4:=iv (n:=hi-lo) (by omega)
     have h5:=fq (hi-lo)
     match n with
     |0=>omega
     |n+1=>
      intro x hx';rcases List.mem_append.1 hx' with h6|h6
      ·exact pj hN hx n _ _ (by omega) x h6
      ·exact pj hN hx n _ _ (by omega) x h6
set_option maxRecDepth 100000
set_option maxHeartbeats 400000
open Go.Proofs
theorem Mv(b:List Nat)(hl:b.length≤2^29):Fn Tryz.prog 57 [] [.pv (.sl 1 (bytes b))] (fun rs H'=>rs=[.pv (.sl 1 (bytes (br b)))]∧H'=[]):=by
 refine Fn.ob Tryz.f57 7 [.tmp 2] fun C=> ?_
 have hr:aw=140737488355328:=rfl;have m1:(1≤maxLen)=True:=eq_true (by unfold maxLen;decide)
 have ha:[PV.int .u8 0]++bytes b=bytes (0::b):=rfl;have ha2:PV.int .u8 0::bytes b=bytes (0::b):=rfl;have r1:(1+b.length≤aw)=True:=eq_true (by omega)
 have r2:(b.length+1≤aw)=True:=eq_true (by omega)
 refine aa ?_ (by simp only[go_sem,↓reduceIte,m1,ha,ha2,ba,z00,z07,z14,r1,r2]<;>rfl)
 refine ap (uj (0::b) (by rw[z00];omega)) (.lend rfl c7 .nil) ?_
 refine aa ?_;refine ac (.lend rfl c7 .nil) rfl
theorem ac5(a b:List Nat)(ha:a.length≤2^28)(hb:b.length≤2^28):Fn Tryz.prog 102 [] [.pv (.sl 1 (bytes a)),.pv (.sl 1 (bytes b))] (fun rs H'=>rs=[.pv (.sl 1 (bytes (kf a b)))]∧H'=[]):=by
 refine Fn.ob Tryz.f102 11 [.tmp 4] fun C=> ?_
 have hr:aw=140737488355328:=rfl;have m1:(1≤maxLen)=True:=eq_true (by unfold maxLen;decide)
 have h1:[PV.int .u8 1]++bytes a=bytes (1::a):=rfl;have h2:PV.int .u8 1::bytes a=bytes (1::a):=rfl;have h3:bytes (1::a)++bytes b=bytes (1::a++b):=bx _ _;have h4:kf a b=Gi (1::a++b):=rfl;have hl:(1::a++b).length=a.length+b.length+1:=by simp
 have r1:(1+a.length≤aw)=True:=eq_true (by omega)
 have r2:(a.length+1≤aw)=True:=eq_true (by omega)
 have r3:(a.length+1+b.length≤aw)=True:=eq_true (by omega)
 rw[h4];refine aa ?_ (by simp only[go_sem,↓reduceIte,m1,h1,h2,h3,ba,z00,z07,z14,r1,r2,r3]<;>rfl)
 refine av (args:=[.pv (.sl 1 (bytes (1::a++b)))]) (fun _=>0) (uj (1::a++b) (by omega)) (.lend rfl c7 .nil) ?_
 refine aa ?_;refine ac (.lend rfl c7 .nil) rfl
theorem Mz(n:Nat)(h0:1≤n)(hn:n≤2^40):Fn Tryz.prog 92 [] [.pv (.int .i64 n)] (fun rs H'=>rs=[.pv (.int .i64 (co n))]∧H'=[]):=by
 refine Fn.ob Tryz.f92 11 [.tmp 2] fun C=> ?_
 refine aa ?_;refine aq (fun j:Nat=>⟨11,[(3,.pv (.int .i64 ((2^j:Nat):Int))),(0,.pv (.int .i64 n))],[]⟩) (fun j=>j=0∨2^j<n) (fun j=>n-2^j) [3,0] [] 0 (.inl rfl) ?_
 rintro j hj K hK;have hp:=z13 j;have hle:2^j≤2^40:=by
  rcases hj with rfl|h
  ·decide
  ·omega
 have w2:IntKind.i64.wrap (((2^j:Nat):Int)*2)=((2^ (j+1):Nat):Int):=by
  rw[z01];exact au (n:=2^j*2) (by omega)
 have hs:2^ (j+1)=2^j*2:=z01 2 j;by_cases hc:2^ (j+1)<n
 ·have d1:decide (((2^ (j+1):Nat):Int)<(n:Int))=true:=decide_eq_true (by omega)
  have d1':decide (2^ (j+1)<n)=true:=decide_eq_true hc;refine aa ?_ (by simp only[go_sem,↓reduceIte,w2,d1,d1']<;>rfl)
  refine am rfl ?_;refine aa ?_ (by simp only[go_sem,↓reduceIte,w2]<;>rfl)
  exact ah hK (j+1) (.inr hc) (by omega)
 ·have d1:decide (((2^ (j+1):Nat):Int)<(n:Int))=false:=decide_eq_false (by omega)
  have d1':decide (2^ (j+1)<n)=false:=decide_eq_false hc;rw[ap5 h0 hj (by omega)]
  refine aa ?_ (by simp only[go_sem,↓reduceIte,w2,d1,d1']<;>rfl)
  refine ae rfl ?_;refine aa ?_;refine ac (.pv _ .nil) rfl
theorem L9(n:Nat):∀(l:List (List Nat)),l.length=n→n≤2^40→(∀x∈l,x.length≤2^27)→Fn Tryz.prog 65 [] [.pv (.sl 1 (az l))] (fun rs H'=>rs=[.pv (.sl 1 (bytes (mroot l)))]∧H'=[]):=by
 induction n using z16 with
 |_ n ih=>
  intro l hln hn hx;refine Fn.ob Tryz.f65 28 [.tmp 2] fun C=> ?_
  have hr:aw=140737488355328:=rfl;have d0:((l.length:Int)==0)=decide (l.length=0):=by rw[z08];simp
  have d1:((l.length:Int)==1)=decide (l.length=1):=by rw[z08];simp;omega
  by_cases h0:l.length=0
  ·obtain rfl:l=[]:=z22 h0;rw[decide_eq_true h0]at d0;rw[rj];refine aa ?_ (by simp only[go_sem,↓reduceIte,bf,d0]<;>rfl)
   refine am rfl ?_;refine aa ?_;refine av (args:=[.pv (.sl 1 (bytes []))]) (fun _=>0) (uj [] (by decide)) (.nilsP 1 .nil) ?_
   refine aa ?_;refine ac (.lend rfl c7 .nil) rfl
  rw[decide_eq_false h0]at d0;refine aa ?_ (by simp only[go_sem,↓reduceIte,bf,d0]<;>rfl)
  refine ae rfl ?_;by_cases h1:l.length=1
  ·obtain⟨x,rfl⟩:∃x,l=[x]:=List.length_eq_one_iff.1 h1
   rw[decide_eq_true h1]at d1;rw[og];have g0:(az [x])[0]?=some (.sl 1 (bytes x)):=rfl;have hxl:=hx x (by simp)
   have r1:(x.length≤aw)=True:=eq_true (by omega)
   refine aa ?_ (by simp only[go_sem,↓reduceIte,bf,d1]<;>rfl)
   refine am rfl ?_;refine aa ?_ (by simp only[go_sem,↓reduceIte,g0,ba,z07,z14,z24,r1]<;>rfl)
   refine ac (.lend rfl c7 .nil) rfl
  rw[decide_eq_false h1]at d1;have hl2:2≤l.length:=by omega
  have hp:=fq l.length;have hh:=iv hl2;have hA:=ih (l.take (co l.length)).length (by rw[z05];omega) (l.take (co l.length)) rfl (by rw[z05];omega) (fun x hx'=>hx x (z09 hx'))
  have hB:=ih (l.drop (co l.length)).length (by rw[z02];omega) (l.drop (co l.length)) rfl (by rw[z02];omega) (fun x hx'=>hx x (z10 hx'))
  have bA:=pm (N:=2^27) (by decide) _ (z12 (l.take (co l.length)).length) (fun x hx'=>hx x (z09 hx'))
  have bB:=pm (N:=2^27) (by decide) _ (z12 (l.drop (co l.length)).length) (fun x hx'=>hx x (z10 hx'))
  have hN:=ac5 (mroot (l.take (co l.length))) (mroot (l.drop (co l.length))) (by omega) (by omega)
  have hhf:=Mz l.length (by omega) (by omega)
  rw[oh hl2];generalize co l.length=k at*;have hk1:(k≤l.length)=True:=eq_true (by omega)
  have htk:=ng l k;have hdk:=pt l k;have hdl:(az (l.drop k)).take ((l.length:Int)-(k:Int)).toNat=az (l.drop k):=z15 (by rw[bf,z02];omega)
  refine aa ?_ (by simp only[go_sem,↓reduceIte,bf,d1]<;>rfl)
  refine ae rfl ?_;refine aa ?_ (by simp only[go_sem,↓reduceIte,bf]<;>rfl)
  refine ap hhf (.pv _ .nil) ?_;refine aa ?_;refine cr ?_;refine bu [[],[],[19,20]] ?_ (by simp only[go_sem,↓reduceIte,bf,hk1,htk]<;>rfl)
  refine CK.call (ps:=[_]) [21] hA ?_;refine bu [[],[],[23,24]] ?_ (by simp only[go_sem,↓reduceIte,bf,hk1,hdk,hdl]<;>rfl)
  refine CK.call (ps:=[_]) [25] hB ?_;refine CK.call (ps:=[_,_]) [22,26] hN ?_;refine CK.done (M:=9) 1 mixed ?_;refine bp (fuel:=0) (listed':=Array.replicate 10 true) [9] ?_ (by decide+kernel)
  refine ak ?_;refine a8 (by decide+kernel) ?_
  refine aa ?_;refine ac (.pv _ .nil) rfl
theorem aa8(l:List (List Nat))(i j:Nat)(hll:l.length≤2^40)(hx:∀x∈l,x.length≤2^27)(hij:i≤j)(hj:j<2^40)(n:Nat):∀(lo hi:Nat),hi-lo=n→lo<hi→hi≤l.length→
  Fn Tryz.prog 56 [] [.pv (.sl 1 (az l)),.pv (.int .i64 lo),.pv (.int .i64 hi),.pv (.int .i64 i),.pv (.int .i64 j)] (fun rs H'=>rs=[.own 22 (az (gt l i j lo hi))]∧H'=[]):=by
 induction n using z16 with
 |_ n ih=>
  intro lo hi hn hlo hhi;refine Fn.ob Tryz.f56 55 [.tmp 10] fun C=> ?_
  have hr:aw=140737488355328:=rfl;have m1:(1≤maxLen)=True:=eq_true (by unfold maxLen;decide)
  have w1:IntKind.i64.wrap ((hi:Int)-1)=((hi-1:Nat):Int):=by rw[an (by omega) (by omega)];omega
  have dA:decide ((i:Int)≤(lo:Int))=decide (i≤lo):=by rw[z08];simp
  have dB:decide (((hi-1:Nat):Int)≤(j:Int))=decide (hi-1≤j):=by rw[z08];simp
  have dC:decide ((j:Int)<(lo:Int))=decide (j<lo):=by rw[z08];simp
  have dD:decide (((hi-1:Nat):Int)<(i:Int))=decide (hi-1<i):=by rw[z08];simp
  by_cases h1:i≤lo∧hi≤j+1
  ·have e1:gt l i j lo hi=[]:=by unfold gt;rw[if_pos h1]
   rw[decide_eq_true h1.1]at dA;rw[decide_eq_true (show hi-1≤j by omega)]at dB
   have dA':decide (i≤lo)=true:=decide_eq_true h1.1;have dB':decide (hi-1≤j)=true:=decide_eq_true (by omega)
   rw[e1];refine ak ?_ (by simp only[go_sem,↓reduceIte,w1,dA,dB,dA',dB']<;>rfl)
   refine am rfl ?_;refine aa ?_;refine ac (.move rfl .nil) rfl
  refine Aj (T:= ?T1) (fun hT=> ?_) ?_;rotate_left
  ·by_cases ha:i≤lo
   ·rw[decide_eq_true ha]at dA;have hb:¬hi-1≤j:=fun h=>h1 ⟨ha,by omega⟩
    rw[decide_eq_false hb]at dB;have dA':decide (i≤lo)=true:=decide_eq_true ha;have dB':decide (hi-1≤j)=false:=decide_eq_false hb;refine ak ?_ (by simp only[go_sem,↓reduceIte,w1,dA,dB,dA',dB']<;>rfl)
    refine bq [0,1,2,3,4,20] [] (s':=⟨55,[(0,.pv (.sl 1 (az l))),(1,.pv (.int .i64 lo)),(2,.pv (.int .i64 hi)),(3,.pv (.int .i64 i)),(4,.pv (.int .i64 j)),(20,.pv (.bool false))],[]⟩) ?_;exact hT ()
   ·rw[decide_eq_false ha]at dA;have dA':decide (i≤lo)=false:=decide_eq_false ha;refine ak ?_ (by simp only[go_sem,↓reduceIte,w1,dA,dA']<;>rfl)
    refine bq [0,1,2,3,4,20] [] (s':=⟨55,[(0,.pv (.sl 1 (az l))),(1,.pv (.int .i64 lo)),(2,.pv (.int .i64 hi)),(3,.pv (.int .i64 i)),(4,.pv (.int .i64 j)),(20,.pv (.bool false))],[]⟩) ?_;exact hT ()
  refine ae rfl ?_;by_cases h2:j<lo∨hi≤i
  ·have e1:gt l i j lo hi=[mroot ((l.drop lo).take (hi-lo))]:=by unfold gt;rw[if_neg h1,if_pos h2]
   rw[e1];refine Aj (T:= ?T2) (fun hT=> ?_) ?_;rotate_left
   ·by_cases ha:j<lo
    ·rw[decide_eq_true ha]at dC;have dC':decide (j<lo)=true:=decide_eq_true ha;refine ak ?_ (by simp only[go_sem,↓reduceIte,w1,dC,dC']<;>rfl)
     refine bq [0,1,2,29] [] (s':=⟨55,[(0,.pv (.sl 1 (az l))),(1,.pv (.int .i64 lo)),(2,.pv (.int .i64 hi)),(29,.pv (.bool true))],[]⟩) ?_;exact hT ()
    ·rw[decide_eq_false ha]at dC;rw[decide_eq_true (show hi-1<i by omega)]at dD
     have dC':decide (j<lo)=false:=decide_eq_false ha;have dD':decide (hi-1<i)=true:=decide_eq_true (by omega)
     refine ak ?_ (by simp only[go_sem,↓reduceIte,w1,dC,dC',dD,dD']<;>rfl)
     refine bq [0,1,2,29] [] (s':=⟨55,[(0,.pv (.sl 1 (az l))),(1,.pv (.int .i64 lo)),(2,.pv (.int .i64 hi)),(29,.pv (.bool true))],[]⟩) ?_;exact hT ()
   refine am rfl ?_;have hk1:(lo≤hi)=True:=eq_true (by omega)
   have hk2:(hi≤l.length)=True:=eq_true hhi;have hdr:=pt l lo;have hsub:((hi:Int)-(lo:Int)).toNat=hi-lo:=by omega
   have htk:=ng (l.drop lo) (hi-lo);have hroot:=L9 ((l.drop lo).take (hi-lo)).length ((l.drop lo).take (hi-lo)) rfl (by rw[z05];omega) (fun x hx'=>hx x (z10 (z09 hx')))
   refine aa ?_ (by simp only[go_sem,↓reduceIte,bf,hk1,hk2,hdr,hsub,htk]<;>rfl)
   refine ap hroot (.pv _ .nil) ?_;refine aa ?_ (by simp only[go_sem,↓reduceIte,m1]<;>rfl)
   refine ac (.move rfl .nil) rfl
  have h3:¬hi≤lo+1:=by omega
  have hh:=iv (n:=hi-lo) (by omega)
  have hp:=fq (hi-lo);have e1:gt l i j lo hi=gt l i j lo (lo+co (hi-lo))++gt l i j (lo+co (hi-lo)) hi:=by
   conv=>lhs;unfold gt
   rw[if_neg h1,if_neg h2,dif_neg h3]
  have hA:=ih (co (hi-lo)) (by omega) lo (lo+co (hi-lo)) (by omega) (by omega) (by omega)
  have hB:=ih (hi-(lo+co (hi-lo))) (by omega) (lo+co (hi-lo)) hi rfl (by omega) hhi
  have lA:=m3 l i j _ lo (lo+co (hi-lo)) (z12 _) (by omega)
  have lB:=m3 l i j _ (lo+co (hi-lo)) hi (z12 _) (by omega)
  have hhf:=Mz (hi-lo) (by omega) (by omega)
  rw[e1];generalize co (hi-lo)=k at*;generalize gt l i j lo (lo+k)=X at*;generalize gt l i j (lo+k) hi=Y at*;have w2:IntKind.i64.wrap ((hi:Int)-(lo:Int))=((hi-lo:Nat):Int):=by rw[an (by omega) (by omega)];omega
  have w3:IntKind.i64.wrap ((lo:Int)+(k:Int))=((lo+k:Nat):Int):=au (n:=lo+k) (by omega)
  have hc:¬j<lo:=fun h=>h2 (.inl h)
  have hd:¬hi-1<i:=fun h=>h2 (.inr (by omega))
  rw[decide_eq_false hc]at dC;rw[decide_eq_false hd]at dD;have dC':decide (j<lo)=false:=decide_eq_false hc;have dD':decide (hi-1<i)=false:=decide_eq_false hd;have ha:az X++az Y=az (X++Y):=ia X Y;have r1:((X.length+Y.length)*24≤aw)=True:=eq_true (by omega)
  have r2:(X.length+Y.length≤aw)=True:=eq_true (by omega)
  refine ak ?_ (by simp only[go_sem,↓reduceIte,w1,dC,dC',dD,dD']<;>rfl)
  refine ae rfl ?_;refine aa ?_ (by simp only[go_sem,↓reduceIte,w2]<;>rfl)
  refine ap hhf (.pv _ .nil) ?_;refine aa ?_ (by simp only[go_sem,↓reduceIte,w3]<;>rfl)
  refine ap hA (.pv _ (.pv _ (.pv _ (.pv _ (.pv _ .nil))))) ?_;refine aa ?_;refine ap hB (.pv _ (.pv _ (.pv _ (.pv _ (.pv _ .nil))))) ?_;refine aa ?_ (by simp only[go_sem,↓reduceIte,ha,bf,r1,r2]<;>rfl)
  refine ac (.move rfl .nil) rfl
theorem Ue(l:List (List Nat))(hll:l.length≤2^40)(hx:∀x∈l,x.length≤2^27):Fn Tryz.prog 23 [] [.pv (.sl 1 (az l))] (fun rs H'=>rs=[.own 22 (az (l.map br))]∧H'=[]):=by
 refine Fn.ob Tryz.f23 20 [.tmp 2] fun C=> ?_
 have hr:aw=140737488355328:=rfl;have m1:(1≤maxLen)=True:=eq_true (by unfold maxLen;decide)
 refine aa ?_;refine aq (fun i:Nat=>⟨20,[(4,.pv (.int .i64 i)),(0,.pv (.sl 1 (az l))),(3,.own 22 (az ((l.take i).map br)))],[]⟩) (fun i=>i≤l.length) (fun i=>l.length-i) [4,0,3] [] 0 (z11 _) ?_
 rintro i hi K hK;refine aa ?_ (by simp only[go_sem,↓reduceIte,bf]<;>rfl)
 refine AW.cond rfl (fun hc=> ?_) (fun hc=> ?_)
 ·have hlt:i<l.length:=by have:=of_decide_eq_true hc;omega
  obtain⟨b,hb⟩:∃b,l[i]?=some b:=⟨l[i],z06 hlt⟩
  have hg:=gz hb;have hbl:=hx b (z17 hb);have ei:IntKind.i64.wrap ((i:Int)+1)=((i+1:Nat):Int):=ai (by omega)
  have hs:az ((l.take i).map br)++[.sl 1 (bytes (br b))]=az ((l.take (i+1)).map br):=by
   have h1:l.take (i+1)=l.take i++[b]:=by
    obtain⟨h,rfl⟩:=z26.1 hb;exact z19 h
   rw[h1,z33,←ia];rfl
  have hl2:((l.take i).map br).length=i:=by rw[z25,z05];omega
  have r1:((i+1)*24≤aw)=True:=eq_true (by omega)
  have r2:(i+1≤aw)=True:=eq_true (by omega)
  refine aa ?_ (by simp only[go_sem,↓reduceIte,hg]<;>rfl)
  refine ap (Mv b (by omega)) (.pv _ .nil) ?_
  refine aa ?_ (by simp only[go_sem,↓reduceIte,m1,hs,bf,hl2,z00,z07,z14,r1,r2,ei]<;>rfl)
  exact ah hK (i+1) (by omega) (by omega)
 have hge:i=l.length:=by have:=of_decide_eq_false hc;omega
 subst hge;rw[z20];refine aa ?_;refine ac (.move rfl .nil) rfl
theorem Tv(l:List (List Nat))(hll:l.length≤2^40)(hx:∀x∈l,x.length≤2^27):Fn Tryz.prog 30 [] [.pv (.sl 1 (az l))] (fun rs H'=>rs=[.pv (.sl 1 (bytes (mroot (l.map br))))]∧H'=[]):=by
 refine Fn.ob Tryz.f30 21 [.tmp 2] fun C=> ?_
 have hr:aw=140737488355328:=rfl;have m1:(1≤maxLen)=True:=eq_true (by unfold maxLen;decide)
 refine aa ?_;refine aq (fun i:Nat=>⟨21,[(4,.pv (.int .i64 i)),(0,.pv (.sl 1 (az l))),(3,.own 22 (az ((l.take i).map br)))],[]⟩) (fun i=>i≤l.length) (fun i=>l.length-i) [4,0,3] [] 0 (z11 _) ?_
 rintro i hi K hK;refine aa ?_ (by simp only[go_sem,↓reduceIte,bf]<;>rfl)
 refine AW.cond rfl (fun hc=> ?_) (fun hc=> ?_)
 ·have hlt:i<l.length:=by have:=of_decide_eq_true hc;omega
  obtain⟨b,hb⟩:∃b,l[i]?=some b:=⟨l[i],z06 hlt⟩
  have hg:=gz hb;have hbl:=hx b (z17 hb);have ei:IntKind.i64.wrap ((i:Int)+1)=((i+1:Nat):Int):=ai (by omega)
  have hs:az ((l.take i).map br)++[.sl 1 (bytes (br b))]=az ((l.take (i+1)).map br):=by
   have h1:l.take (i+1)=l.take i++[b]:=by
    obtain⟨h,rfl⟩:=z26.1 hb;exact z19 h
   rw[h1,z33,←ia];rfl
  have hl2:((l.take i).map br).length=i:=by rw[z25,z05];omega
  have r1:((i+1)*24≤aw)=True:=eq_true (by omega)
  have r2:(i+1≤aw)=True:=eq_true (by omega)
  refine aa ?_ (by simp only[go_sem,↓reduceIte,hg]<;>rfl)
  refine ap (Mv b (by omega)) (.pv _ .nil) ?_
  refine aa ?_ (by simp only[go_sem,↓reduceIte,m1,hs,bf,hl2,z00,z07,z14,r1,r2,ei]<;>rfl)
  exact ah hK (i+1) (by omega) (by omega)
 have hge:i=l.length:=by have:=of_decide_eq_false hc;omega
 subst hge;rw[z20];have hrt:=L9 (l.map br).length (l.map br) rfl (by rw[z25];omega) (fun x hx'=>by
  obtain⟨y,_,rfl⟩:=List.mem_map.1 hx';rw[le];decide)
 refine bj (.slot 3) ?_;refine aa ?_;refine ap hrt (.pv _ .nil) ?_;refine aa ?_;refine ac (.pv _ .nil) rfl
theorem Wo(l:List (List Nat))(i j:Int)(hll:l.length≤2^39)(hx:∀x∈l,x.length≤2^27):Fn Tryz.prog 22 [] [.pv (.sl 1 (az l)),.pv (.int .i64 i),.pv (.int .i64 j)] (fun rs H'=>rs=[.own 22 (az (cu l i j).1),.pv (.int .i64 (cu l i j).2)]∧H'=[]):=by
 refine Fn.ob Tryz.f22 27 [.tmp 6,.tmp 7] fun C=> ?_
 unfold cu;by_cases hbad:i<0∨j<i∨(l.length:Int)≤j
 ·rw[if_pos hbad];refine Aj (T:= ?T1) (fun hT=> ?_) ?_;rotate_left
  ·by_cases h1:i<0
   ·have d1:decide (i<0)=true:=decide_eq_true h1;refine ak ?_ (by simp only[go_sem,↓reduceIte,d1]<;>rfl)
    refine bq [20] [] (s':=⟨27,[(20,.pv (.bool true))],[]⟩) ?_;exact hT ()
   ·have d1:decide (i<0)=false:=decide_eq_false h1;by_cases h2:j<i
    ·have d2:decide (j<i)=true:=decide_eq_true h2;refine ak ?_ (by simp only[go_sem,↓reduceIte,d1,d2]<;>rfl)
     refine bq [20] [] (s':=⟨27,[(20,.pv (.bool true))],[]⟩) ?_;exact hT ()
    ·have d2:decide (j<i)=false:=decide_eq_false h2;have d3:decide (j≥(l.length:Int))=true:=decide_eq_true (by omega)
     have d3':decide ((l.length:Int)≤j)=true:=decide_eq_true (by omega)
     refine ak ?_ (by simp only[go_sem,↓reduceIte,bf,d1,d2,d3,d3']<;>rfl)
     refine bq [20] [] (s':=⟨27,[(20,.pv (.bool true))],[]⟩) ?_;exact hT ()
  refine am rfl ?_;refine aa ?_;refine ac (.move rfl (.pv _ .nil)) rfl
 rw[if_neg hbad];obtain⟨a,rfl⟩:∃a:Nat,i=(a:Int):=⟨i.toNat,by omega⟩
 obtain⟨b,rfl⟩:∃b:Nat,j=(b:Int):=⟨j.toNat,by omega⟩
 have d1:decide ((a:Int)<0)=false:=decide_eq_false (by omega)
 have d2:decide ((b:Int)<(a:Int))=false:=decide_eq_false (by omega)
 have d2':decide (b<a)=false:=decide_eq_false (by omega)
 have d3:decide ((b:Int)≥(l.length:Int))=false:=decide_eq_false (by omega)
 have d3':decide (l.length≤b)=false:=decide_eq_false (by omega)
 have hw:=aa8 l a b (by omega) hx (by omega) (by omega) l.length 0 l.length (by omega) (by omega) (z12 _)
 rw[z30,z30];refine ak ?_ (by simp only[go_sem,↓reduceIte,bf,d1,d2,d2',d3,d3']<;>rfl)
 refine ae rfl ?_;refine aa ?_ (by simp only[go_sem,↓reduceIte,bf]<;>rfl)
 refine av (args:=[.pv (.sl 1 (az l)),.pv (.int .i64 ((0:Nat):Int)),.pv (.int .i64 l.length),.pv (.int .i64 a),.pv (.int .i64 b)]) (fun _=>0) hw (.pv _ (.pv _ (.pv _ (.pv _ (.pv _ .nil))))) ?_
 refine aa ?_;refine ac (.move rfl (.pv _ .nil)) rfl
theorem R4(v:Nat)(hv:v<2^64):Fn Tryz.prog 131 [] [.pv (.int .u64 v)] (fun rs H'=>rs=[.pv (.int .i64 (dg v:Nat))]∧H'=[]):=by
 refine Fn.ob Tryz.f131 25 [.tmp 2] fun C=> ?_
 have s32:∀v:Nat,mo .u64 (v:Int) 32=((v/2^32:Nat):Int):=fun v=>j7 .u64 v 32 (by decide)
 have s16:∀v:Nat,mo .u64 (v:Int) 16=((v/2^16:Nat):Int):=fun v=>j7 .u64 v 16 (by decide)
 have s8:∀v:Nat,mo .u64 (v:Int) 8=((v/2^8:Nat):Int):=fun v=>j7 .u64 v 8 (by decide)
 refine aa ?_;refine pi (fun a:Nat×Nat=>⟨25,[(0,.pv (.int .u64 a.1)),(2,.pv (.int .i64 a.2))],[]⟩) (fun a=>a.1<2^32∧dg v=a.2+dg a.1∧a.2≤32) [0,2] [] ?_ ?_
 ·intro K hK;refine AW.cond rfl (fun hc=> ?_) (fun hc=> ?_)
  ·refine aa ?_;refine jh hK (v/2^32,32) ⟨by simp only;omega, ?_,by simp⟩ (by simp only[go_sem,↓reduceIte]) (by simp only[go_sem,↓reduceIte,s32]<;>rfl)
   exact By 32 (by simp at hc;omega)
  ·refine aa ?_;refine jh hK (v,0) ⟨by simp at hc;simp only;omega,by simp,by simp⟩
 rintro⟨u,m⟩ ⟨hu,hm,hm2⟩;simp only at hu hm hm2;refine aa ?_;refine pi (fun a:Nat×Nat=>⟨25,[(0,.pv (.int .u64 a.1)),(2,.pv (.int .i64 a.2))],[]⟩) (fun a=>a.1<2^16∧dg v=a.2+dg a.1∧a.2≤48) [0,2] [] ?_ ?_
 ·intro K hK;refine AW.cond rfl (fun hc=> ?_) (fun hc=> ?_)
  ·have e:IntKind.i64.wrap ((m:Int)+16)=((m+16:Nat):Int):=by rw[an (by omega) (by omega)];omega
   refine aa ?_;refine jh hK (u/2^16,m+16) ⟨by simp only;omega, ?_,by simp only;omega⟩ (by simp only[go_sem,↓reduceIte]) (by simp only[go_sem,↓reduceIte,s16,e]<;>rfl)
   have:=By 16 (v:=u) (by simp at hc;omega)
   simp only;omega
  ·refine aa ?_;refine jh hK (u,m) ⟨by simp at hc;simp only;omega,hm,by simp only;omega⟩
 clear hu hm hm2;rintro⟨u,m⟩ ⟨hu,hm,hm2⟩;simp only at hu hm hm2;refine aa ?_;refine pi (fun a:Nat×Nat=>⟨25,[(0,.pv (.int .u64 a.1)),(2,.pv (.int .i64 a.2))],[]⟩) (fun a=>a.1<2^8∧dg v=a.2+dg a.1∧a.2≤56) [0,2] [] ?_ ?_
 ·intro K hK;refine AW.cond rfl (fun hc=> ?_) (fun hc=> ?_)
  ·have e:IntKind.i64.wrap ((m:Int)+8)=((m+8:Nat):Int):=by rw[an (by omega) (by omega)];omega
   refine aa ?_;refine jh hK (u/2^8,m+8) ⟨by simp only;omega, ?_,by simp only;omega⟩ (by simp only[go_sem,↓reduceIte]) (by simp only[go_sem,↓reduceIte,s8,e]<;>rfl)
   have:=By 8 (v:=u) (by simp at hc;omega)
   simp only;omega
  ·refine aa ?_;refine jh hK (u,m) ⟨by simp at hc;simp only;omega,hm,by simp only;omega⟩
 clear hu hm hm2;rintro⟨u,m⟩ ⟨hu,hm,hm2⟩;simp only at hu hm hm2;have e8:IntKind.u8.wrap (u:Int)=(u:Int):=fi hu;refine aa ?_ (by simp only[go_sem,↓reduceIte,e8]<;>rfl)
 refine U4 (UInt8.ofNat (bl8 u)) (ho:=rfl) rfl rfl ?_ ?_
 ·clear e8 hm
  revert u
  decide+kernel
 ·have h8:=aCd u;have ec:((UInt8.ofNat (bl8 u)).toNat:Int)=(dg u:Nat):=by
   rw[UInt8.toNat_ofNat',Nat.mod_eq_of_lt (by omega),aj5 hu]
  have hb8:=fh.2 hu;have e1:IntKind.i64.wrap ((dg u:Nat):Int)=(dg u:Nat):=au (by omega)
  have e2:IntKind.i64.wrap ((m:Int)+(dg u:Nat))=((dg v:Nat):Int):=by rw[hm];exact au (n:=m+dg u) (by omega)
  refine aa ?_ (by simp only[go_sem,↓reduceIte,ec,e1,e2]<;>rfl)
  refine ac (.pv _ .nil) rfl
theorem gt0:(1,km)∈Q4 Tryz.prog:=by
 have:Q4 Tryz.prog=[(1,km)]:=by kernel_rfl
 rw[this];exact List.mem_singleton_self _
theorem aJr:∀t:Nat,t<64→km[2^t*285870213051353865 % 2^64/2^58]?=some t:=by decide+kernel
theorem anu{v:Nat}(h0:v≠0)(hv:v<2^64):∃p j:Nat,ef .and .u64 (v:Int) (IntKind.u64.wrap (0-(v:Int)))=(p:Int)∧mo .u64 (IntKind.u64.wrap ((p:Int)*285870213051353865)) 58=(j:Int)∧j<64∧km[j]?=some (zi v):=by
 refine⟨2^zi v,2^zi v*285870213051353865 % 2^64/2^58, ?_, ?_,by omega,aJr _ (N5 h0 hv)⟩
 ·have:IntKind.u64.wrap (0-(v:Int))=((2^64-v:Nat):Int):=by rw[IntKind.wrap_u64];omega
  rw[this,y7 hv (by omega),ai3 h0 hv]
 ·generalize 2^zi v=p;have h1:(p:Int)*285870213051353865=((p*285870213051353865:Nat):Int):=by omega
  rw[h1,wrap_u64];exact j7 .u64 _ 58 (by decide)
theorem aEv(v:Nat)(hv:v<2^64):Fn Tryz.prog 115 [] [.pv (.int .u64 v)] (fun rs H'=>rs=[.pv (.int .i64 ((if v=0 then 64 else zi v:Nat):Int))]∧H'=[]):=by
 refine Fn.ob Tryz.f115 14 [.tmp 2] fun C=> ?_
 refine aa ?_;refine AW.cond rfl (fun hc=> ?_) (fun hc=> ?_)
 ·have h0:v=0:=by simpa using hc
  rw[if_pos h0];refine aa ?_;refine ac (.pv _ .nil) rfl
 ·have h0:v≠0:=by simpa using hc
  rw[if_neg h0];obtain⟨p,j,e1,e2,hj,hd⟩:=anu h0 hv;have ht:=N5 h0 hv;generalize zi v=t at*;refine aa ?_ (by simp only[go_sem,↓reduceIte,e1,e2]<;>rfl)
  have hget:(km.map fun(j:Nat)=>PV.int .u8 (j:Int))[j]?=some (.int .u8 (t:Nat)):=by rw[z28,hd];rfl
  refine Yh (ho:=rfl) (l:=km) gt0 rfl hj N6 ?_;have e4:IntKind.i64.wrap ((t:Nat):Int)=(t:Nat):=au (by omega)
  refine aa ?_ (by simp only[go_sem,↓reduceIte,hget,e4]<;>rfl)
  refine ac (.pv _ .nil) rfl
theorem aho:Fn Tryz.prog 72 [] [] (fun rs H'=>rs=[.fn 107 []]∧H'=[]):=by
 refine Fn.ob Tryz.f72 1 [.tmp 0] fun C=> ?_
 refine aa ?_;refine ac (.fn rfl .nil) rfl
theorem Wc:afh Tryz.prog 107 [] [] szs:=by
 refine afh.of_body (fn:=Tryz.f107) (n:=15) (by kernel_rfl) rfl rfl rfl rfl (fun l X X0 N hY hN=> ?_)
 refine aa ?_;refine Tf (n:=9) (fun m C s=> ∃i,m=9-i∧i≤9∧i≤N∧C=plain (X i)∧keepB [0,2,3] [] s=⟨15,[(0,.yl l),(2,.pv (.int .i64 i)),(3,.pv (.int .i64 (xm i:Int)))],[]⟩∧qi none [0,2,3] [] s=true) ⟨0,rfl,by omega,z11 _,rfl,by simp only[go_sem,↓reduceIte]<;>rfl,by simp only[go_sem,↓reduceIte]⟩ ?_
 rintro m C s ⟨i,rfl,hi,hiN,rfl,hs,hk⟩;refine AW.keepB [0,2,3] [] hk hs ?_;have hin:=az1 i hi;have hle:=H4 i hi;have hsu:=Rf i;refine aa ?_;refine AW.cond rfl (fun hc=> ?_) (fun hc=> ?_)
 ·have h8:i≤8:=hin.1 (by have:=of_decide_eq_true hc;omega)
  have hxi:szs i=some [.int .i64 (i:Int),.int .i64 (xm i:Int)]:=by unfold szs;rw[if_pos (by omega)]
  by_cases hn:i=N
  ·rcases hN with h|h
   ·rw[←hn,hxi]at h;cases h
   ·rw[hn];exact Yj h
  obtain⟨p,hp,hY1⟩:=hY _ (by omega:i<N)
  rw[hxi]at hp;cases hp
  have e1:IntKind.i64.wrap ((i:Int)+1)=((i+1:Nat):Int):=ai (by omega)
  have e2:IntKind.i64.wrap ((xm i:Int)*4)=(xm (i+1):Int):=by rw[an (by omega) (by omega),hsu];omega
  refine aa ?_;refine AW.yield hY1 rfl rfl ?_ ?_
  ·refine aa ?_;refine ae rfl ?_;refine aa ?_ (by simp only[go_sem,↓reduceIte,e1,e2]<;>rfl)
   refine AW.stop ⟨9-(i+1),by omega,i+1,rfl,by omega,by omega,rfl,by simp only[go_sem,↓reduceIte]<;>rfl,by simp only[go_sem,↓reduceIte]⟩
  ·refine aa ?_;refine am rfl ?_;refine aa ?_;exact AW.nil ⟨.inr rfl,.inr rfl⟩
 ·have h9:i=9:=by
   have:=of_decide_eq_false hc;apply Classical.byContradiction;intro h
   have:=hin.2 (by omega);omega
  subst h9;have hend:szs 9=none:=rfl;have hNe:9=N:=by
   apply Classical.byContradiction
   intro hne;obtain⟨p,hp,_⟩:=hY _ (by omega:9<N)
   rw[hend]at hp;cases hp
  rw[hNe]at hend;rw[hNe];refine aa ?_;exact AW.nil ⟨.inl rfl,.inl ⟨hend,rfl⟩⟩
theorem Ou(k:Int):Fn Tryz.prog 36 [] [.pv (.int .i64 k)] (fun rs H'=>rs=[.pv (.int .i64 (c9 k:Nat))]∧H'=[]):=by
 refine U2 (fn:=Tryz.f36) (n:=14) (res:=[.tmp 2]) (by kernel_rfl) rfl rfl rfl rfl rfl (fun C=> ?_)
 rw[←ah7];refine aa ?_;refine ap aho .nil ?_;refine aa ?_;refine AW.rangeFunc [1,3] [1,3] (fun i hp=>hp=[(1,.cells 3 [.pv (.int .i64 k)]),(3,.cells 3 [.pv (.int .i64 (r7 k i:Nat))])]) (fun _ _=>False) 9 Wc rfl (by simp only[go_sem,↓reduceIte]) (by simp only[go_sem,↓reduceIte]) (by simp only[go_sem,↓reduceIte]) (by simp only[go_sem,↓reduceIte]<;>rfl) rfl rfl rfl rfl (by rw[ah8];rfl) ?_ ?_ (.inl rfl) ?_ ?_ ?_
 ·intro i p hp;unfold szs at hp;split at hp
  ·cases hp;rfl
  ·cases hp
 ·intro i hi;exact⟨_,by unfold szs;rw[if_pos hi]⟩
 ·intro i p hi hp;unfold szs at hp;rw[if_pos hi]at hp;cases hp
  rintro _ rfl l C1;refine aa ?_;refine AW.nil ⟨rfl,rfl,fun C2=> ?_⟩
  by_cases hik:(i:Int)=k
  ·have d1:((i:Int)==k)=true:=by simpa using hik
   have hsu:r7 k (i+1)=xm i:=by rw[←hik];exact acr i
   refine aa ?_ (by simp only[go_sem,↓reduceIte,d1]<;>rfl)
   refine am rfl ?_;refine aa ?_;refine AW.nil ⟨rfl,by simp only[go_sem,↓reduceIte],by simp only[go_sem,↓reduceIte],.inl ⟨rfl, ?_⟩⟩
   simp only[go_sem,↓reduceIte,hsu]
  ·have d1:((i:Int)==k)=false:=by simpa using hik
   have hsu:=acq k i hik;refine aa ?_ (by simp only[go_sem,↓reduceIte,d1]<;>rfl)
   refine ae rfl ?_;refine aa ?_;refine AW.nil ⟨rfl,by simp only[go_sem,↓reduceIte],by simp only[go_sem,↓reduceIte],.inl ⟨rfl, ?_⟩⟩
   simp only[go_sem,↓reduceIte,hsu]
 ·rintro hp _ rfl;refine aa ?_;refine aqo (.inr rfl) (.inr rfl) (by simp only[go_sem,↓reduceIte,ud]<;>rfl) (.pv _ .nil) (H':=[]) (by simp only[go_sem,↓reduceIte]) (by simp only[go_sem,↓reduceIte]) (by simp only[go_sem,↓reduceIte]) ⟨rfl,rfl⟩
 ·rintro j hp h;exact h.elim
end Go.Ck
namespace Go.Proofs
open Go.Shelf
def Fp:Go.Shelf.Ren:=⟨fun|190=>111|125=>116|258=>126|128=>130|129=>131|302=>146|303=>147|304=>148|305=>149|306=>150|307=>151|308=>152|309=>153|310=>154|333=>175|329=>176|330=>177|334=>178|335=>179|336=>180|344=>185|n=>n,fun|31=>82|9=>9|3=>3|46=>93|0=>0|51=>143|53=>24|4=>4|183=>188|182=>187|131=>153|5=>5|218=>207|222=>210|228=>216|229=>214|n=>n,fun|n=>n⟩
theorem Qp:Go.Proofs.Lays.n190 Tryz.prog Fp:= {
 mixed:=by kernel_rfl
 f125:=Tryz.func116.trans (congrArg some (by kernel_rfl))
 f128:=Tryz.func130.trans (congrArg some (by kernel_rfl))
 f129:=Tryz.func131.trans (congrArg some (by kernel_rfl))
 f190:=Tryz.func111.trans (congrArg some (by kernel_rfl))
 f258:=Tryz.func126.trans (congrArg some (by kernel_rfl))
 f302:=Tryz.func146.trans (congrArg some (by kernel_rfl))
 f303:=Tryz.func147.trans (congrArg some (by kernel_rfl))
 f304:=Tryz.func148.trans (congrArg some (by kernel_rfl))
 f305:=Tryz.func149.trans (congrArg some (by kernel_rfl))
 f306:=Tryz.func150.trans (congrArg some (by kernel_rfl))
 f307:=Tryz.func151.trans (congrArg some (by kernel_rfl))
 f308:=Tryz.func152.trans (congrArg some (by kernel_rfl))
 f309:=Tryz.func153.trans (congrArg some (by kernel_rfl))
 f310:=Tryz.func154.trans (congrArg some (by kernel_rfl))
 f329:=Tryz.func176.trans (congrArg some (by kernel_rfl))
 f330:=Tryz.func177.trans (congrArg some (by kernel_rfl))
 f333:=Tryz.func175.trans (congrArg some (by kernel_rfl))
 f334:=Tryz.func178.trans (congrArg some (by kernel_rfl))
 f335:=Tryz.func179.trans (congrArg some (by kernel_rfl))
 f336:=Tryz.func180.trans (congrArg some (by kernel_rfl))
 f344:=Tryz.func185.trans (congrArg some (by kernel_rfl))
 t0:=Tryz.underlying0
 a0:=Tryz.isAgg0
 z0:=Tryz.sizeOf0
 v0:=Tryz.zeroValue0
 t3:=Tryz.underlying3
 a3:=Tryz.isAgg3
 z3:=Tryz.sizeOf3
 v3:=Tryz.zeroValue3
 t4:=Tryz.underlying4
 a4:=Tryz.isAgg4
 z4:=Tryz.sizeOf4
 v4:=Tryz.zeroValue4
 t5:=Tryz.underlying5
 a5:=Tryz.isAgg5
 z5:=Tryz.sizeOf5
 v5:=Tryz.zeroValue5
 t9:=Tryz.underlying9
 a9:=Tryz.isAgg9
 z9:=Tryz.sizeOf9
 v9:=Tryz.zeroValue9
 t31:=Tryz.underlying82
 a31:=Tryz.isAgg82
 z31:=Tryz.sizeOf82
 v31:=Tryz.zeroValue82
 t46:=Tryz.underlying93
 a46:=Tryz.isAgg93
 z46:=Tryz.sizeOf93
 v46:=Tryz.zeroValue93
 t51:=Tryz.underlying143
 a51:=Tryz.isAgg143
 z51:=Tryz.sizeOf143
 v51:=Tryz.zeroValue143
 t53:=Tryz.underlying24
 a53:=Tryz.isAgg24
 z53:=Tryz.sizeOf24
 v53:=Tryz.zeroValue24
 t131:=Tryz.underlying153
 a131:=Tryz.isAgg153
 z131:=Tryz.sizeOf153
 v131:=Tryz.zeroValue153
 t182:=Tryz.underlying187
 a182:=Tryz.isAgg187
 z182:=Tryz.sizeOf187
 v182:=Tryz.zeroValue187
 t183:=Tryz.underlying188
 a183:=Tryz.isAgg188
 z183:=Tryz.sizeOf188
 v183:=Tryz.zeroValue188
 t218:=Tryz.underlying207
 a218:=Tryz.isAgg207
 z218:=Tryz.sizeOf207
 v218:=Tryz.zeroValue207
 t222:=Tryz.underlying210
 a222:=Tryz.isAgg210
 z222:=Tryz.sizeOf210
 v222:=Tryz.zeroValue210
 t228:=Tryz.underlying216
 a228:=Tryz.isAgg216
 z228:=Tryz.sizeOf216
 v228:=Tryz.zeroValue216
 t229:=Tryz.underlying214
 a229:=Tryz.isAgg214
 z229:=Tryz.sizeOf214
 v229:=Tryz.zeroValue214 }
end Go.Proofs
namespace Go.Ck
open Go.Proofs
theorem ao4:agx Tryz.prog 111:=fun blk off cap ss w h1 h2 h3=>Any.slices_Sort_string Qp blk off cap ss w h1 h2 h3
theorem ao5:∃fn,(Tryz.prog).funcs[111]?=some fn∧(fn.name== "runtime.NumGoroutine")=false∧fn.body.isNone=false:=⟨Tryz.f111,by kernel_rfl,rfl,rfl⟩
theorem aAw(v:Nat)(hv:v<2^64):Fn Tryz.prog 116 [] [.pv (.int .u64 v)] (fun rs H'=>rs=[.pv (.int .i64 (dg v:Nat))]∧H'=[]):=by
 refine Fn.ob Tryz.f116 8 [.tmp 2] fun C=> ?_
 refine aa ?_;refine ae rfl ?_;refine aa ?_;refine ap (R4 v hv) (.pv _ .nil) ?_;refine aa ?_;refine ac (.pv _ .nil) rfl
theorem adi:Fn Tryz.prog 146 [] [.pv (.sl 1 []),.pv (.int .i64 0),.pv (.int .i64 0)] (fun rs H'=>rs=[]∧H'=[]):=by
 refine Fn.ob Tryz.f146 49 [] fun C=> ?_
 have e1:IntKind.i64.wrap (0+1)=1:=by decide
 refine aa ?_;refine aq (fun _:Unit=>⟨49,[(6,.pv (.int .i64 1)),(2,.pv (.int .i64 0))],[]⟩) (fun _=>True) (fun _=>0) [6,2] [] () trivial ?_
 rintro _-K hK;refine aa ?_;refine ae rfl ?_;refine aa ?_;refine ac .nil rfl
theorem apd(k:Int):Fn Tryz.prog 126 [] [.pv (.sl 1 []),.pv (.int .i64 0),.pv (.int .i64 0),.pv (.int .i64 k)] (fun rs H'=>rs=[]∧H'=[]):=by
 refine Fn.ob Tryz.f126 134 [] fun C=> ?_
 refine aa ?_;refine aq (fun _:Unit=>⟨134,[(0,.pv (.sl 1 [])),(1,.pv (.int .i64 0)),(2,.pv (.int .i64 0))],[]⟩) (fun _=>True) (fun _=>0) [0,1,2] [] () trivial ?_
 rintro _-K hK;refine aa ?_;refine am rfl ?_;refine aa ?_;refine ap adi (.pv _ (.pv _ (.pv _ .nil))) ?_;refine aa ?_;refine ac .nil rfl
theorem ahn:Fn Tryz.prog 111 [] [.pv (.sl 1 [])] (fun rs H'=>rs=[]∧H'=[]):=by
 refine Fn.ob Tryz.f111 11 [] fun C=> ?_
 have e1:IntKind.u64.wrap 0=0:=by decide
 refine aa ?_ (by simp only[go_sem,↓reduceIte,e1]<;>rfl)
 refine ap (aAw 0 (by decide)) (.pv _ .nil) ?_
 refine aa ?_;refine ap (apd _) (.pv _ (.pv _ (.pv _ (.pv _ .nil)))) ?_;refine aa ?_;refine ac .nil rfl
theorem Qf(es:List je)(hl:es.length<2^30):Fn Tryz.prog 85 [] [.pv (.sl 2 (b9 es))] (fun rs H'=>rs=[.own 9 (c6 (iw es)),.mp 12]∧H'=[(12,.mp (Hd (Kv (iw es) (iw es).length) (Lg es)))]):=by
 refine Fn.ob Tryz.f85 52 [.tmp 2,.tmp 3] fun C=> ?_
 have hroom:aw=140737488355328:=rfl;refine aa ?_;refine aet ?_;refine aa ?_;refine aq (fun i:Nat=>⟨52,[(15,.pv (.int .i64 i)),(13,.pv (.sl 2 (b9 es))),(14,.pv (.int .i64 es.length)),(4,.mp 12),(5,.own 9 (c6 (Lg (es.take i))))],[(12,.mp (Hd (fun _=>0) (Lg (es.take i))))]⟩) (fun i=>i≤es.length) (fun i=>es.length-i) [15,13,14,4,5] [12] 0 (z11 _) ?_
 rintro i hi K hK;have hnl:=vv (es.take i);rw[z05]at hnl;refine aa ?_;refine AW.cond rfl (fun hc=> ?_) (fun hc=> ?_)
 ·have hlt:i<es.length:=by have:=of_decide_eq_true hc;omega
  obtain⟨e,he⟩:∃e,es[i]?=some e:=⟨es[i],z06 hlt⟩
  have hg:=u3 he;have hsu:=aim he;have e1:IntKind.i64.wrap ((i:Int)+1)=((i+1:Nat):Int):=ai (by omega)
  have hml:=Mr (fun _=>0) e.1 (Lg (es.take i))
  generalize Lg (es.take i)=ns at*;refine aa ?_ (by simp only[go_sem,↓reduceIte,hg]<;>rfl)
  refine Yg rfl rfl rfl hml N7 (by simp only[go_sem]<;>rfl) aCu ?_
  by_cases h:e.1∈ns
  ·simp only[if_pos h];rw[nk,if_pos h]at hsu;refine aa ?_ (by simp only[go_sem,↓reduceIte,Gm]<;>rfl)
   refine ae rfl ?_;refine aa ?_ (by simp only[go_sem,↓reduceIte,e1]<;>rfl)
   exact ah hK (i+1) (by omega) (by omega) (hs:=by simp only[go_sem,↓reduceIte,hsu]<;>rfl)
  ·simp only[if_neg h];rw[nk,if_neg h]at hsu;have hms:=aiq (fun _=>0) e.1 ns h
   have r1:((ns.length+1)*16≤aw)=True:=eq_true (by omega)
   have r2:(ns.length+1≤aw)=True:=eq_true (by omega)
   refine aa ?_ (by simp only[go_sem,↓reduceIte,Gm]<;>rfl)
   refine am rfl ?_;refine aa ?_;refine Nv rfl rfl rfl rfl hms N7 (by simp only[go_sem]<;>rfl) ?_
   refine aa ?_ (by simp only[go_sem,↓reduceIte,e1,r1,r2,Ep,z00,z07,z14]<;>rfl)
   exact ah hK (i+1) (by omega) (by omega) (hs:=by simp only[go_sem,↓reduceIte,hsu]<;>rfl)
 have hge:i=es.length:=by have:=of_decide_eq_false hc;omega
 subst hge;have hnn:=Mn es;have hsp:=Bg (Lg es);have hsn:(j6 (Lg es)).Nodup:=hsp.nodup_iff.2 hnn;have hnl2:=vv es;have hsl:=Es (Lg es);rw[z20];unfold iw;generalize Lg es=ns at*;refine aa ?_;refine Aj (T:= ?Tsort) (fun hT=> ?_) ?_;rotate_left
 ·by_cases hne:ns=[]
  ·have hs0:j6 ns=ns:=by rw[hne];simp[j6]
   have f0:Fn Tryz.prog 111 [] [.pv (.sl 1 (c6 ns))] (fun rs H'=>rs=[]∧H'=[]):=by rw[hne];exact ahn
   refine ap f0 (.lend rfl ar4 .nil) ?_;refine AW.keepB [4,5] [12] (s':=⟨52,[(4,.mp 12),(5,.own 9 (c6 (j6 ns)))],[(12,.mp (Hd (fun _=>0) ns))]⟩) (by simp only[go_sem,↓reduceIte]) (by simp only[go_sem,↓reduceIte,hs0]<;>rfl) ?_
   exact hT ()
  ·refine Ye ao4 ao5 rfl rfl hne (by omega) ar4 ?_
   refine bq [4,5] [12] ?_;exact hT ()
 generalize j6 ns=ls at*;refine aa ?_;refine aq (fun k:Nat=>⟨52,[(41,.pv (.int .i64 k)),(39,.al (.slot 5)),(40,.pv (.int .i64 ls.length)),(4,.mp 12),(5,.own 9 (c6 ls))],[(12,.mp (Hd (Kv ls k) ns))]⟩) (fun k=>k≤ls.length) (fun k=>ls.length-k) [41,39,40,4,5] [12] 0 (z11 _) ?_ (hs:=by simp only[go_sem,↓reduceIte,aAh]<;>rfl)
 rintro k hk K hK;refine aa ?_;refine AW.cond rfl (fun hc=> ?_) (fun hc=> ?_)
 ·have hlt:k<ls.length:=by have:=of_decide_eq_true hc;omega
  obtain⟨t,ht⟩:∃t,ls[k]?=some t:=⟨ls[k],z06 hlt⟩
  have hg:=pf ht;have htn:t∈ns:=hsp.mem_iff.1 (z17 ht);have hms:=Ry (Kv ls k) t k ns htn hnn;rw[acj hsn ht]at hms;have e1:IntKind.i64.wrap ((k:Int)+1)=((k+1:Nat):Int):=ai (by omega)
  have l1:(k<ls.length)=True:=eq_true hlt;refine aa ?_ (by simp only[go_sem,↓reduceIte,hg,l1]<;>rfl)
  refine Nv rfl rfl rfl rfl hms N7 (by simp only[go_sem]<;>rfl) ?_
  refine aa ?_ (by simp only[go_sem,↓reduceIte,e1]<;>rfl)
  exact ah hK (k+1) (by omega) (by omega)
 have hge:k=ls.length:=by have:=of_decide_eq_false hc;omega
 subst hge;refine aa ?_;refine ac (.move rfl (.mp rfl .nil)) rfl
end Go.Ck
