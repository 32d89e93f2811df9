/- What is proved here: parts of the proofs of this seat's statements (a verified evaluator for calls over pure values, its laws, and contracts of functions). No condition. -/
import Derived.Test.YtmkoabmapmehdaaGreatDoorKzg
import Derived.Test.YtmkoabmapmehdaaGreatDoorKza
import Derived.Test.YtmkoabmapmehdaaGreatDoorKzb
import Derived.Test.YtmkoabmapmehdaaGreatDoorKy
import Derived.Test.YtmkoabmapmehdaaGreatDoorKx
set_option linter.all false
open List renaming length_append→z00,mem_of_mem_drop→z01,replicate→z03,mem_map→z05,mem_append→z06,length_singleton→z07,take_succ_cons→z09,length_drop→z10,all_eq_true→z11,length_nil→z12,headD_cons→z13,take_zero→z15
open Nat renaming le_refl→z02
open Bool renaming false_eq_true→z04,and_eq_false_iff→z08,eq_iff_iff→z14
namespace Go.Ck
abbrev nh:=List Nat×Int
def o7(n:Nat)(s:nh):List Nat×nh:=if s.2≠0 then([],s)else if n≤s.1.length then(s.1.take n,s.1.drop n,0)else([],s.1,2)
def p8(s:nh):Nat×nh:=if s.2≠0 then(0,s)else((a6 s.1).1,s.1.drop (a6 s.1).2.1,(a6 s.1).2.2)
def mf(ok:Bool)(e:Int)(s:nh):nh:=if s.2=0∧ok=false then(s.1,e)else s
def Ks:Nat→List (List UInt8)→nh→List (List UInt8)×nh
 |0,bc,s=>(bc,s)
 |k+1,bc,s=>if s.2≠0 then(bc,s)else Ks k (bc++[ub (blk s.1 64).1]) (mf (Fq bc (ub (blk s.1 64).1)) 3 ((blk s.1 64).2.2,(blk s.1 64).2.1))
def Qw(s:nh):List (List UInt8)×nh:=Ks (p8 s).1 [] (mf (decide ((p8 s).1≤1048576)) 4 (p8 s).2)
def D6(ts:List (List UInt8))(s:nh):nh:=mf (decide ((p8 s).1<ts.length)) 3 (p8 s).2
def qg(l:List Nat):Bool:=decide (l.length=1)&&decide (l.headD 0≤8)
theorem Ml(x:Nat):qg [x]=decide (x≤8):=by unfold qg;simp
def ya(ts:List (List UInt8))(s:nh):nh:=mf (qg (o7 1 (D6 ts s)).1) 3 (o7 1 (D6 ts s)).2
def Ld(ts:List (List UInt8)):Nat→List Bool→List je→nh→List Bool×List je×nh
 |0,us,es,s=>(us,es,s)
 |k+1,us,es,s=>if s.2≠0 then(us,es,s)else if(ya ts s).2=0 then Ld ts k (us.set (p8 s).1 true) (es++[rp (ts.getD (p8 s).1 []) ((o7 1 (D6 ts s)).1.headD 0)]) (ya ts s)
  else Ld ts k us es (ya ts s)
def Yl:List Bool→nh→nh
 |[],s=>s
 |u::us,s=>Yl us (mf u 3 s)
def Hn(v:Nat)(p:List Nat)(us:List Bool)(es:List je)(s:nh):Man×Int:=
 if(Yl us (mf (decide ((o7 32 s).2.1.length=0)) 3 (o7 32 s).2)).2≠0 then Fr (Yl us (mf (decide ((o7 32 s).2.1.length=0)) 3 (o7 32 s).2)).2 else(⟨v,p,es,(o7 32 s).1⟩,0)
def Hf(ts:List (List UInt8))(s:nh):List Bool×List je×nh:=Ld ts (p8 s).1 (z03 ts.length false) [] (mf (decide ((p8 s).1≤1048576)) 4 (p8 s).2)
def Ho(v:Nat)(p:List Nat)(ts:List (List UInt8))(s:nh):Man×Int:=Hn v p (Hf ts s).1 (Hf ts s).2.1 (Hf ts s).2.2
def Hp(v:Nat)(p:List Nat)(s:nh):Man×Int:=Ho v p (Qw s).1 (Qw s).2
def Hq(v:Nat)(s:nh):Man×Int:=Hp v (o7 32 s).1 (o7 32 s).2
def Hr(s:nh):Man×Int:=Hq (u7 (o7 8 s).1) (mf (u7 (o7 8 s).1 !=18446744073709551615) 3 (o7 8 s).2)
def afd(b:List Nat):Man×Int:=Hr (mf ((o7 4 (b,0)).1==[67,83,75,49]) 3 (o7 4 (b,0)).2)
theorem zl{n:Nat}{s:nh}(h:s.2≠0):o7 n s=([],s):=by unfold o7;rw[if_pos h]
theorem Ox{s:nh}(h:s.2≠0):p8 s=(0,s):=by unfold p8;rw[if_pos h]
theorem i5{ok:Bool}{e:Int}{s:nh}(h:s.2≠0):mf ok e s=s:=by unfold mf;rw[if_neg (fun k=>h k.1)]
theorem oa(ok:Bool)(e:Int)(q:List Nat):mf ok e (q,0)=if ok=true then(q,0)else(q,e):=by
 unfold mf;cases ok<;>simp
theorem vu:∀(n:Nat) (bc:List (List UInt8)) {s:nh},s.2≠0→Ks n bc s=(bc,s)
 |0,bc,s,h=>rfl
 |n+1,bc,s,h=>by unfold Ks;rw[if_pos h]
theorem Co(ts:List (List UInt8)):∀(n:Nat) (us:List Bool) (es:List je) {s:nh},s.2≠0→Ld ts n us es s=(us,es,s)
 |0,us,es,s,h=>rfl
 |n+1,us,es,s,h=>by unfold Ld;rw[if_pos h]
theorem Cn:∀(us:List Bool) {s:nh},s.2≠0→Yl us s=s
 |[],s,h=>rfl
 |u::us,s,h=>by unfold Yl;rw[i5 h];exact Cn us h
theorem af3:∀(us:List Bool) (q:List Nat),Yl us (q,0)=if us.all id=true then(q,0)else(q,3)
 |[],q=>rfl
 |u::us,q=>by
  unfold Yl;rw[oa]
  cases u with
  |true=>rw[if_pos rfl,af3 us q];simp
  |false=>rw[if_neg (by decide),Cn us (by simp)];simp
theorem Md{v:Nat}{p:List Nat}{us:List Bool}{es:List je}{s:nh}(h:s.2≠0):Hn v p us es s=Fr s.2:=by
 unfold Hn;rw[zl h,i5 h,Cn us h,if_pos h]
theorem Me{v:Nat}{p:List Nat}{ts:List (List UInt8)}{s:nh}(h:s.2≠0):Ho v p ts s=Fr s.2:=by
 unfold Ho Hf;rw[Ox h,i5 h,Co ts _ _ _ h];exact Md h
theorem Mf{v:Nat}{p:List Nat}{s:nh}(h:s.2≠0):Hp v p s=Fr s.2:=by
 unfold Hp Qw;rw[Ox h,i5 h,vu _ _ h];exact Me h
theorem Ew{v:Nat}{s:nh}(h:s.2≠0):Hq v s=Fr s.2:=by
 unfold Hq;rw[zl h];exact Mf h
theorem Mg{s:nh}(h:s.2≠0):Hr s=Fr s.2:=by
 unfold Hr;rw[zl h,i5 h];exact Ew h
theorem Ef(n:Nat)(q:List Nat):o7 n (q,0)=if q.length<n then([],q,2)else(q.take n,q.drop n,0):=by
 unfold o7;rw[if_neg (by simp)]
 by_cases h:n≤q.length
 ·rw[if_pos h,if_neg (by omega)]
 ·rw[if_neg h,if_pos (by omega)]
theorem Ee(q:List Nat):p8 (q,0)=((a6 q).1,q.drop (a6 q).2.1,(a6 q).2.2):=by unfold p8;rw[if_neg (by simp)]
theorem af4:∀(n:Nat) (bc:List (List UInt8)) (q:List Nat),(Ks n bc (q,0)).2.2=(D4 n bc q).2.1∧((D4 n bc q).2.1=0→Ks n bc (q,0)=((D4 n bc q).1,(D4 n bc q).2.2,0))
 |0,bc,q=>⟨rfl,fun _=>rfl⟩
 |n+1,bc,q=>by
  unfold Ks D4;rw[if_neg (by simp)]
  simp only;by_cases h1:(blk q 64).2.1=0
  ·rw[if_neg (by simp[h1]),h1,oa]
   cases Fq bc (ub (blk q 64).1)with
   |true=>rw[if_pos rfl,if_pos rfl];exact af4 n _ _
   |false=>rw[if_neg (by decide),if_neg (by decide),vu _ _ (by simp)];exact⟨rfl,fun h=>by simp at h⟩
  ·rw[if_pos h1,i5 h1,vu _ _ h1];exact⟨rfl,fun h=>absurd h h1⟩
theorem agv{q:List Nat}(h:(a6 q).2.2≠0):ft q=(0,(a6 q).2.2,q.drop (a6 q).2.1):=by unfold ft;rw[if_pos h]
theorem agu{q:List Nat}(h:(a6 q).2.2=0)(h2:1048576<(a6 q).1):ft q=(0,4,q.drop (a6 q).2.1):=by unfold ft;rw[if_neg (fun k=>k h),if_pos h2]
theorem agt{q:List Nat}(h:(a6 q).2.2=0)(h2:¬1048576<(a6 q).1):ft q=((a6 q).1,0,q.drop (a6 q).2.1):=by unfold ft;rw[if_neg (fun k=>k h),if_neg h2]
theorem aAc(q:List Nat):(Qw (q,0)).2.2=(ed q).2.1∧((ed q).2.1=0→Qw (q,0)=((ed q).1,(ed q).2.2,0)):=by
 unfold Qw ed;rw[Ee]
 by_cases h1:(a6 q).2.2=0
 ·by_cases h2:1048576<(a6 q).1
  ·rw[agu h1 h2,h1,oa,if_neg (by simpa using h2),vu _ _ (by simp),if_pos (by simp)];exact⟨rfl,fun h=>by simp at h⟩
  ·rw[agt h1 h2,h1,oa,if_pos (by simpa using h2),if_neg (by simp)];exact af4 _ _ _
 ·rw[agv h1,i5 h1,vu _ _ h1,if_pos h1];exact⟨rfl,fun h=>absurd h h1⟩
def Qs(ts:List (List UInt8))(es:List je):List Bool:=ts.map (fun t=>decide (t∈es.map (·.1)))
theorem anq(ts:List (List UInt8)):z03 ts.length false=Qs ts []:=by
 unfold Qs;symm;rw[List.eq_replicate_iff];exact⟨by simp,fun b hb=>by simp at hb;exact hb.2⟩
theorem aha{ts:List (List UInt8)}(hn:ts.Nodup){es:List je}{i:Nat}(hi:i<ts.length)(x:Nat):(Qs ts es).set i true=Qs ts (es++[rp (ts.getD i []) x]):=by
 refine List.ext_getElem (by simp[Qs]) (fun j h1 h2=> ?_)
 have hj:j<ts.length:=by simpa[Qs]using h2
 rw[List.getElem_set];have hd:ts.getD i []=ts[i]:=by rw[List.getD_eq_getElem?_getD,List.getElem?_eq_getElem hi];rfl
 by_cases hij:i=j
 ·subst hij;rw[if_pos rfl];simp[Qs,rp,hi]
 ·rw[if_neg hij];have hne:ts[j]≠ts[i]:=fun h=>hij ((List.getElem_inj hn).1 h.symm)
  simp only[Qs,List.getElem_map,List.map_append,List.map_cons,List.map_nil,z06,List.mem_singleton,rp,hd];rw[decide_eq_decide];exact⟨.inl,fun h=>h.resolve_right hne⟩
theorem af5{ts:List (List UInt8)}(hn:ts.Nodup):∀(n:Nat) (es:List je) (q:List Nat),(Ld ts n (Qs ts es) es (q,0)).2.2.2=(D3 ts n es q).2.1∧((D3 ts n es q).2.1=0→Ld ts n (Qs ts es) es (q,0)=(Qs ts (D3 ts n es q).1,(D3 ts n es q).1,(D3 ts n es q).2.2,0))
 |0,es,q=>⟨rfl,fun _=>rfl⟩
 |n+1,es,q=>by
  have bad:∀ {e:Int} {q':List Nat} (h2:ya ts (q,0)=(q',e)) (h:e≠0),Ld ts (n+1) (Qs ts es) es (q,0)=(Qs ts es,es,(q',e)):=fun {e q'} h2 h=>by
   unfold Ld;rw[if_neg (by simp),h2,if_neg h,Co _ _ _ _ h]
  by_cases h1:(a6 q).2.2=0
  rotate_left
  ·have e1:D6 ts (q,0)=(q.drop (a6 q).2.1,(a6 q).2.2):=by unfold D6;rw[Ee];exact i5 h1
   have e2:ya ts (q,0)=(q.drop (a6 q).2.1,(a6 q).2.2):=by unfold ya;rw[e1,zl h1];exact i5 h1
   rw[bad e2 h1];unfold D3;rw[if_pos h1];exact⟨rfl,fun h=>absurd h h1⟩
  have e1:D6 ts (q,0)=if(a6 q).1<ts.length then(q.drop (a6 q).2.1,0)else(q.drop (a6 q).2.1,3):=by
   unfold D6;rw[Ee,h1];simp only;rw[oa];simp
  unfold D3;rw[if_neg (by simp[h1])]
  by_cases h2:(a6 q).1<ts.length
  rotate_left
  ·rw[if_neg h2]at e1;have e2:ya ts (q,0)=(q.drop (a6 q).2.1,3):=by unfold ya;rw[e1,zl (by simp)];exact i5 (by simp)
   rw[bad e2 (by simp),if_pos (by omega)];exact⟨rfl,fun h=>by simp at h⟩
  rw[if_pos h2]at e1;rw[if_neg (by omega)]
  by_cases h3:(q.drop (a6 q).2.1).length<1
  ·have e2:ya ts (q,0)=(q.drop (a6 q).2.1,2):=by unfold ya;rw[e1,Ef,if_pos h3];exact i5 (by simp)
   rw[bad e2 (by simp),if_pos h3];exact⟨rfl,fun h=>by simp at h⟩
  rw[if_neg h3];obtain⟨x,r,hr⟩:∃x r,q.drop (a6 q).2.1=x::r:=by
   cases h:q.drop (a6 q).2.1 with
   |nil=>rw[h]at h3;simp at h3
   |cons x r=>exact⟨x,r,rfl⟩
  rw[hr]at e1 h3⊢;have hb:o7 1 (D6 ts (q,0))=([x],r,0):=by rw[e1,Ef,if_neg h3];rfl
  simp only[z13,List.drop_succ_cons,List.drop_zero];have e2:ya ts (q,0)=if 8<x then(r,3)else(r,0):=by
   unfold ya;rw[hb];simp only;rw[oa,Ml]
   by_cases h8:8<x
   ·rw[if_pos h8,decide_eq_false (by omega:¬x≤8)];rfl
   ·rw[if_neg h8,decide_eq_true (by omega:x≤8)];rfl
  by_cases h8:8<x
  ·rw[if_pos h8]at e2⊢;rw[bad e2 (by simp)];exact⟨rfl,fun h=>by simp at h⟩
  rw[if_neg h8]at e2⊢;have hs:Ld ts (n+1) (Qs ts es) es (q,0)=Ld ts n (Qs ts (es++[rp (ts.getD (a6 q).1 []) x])) (es++[rp (ts.getD (a6 q).1 []) x]) (r,0):=by
   conv=>lhs;unfold Ld
   rw[if_neg (by simp),e2,if_pos rfl,hb,Ee]
   simp only[z13];rw[aha hn h2]
  rw[hs];exact af5 hn n _ r
theorem apa{ts:List (List UInt8)}(hn:ts.Nodup)(q:List Nat):(Hf ts (q,0)).2.2.2=(fc ts q).2.1∧((fc ts q).2.1=0→Hf ts (q,0)=(Qs ts (fc ts q).1,(fc ts q).1,(fc ts q).2.2,0)):=by
 unfold Hf fc;rw[Ee,anq]
 by_cases h1:(a6 q).2.2=0
 ·by_cases h2:1048576<(a6 q).1
  ·rw[agu h1 h2,h1,oa,if_neg (by simpa using h2),Co _ _ _ _ (by simp),if_pos (by simp)];exact⟨rfl,fun h=>by simp at h⟩
  ·rw[agt h1 h2,h1,oa,if_pos (by simpa using h2),if_neg (by simp)];exact af5 hn _ _ _
 ·rw[agv h1,i5 h1,Co _ _ _ _ h1,if_pos h1];exact⟨rfl,fun h=>absurd h h1⟩
theorem anr{ts:List (List UInt8)}(hs:ts.Pairwise (· < ·)){es:List je}(he:∀e∈es,e.1∈ts):(Qs ts es).all id=decide ((iw es).length=ts.length):=by
 rw[z14,decide_eq_true_iff];constructor
 ·intro h
  congr 1
  refine Bf (pp es) hs (fun x=> ?_)
  rw[nr];constructor
  ·rintro⟨e,h1,rfl⟩;exact he e h1
  ·intro hx;have:=z11.1 h _ (z05.2 ⟨x,hx,rfl⟩);simp only[id,decide_eq_true_eq,z05]at this;exact this
 ·intro h;have hd:=Ss hs he h;rw[z11];intro u hu;obtain⟨t,ht,rfl⟩:=z05.1 hu;rw[←hd,nr]at ht;simp only[id,decide_eq_true_eq,z05];exact ht
theorem ahw{v:Nat}{p:List Nat}{ts:List (List UInt8)}(hs:ts.Pairwise (· < ·)){es:List je}(he:∀e∈es,e.1∈ts)(q:List Nat):Hn v p (Qs ts es) es (q,0)=Av v p ts es q:=by
 unfold Hn Av;rw[Ef];by_cases h1:q.length<32
 ·rw[if_pos h1,if_pos h1,i5 (by simp),Cn _ (by simp),if_pos (by simp)]
 rw[if_neg h1,if_neg h1,oa];by_cases h2:q.drop 32=[]
 ·have h2':decide ((q.drop 32).length=0)=true:=by rw[h2];rfl
  simp only[h2',if_true];rw[if_neg (not_not_intro h2),af3,anr hs he];by_cases h3:(iw es).length=ts.length
  ·rw[decide_eq_true h3];simp only[if_true];rw[if_neg (by simp),if_neg (not_not_intro h3)]
  ·rw[decide_eq_false h3];simp only[z04,if_false];rw[if_pos (by simp),if_pos h3]
 ·have h2':decide ((q.drop 32).length=0)=false:=decide_eq_false (fun h=>h2 (List.eq_nil_of_length_eq_zero h))
  simp only[h2',z04,if_false];rw[if_pos h2,Cn _ (by simp),if_pos (by simp)]
theorem ahx{v:Nat}{p:List Nat}{ts:List (List UInt8)}(hs:ts.Pairwise (· < ·)){q:List Nat}(hq:∀x∈q,x<256):Ho v p ts (q,0)=Aw v p ts q:=by
 obtain⟨h1,h2⟩:=apa (I0 hs) q;unfold Ho Aw;by_cases h:(fc ts q).2.1=0
 ·rw[if_neg (by simp[h]),h2 h]
  exact ahw hs (fun e he=>((M6 (I0 hs) hq h).2 e he).1) _
 ·rw[if_pos h,Md (by rw[h1];exact h),h1]
theorem ahy{v:Nat}{p:List Nat}{q:List Nat}(hq:∀x∈q,x<256):Hp v p (q,0)=yg v p q:=by
 obtain⟨h1,h2⟩:=aAc q;unfold Hp yg;by_cases h:(ed q).2.1=0
 ·rw[if_neg (by simp[h]),h2 h]
  exact ahx (Lz hq h).2.1 (Be hq)
 ·rw[if_pos h,Me (by rw[h1];exact h),h1]
theorem ahz{v:Nat}{q:List Nat}(hq:∀x∈q,x<256):Hq v (q,0)=xo v q:=by
 unfold Hq xo;rw[Ef]
 split
 ·exact Mf (by simp)
 ·exact ahy (fun x hx=>hq x (z01 hx))
theorem ah0{q:List Nat}(hq:∀x∈q,x<256):Hr (q,0)=te q:=by
 unfold Hr te;rw[Ef]
 split
 ·exact Ew (by simp[i5])
 ·simp only;rw[oa];by_cases h:u7 (q.take 8)=18446744073709551615
  ·rw[if_pos h,if_neg (by simp[h])];exact Ew (by simp)
  ·rw[if_neg h,if_pos (by simpa using h)];exact ahz (fun x hx=>hq x (z01 hx))
theorem ahv{b:List Nat}(hb:∀x∈b,x<256):afd b=kz b:=by
 unfold afd kz;rw[Ef]
 split
 ·rw[i5 (by simp)];exact Mg (by simp)
 ·simp only;rw[oa];by_cases h:b.take 4=[67,83,75,49]
  ·rw[show(b.take 4==[67,83,75,49])=true by rw[h];rfl,if_pos rfl,if_neg (not_not_intro h)];exact ah0 (fun x hx=>hb x (z01 hx))
  ·rw[show(b.take 4==[67,83,75,49])=false from beq_eq_false_iff_ne.2 h,if_pos h];simp only[z04,if_false];exact Mg (s:=(b.drop 4,3)) (by simp)
theorem C7{ok:Bool}{e:Int}{s:nh}(he:e≠0)(h:(mf ok e s).2=0):s.2=0∧ok=true:=by
 obtain⟨q,x⟩:=s;by_cases hx:x=0
 ·subst hx;rw[oa]at h;cases ok with
  |true=>exact⟨rfl,rfl⟩
  |false=>exact absurd h he
 ·rw[i5 (s:=(q,x)) hx]at h;exact absurd h hx
theorem ah2{n:Nat}{s:nh}(h:(o7 n s).2.2=0):s.2=0:=by
 unfold o7 at h;split at h
 ·rename_i h1;exact absurd h h1
 ·rename_i h1;exact Classical.byContradiction h1
theorem acd{ts:List (List UInt8)}{s:nh}(h:(ya ts s).2=0):(p8 s).1<ts.length∧qg (o7 1 (D6 ts s)).1=true:=by
 obtain⟨h1,h2⟩:=C7 (by decide) h
 obtain⟨h3,h4⟩:=C7 (by decide) (ah2 h1)
 exact⟨of_decide_eq_true h4,h2⟩
def qj(us:List Bool):List PV:=us.map .bool
theorem aee(us:List Bool)(i:Nat)(b:Bool):(qj us).set i (.bool b)=qj (us.set i b):=by unfold qj;rw[List.map_set]
theorem Nk{us:List Bool}{i:Nat}{b:Bool}(h:us[i]?=some b):(qj us)[i]?=some (.bool b):=by unfold qj;rw[List.getElem?_map,h];rfl
theorem aef(n:Nat)(b:Bool):z03 n (PV.bool b)=qj (z03 n b):=by unfold qj;rw[List.map_replicate]
theorem Af(us:List Bool):(qj us).length=us.length:=by unfold qj;rw[List.length_map]
theorem az9{us:List Bool}{s:nh}{i:Nat}(h:us.length≤i):Yl (us.drop i) s=s:=by rw[List.drop_eq_nil_of_le h];rfl
theorem aAa{us:List Bool}{s:nh}{i:Nat}{b:Bool}(h:us[i]?=some b):Yl (us.drop i) s=Yl (us.drop (i+1)) (mf b 3 s):=by
 obtain⟨hi,rfl⟩:=List.getElem?_eq_some_iff.1 h;rw[List.drop_eq_getElem_cons hi];rfl
def N3(v i:Nat)(t:List UInt8):List Nat:=iy v 8++iy i 4++jr t
def m0(key:List Nat)(v:Nat)(i:Int):List Nat×List Nat×Nat:=
 if(dk key 2 []).2≠0 then([],[],(dk key 2 []).2)else if(sd key v i).2≠0 then([],[],(sd key v i).2)else((dk key 2 []).1,(sd key v i).1,0)
def gu(key:List Nat)(v:Nat)(i:Int)(t:List UInt8)(xs:List Sm):List Nat×Nat×Int:=
 if(m0 key v i).2.2≠0 then([],0,((m0 key v i).2.2:Int))else if(lv t xs).2≠0 then([],0,(lv t xs).2)else if(vd (lv t xs).1).2≠0 then([],0,((vd (lv t xs).1).2:Int))
 else(Hl (m0 key v i).1 (m0 key v i).2.1 (N3 v i.toNat t) (vd (lv t xs).1).1,Qy (lv t xs).1.length,0)
theorem ajp{key:List Nat}{p:Nat}{name:List UInt8}(h:(dk key p name).2=0):(dk key p name).1.length=32:=by
 unfold dk at h⊢;split
 ·rename_i h1;rw[if_pos h1]at h;exact absurd h (by decide)
 ·rename_i h1;rw[if_neg h1]at h;split
  ·rename_i h2;rw[if_pos h2]at h;exact absurd h (by decide)
  ·exact kl _ _
theorem aj3{key:List Nat}{v:Nat}{i:Int}(h:(m0 key v i).2.2=0):(m0 key v i).1.length=32∧(m0 key v i).2.1.length=12∧(∀x∈(m0 key v i).2.1,x<256)∧(∀x∈(m0 key v i).1,x<256)∧0≤i∧i<1048576:=by
 unfold m0 at h⊢;by_cases h1:(dk key 2 []).2=0
 ·rw[if_neg (not_not_intro h1)]at h⊢;by_cases h2:(sd key v i).2=0
  ·rw[if_neg (not_not_intro h2)]at h⊢;have hd:=ajp h1;have hb:=Y0 key 2 [];unfold sd at h2⊢;by_cases h3:(dk key 3 []).2=0
   ·rw[if_neg (not_not_intro h3)]at h2⊢;by_cases h4:i<0∨1048576≤i
    ·rw[if_pos h4]at h2;exact absurd h2 (by decide)
    ·rw[if_neg h4];exact⟨hd,W0 _ _ _,Uc _ _ _,hb,by omega,by omega⟩
   ·rw[if_pos h3]at h2;exact absurd h2 h3
  ·rw[if_pos h2]at h;exact absurd h h2
 ·rw[if_pos h1]at h;exact absurd h h1
def ir:List je→List (List Nat)→List Nat→List (List Nat)×List Nat×Int
 |[],bc,q=>(bc,q,0)
 |e::es,bc,q=>if c9 e.2+16≤q.length then ir es (bc++[q.take (c9 e.2+16)]) (q.drop (c9 e.2+16))else([],[],2)
structure Arc where
 m:Man
 signed:List Nat
 sealed:List (List Nat)
 e:Int
def pa(e:Int):Arc:=⟨⟨0,[],[],[]⟩,[],[],e⟩
def Cl(m:Man)(s:List Nat)(q:List Nat):Arc:=
 if(ir m.es [] q).2.2≠0 then pa 2 else if(ir m.es [] q).2.1≠ []then pa 3 else⟨m,s,(ir m.es [] q).1,0⟩
def fp(b:List Nat):Arc:=
 if(blk b 268435456).2.1≠0 then pa (blk b 268435456).2.1 else if(blk b 268435456).1.length<32 then pa 2
 else if(kz ((blk b 268435456).1.take ((blk b 268435456).1.length-32))).2≠0 then pa (kz ((blk b 268435456).1.take ((blk b 268435456).1.length-32))).2
 else Cl (kz ((blk b 268435456).1.take ((blk b 268435456).1.length-32))).1 (blk b 268435456).1 (blk b 268435456).2.2
def aaz(a:Arc)(i j:Nat):List Nat:=
 cg a.signed.length++a.signed++cg i++cg (j-i)++((a.sealed.drop i).take (j+1-i)).flatten++cg (cu (a.sealed.map br) i j).1.length++(cu (a.sealed.map br) i j).1.flatten
def xx(b:List Nat)(i j:Int):List Nat×Int:=
 if(fp b).e≠0 then([],(fp b).e)else if(cu ((fp b).sealed.map br) i j).2≠0 then([],(cu ((fp b).sealed.map br) i j).2)else(aaz (fp b) i.toNat j.toNat,0)
set_option maxRecDepth 100000
set_option maxHeartbeats 400000
open Go.Proofs
theorem Ux(v i:Nat)(t:List UInt8)(hv:v<2^64)(hi:i<2^62)(ht:t.length≤2^40):Fn Tryz.prog 64 [] [.pv (.int .u64 v),.pv (.int .i64 i),.pv (.str t)] (fun rs H'=>rs=[.pv (.sl 1 (bytes (N3 v i t)))]∧H'=[]):=by
 refine Fn.ob Tryz.f64 19 [.tmp 6] fun C=> ?_
 have hr:aw=140737488355328:=rfl;have ei:IntKind.u64.wrap (i:Int)=(i:Int):=ay (by omega)
 have l8:=gv v 8;have l4:=gv i 4;have ha:bytes (iy v 8)++bytes (iy i 4)=bytes (iy v 8++iy i 4):=bx _ _;have hnb:(nb t).length=t.length:=by simp[nb]
 have hb10:=bn (v:=t.length) (by omega)
 have hbl:(jr t).length≤t.length+10:=by unfold jr;rw[z00,hnb];omega
 have eb:cg (nb t).length++nb t=jr t:=by rw[hnb];rfl
 have hbf:=im (nb t) (by omega)
 rw[eb]at hbf;have hbe:N3 v i t=iy v 8++iy i 4++jr t:=rfl;have ha2:bytes (iy v 8++iy i 4)++bytes (jr t)=bytes (iy v 8++iy i 4++jr t):=bx _ _;have hl12:(iy v 8++iy i 4).length=12:=by rw[z00,l8,l4]
 have r1:(12≤aw)=True:=eq_true (by omega)
 have r2:(12+(jr t).length≤aw)=True:=eq_true (by omega)
 rw[hbe];refine aa ?_;refine av (args:=[.pv (.int .u64 v),.pv (.int .i64 ((8:Nat):Int))]) (fun _=>0) (jo v 8 hv (by decide)) (.pv _ (.pv _ .nil)) ?_
 refine aa ?_ (by simp only[go_sem,↓reduceIte,ei]<;>rfl)
 refine av (args:=[.pv (.int .u64 i),.pv (.int .i64 ((4:Nat):Int))]) (fun _=>0) (jo i 4 (by omega) (by decide)) (.pv _ (.pv _ .nil)) ?_
 generalize iy v 8++iy i 4=X at*;refine aa ?_ (by simp only[go_sem,↓reduceIte,ba,l8,l4,ha,r1,Nat.reduceAdd]<;>rfl)
 have htm:t.length≤maxLen:=by unfold maxLen;omega
 refine Dp htm afb s9 afc ?_;rw[tm];refine aa ?_;refine ap hbf (.pv _ .nil) ?_;refine aa ?_ (by simp only[go_sem,↓reduceIte,ba,hl12,ha2,r2]<;>rfl)
 refine ac (.lend rfl c7 .nil) rfl
theorem aed(key:List Nat)(v:Nat)(i:Int)(hkb:∀x∈key,x<256)(hv:v<2^64):Fn Tryz.prog 59 [] [.pv (.sl 1 (bytes key)),.pv (.int .u64 v),.pv (.int .i64 i)]
  (fun rs H'=>rs=[.pv (.sl 1 (bytes (m0 key v i).1)),.pv (.sl 1 (bytes (m0 key v i).2.1)),.pv (.int .i64 (m0 key v i).2.2)]∧H'=[]):=by
 refine Fn.ob Tryz.f59 32 [.tmp 6,.tmp 7,.tmp 8] fun C=> ?_
 have hsf:=ab1 key hkb;have hnf:=W1 key v i hkb hv;unfold m0;generalize dk key 2 []=D at*;obtain⟨k,ke⟩:=D;generalize sd key v i=N at*;obtain⟨no,ne⟩:=N;simp only at hsf hnf⊢;refine aa ?_;refine ap hsf (.pv _ .nil) ?_;by_cases hk0:ke=0
 rotate_left
 ·have d0:((ke:Int) !=0)=true:=by rw[bne_iff_ne];omega
  rw[if_pos hk0];refine aa ?_ (by simp only[go_sem,↓reduceIte,d0]<;>rfl)
  refine am rfl ?_;refine aa ?_;refine ac (.lend rfl c7 (.lend rfl c7 (.pv _ .nil))) rfl
 have d0:((ke:Int) !=0)=false:=by rw[hk0];rfl
 rw[if_neg (not_not_intro hk0)];refine aa ?_ (by simp only[go_sem,↓reduceIte,d0]<;>rfl)
 refine ae rfl ?_;refine aa ?_;refine ap hnf (.pv _ (.pv _ (.pv _ .nil))) ?_;by_cases hn0:ne=0
 rotate_left
 ·have d1:((ne:Int) !=0)=true:=by rw[bne_iff_ne];omega
  rw[if_pos hn0];refine aa ?_ (by simp only[go_sem,↓reduceIte,d1]<;>rfl)
  refine am rfl ?_;refine aa ?_;refine ac (.lend rfl c7 (.lend rfl c7 (.pv _ .nil))) rfl
 have d1:((ne:Int) !=0)=false:=by rw[hn0];rfl
 rw[if_neg (not_not_intro hn0)];refine aa ?_ (by simp only[go_sem,↓reduceIte,d1]<;>rfl)
 refine ae rfl ?_;refine aa ?_;refine ac (.pv _ (.pv _ (.pv _ .nil))) rfl
theorem ab0(key:List Nat)(v:Nat)(i:Int)(t:List UInt8)(xs:List Sm)(hkb:∀x∈key,x<256)(hv:v<2^64)(ht:t.length≤maxLen)(hx:vb xs):Fn Tryz.prog 29 [] [.pv (.sl 1 (bytes key)),.pv (.int .u64 v),.pv (.int .i64 i),.pv (chP (t,xs))]
  (fun rs H'=>rs=[.own 5 (bytes (gu key v i t xs).1),.pv (.int .i64 (gu key v i t xs).2.1),.pv (.int .i64 (gu key v i t xs).2.2)]∧H'=[]):=by
 refine Fn.ob Tryz.f29 69 [.tmp 8,.tmp 9,.tmp 10] fun C=> ?_
 have hr:aw=140737488355328:=rfl;have hbf:=aed key v i hkb hv;have hbo:=aj3 (key:=key) (v:=v) (i:=i);have hef:=T0 t xs ht hx;have heb:=Na (t:=t) hx;have hel:=M9 (t:=t) (xs:=xs);have hee:=ajm (t:=t) (xs:=xs);have hc:chP (t,xs)= .agg [.str t,.sl 2 (sms xs)]:=rfl;have ht64:(lv t xs).2=0→t.length≤64:=fun h=>by
  unfold lv at h;split at h
  ·exact absurd h (by decide)
  ·omega
 rw[hc]at hef⊢;unfold gu;generalize m0 key v i=B at*;obtain⟨k,no,be⟩:=B;generalize lv t xs=E at*;obtain⟨en,ee⟩:=E;simp only at hbf hbo hef heb hel hee ht64⊢;refine aa ?_;refine ap hbf (.pv _ (.pv _ (.pv _ .nil))) ?_;by_cases hb0:be=0
 rotate_left
 ·have d0:((be:Int) !=0)=true:=by rw[bne_iff_ne];omega
  rw[if_pos hb0];refine aa ?_ (by simp only[go_sem,↓reduceIte,d0]<;>rfl)
  refine am rfl ?_;refine aa ?_;refine ac (.move rfl (.pv _ (.pv _ .nil))) rfl
 have d0:((be:Int) !=0)=false:=by rw[hb0];rfl
 obtain⟨hkl,hnl,hnb,hkb2,hi0,hi1⟩:=hbo hb0;obtain⟨j,rfl⟩:∃j:Nat,i=(j:Int):=⟨i.toNat,by omega⟩
 rw[if_neg (not_not_intro hb0)];refine aa ?_ (by simp only[go_sem,↓reduceIte,d0]<;>rfl)
 refine ae rfl ?_;refine aa ?_;refine ap hef (.pv _ .nil) ?_;by_cases he0:ee=0
 rotate_left
 ·have d1:(ee !=0)=true:=by rw[bne_iff_ne];exact he0
  rw[if_pos he0];refine aa ?_ (by simp only[go_sem,↓reduceIte,d1]<;>rfl)
  refine am rfl ?_;refine aa ?_;refine ac (.move rfl (.pv _ (.pv _ .nil))) rfl
 have d1:(ee !=0)=false:=by rw[he0];rfl
 rw[if_neg (not_not_intro he0)];have hpf:=ah9 en (by omega)
 have hpl:(vd en).2=0→(vd en).1.length≤2^24:=fun h=>by
  unfold vd at h⊢;split
  ·decide
  ·rename_i h2;rw[Rt (by omega)]
   have:=H4 (Qy en.length) (by have:=Vw en.length;omega)
   omega
 have hpb:∀x∈(vd en).1,x<256:=fun x hx=>by
  unfold vd at hx;split at hx
  ·simp at hx
  ·unfold N0 at hx;simp only[z06]at hx;rcases hx with(h|h)|h
   ·exact nt _ _ x h
   ·exact heb x h
   ·rw[List.eq_of_mem_replicate h];decide
 have hpe:(vd en).2=0→en.length≤4194300:=fun h=>by
  unfold vd at h;split at h
  ·exact absurd h (by decide)
  ·omega
 generalize vd en=P at*;obtain⟨pd,pe⟩:=P;simp only at hpf hpl hpb hpe⊢;refine aa ?_ (by simp only[go_sem,↓reduceIte,d1]<;>rfl)
 refine ae rfl ?_;refine aa ?_;refine av (args:=[.pv (.sl 1 (bytes en))]) (fun _=>0) hpf (.lend rfl c7 .nil) ?_
 by_cases hp0:pe=0
 rotate_left
 ·have d2:((pe:Int) !=0)=true:=by rw[bne_iff_ne];omega
  rw[if_pos hp0];refine aa ?_ (by simp only[go_sem,↓reduceIte,d2]<;>rfl)
  refine am rfl ?_;refine aa ?_;refine ac (.move rfl (.pv _ (.pv _ .nil))) rfl
 have d2:((pe:Int) !=0)=false:=by rw[hp0];rfl
 rw[if_neg (not_not_intro hp0)];have hkf:=Gd en.length (by omega)
 have hbk:aa0 en.length=(Qy en.length,0):=by unfold aa0;rw[if_neg (by have:=hpe hp0;omega)]
 rw[hbk]at hkf;have hbs:=Ux v j t hv (by omega) (by have:=ht64 he0;omega)
 have hbl:(N3 v j t).length≤2^30:=by
  have h1:=ht64 he0;have h2:=ut t h1;unfold N3;rw[z00,z00,gv,gv];omega
 have hbb:∀x∈N3 v j t,x<256:=fun x hx=>by
  unfold N3 jr at hx;simp only[z06]at hx;rcases hx with(h|h)|h|h
  ·exact nt _ _ x h
  ·exact nt _ _ x h
  ·exact fe _ x h
  ·exact O3 _ x h
 have hse:=ab2 k no (N3 v j t) pd hkl hkb2 hnl hnb hbb hbl hpb (by have:=hpl hp0;omega)
 refine aa ?_ (by simp only[go_sem,↓reduceIte,d2]<;>rfl)
 refine ae rfl ?_;refine bj (.slot 14) ?_;refine bj (.slot 15) ?_;refine aa ?_;refine ap hkf (.pv _ .nil) ?_;refine aa ?_;refine ap hbs (.pv _ (.pv _ (.pv _ .nil))) ?_;refine aa ?_;refine ap hse (.pv _ (.pv _ (.pv _ (.pv _ .nil)))) ?_;refine aa ?_;refine ae rfl ?_;refine aa ?_;refine ac (.move rfl (.pv _ (.pv _ .nil))) rfl
abbrev Cd(s:nh):List (Nat×HO):=[(1000,.cells 79 [.pv (.sl 1 (bytes s.1)),.pv (.int .i64 s.2)])]
attribute [go_sem] Cd
theorem Ia(s:nh)(n:Nat)(hn:n<2^63)(hl:s.1.length≤aw):Fn Tryz.prog 40 (Cd s) [.ptr 1000 0,.pv (.int .i64 n)]
  (fun rs H'=>rs=[.pv (.sl 1 (bytes (o7 n s).1))]∧H'=Cd (o7 n s).2):=by
 obtain⟨q,e⟩:=s;refine Fn.ob Tryz.f40 32 [.tmp 4] fun C=> ?_
 refine aa ?_;refine AW.cond rfl (fun hc=> ?_) (fun hc=> ?_)
 ·have he:e≠0:=by simpa using hc
  rw[zl (s:=(q,e)) he];refine aa ?_;refine ac (.lend rfl c7 .nil) rfl
 have he:e=0:=by simpa using hc
 subst he;unfold o7;rw[if_neg (by simp)]
 refine aa ?_;refine ap (y4 q n hn hl) (.pv _ (.pv _ .nil)) ?_;by_cases hq:n≤q.length
 ·simp only[if_pos hq];refine aa ?_;refine ac (.lend rfl c7 .nil) rfl
 ·simp only[if_neg hq];refine aa ?_;refine ac (.lend rfl c7 .nil) rfl
theorem r6(s:nh)(ok:Bool)(x:Int):Fn Tryz.prog 41 (Cd s) [.ptr 1000 0,.pv (.bool ok),.pv (.int .i64 x)]
  (fun rs H'=>rs=[]∧H'=Cd (mf ok x s)):=by
 obtain⟨q,e⟩:=s;refine Fn.ob Tryz.f41 19 [] fun C=> ?_
 by_cases he:e=0
 ·subst he;have g0:((0:Int)==0)=true:=rfl;rw[oa];cases ok with
  |true=>
   refine ak ?_ (by simp only[go_sem,↓reduceIte,g0]<;>rfl)
   refine ae rfl ?_;refine aa ?_;refine ac .nil rfl
  |false=>
   refine ak ?_ (by simp only[go_sem,↓reduceIte,g0]<;>rfl)
   refine am rfl ?_;refine aa ?_;refine ac .nil rfl
 ·have g0:(e==0)=false:=by rw[beq_eq_false_iff_ne];exact he
  rw[i5 (s:=(q,e)) he];refine ak ?_ (by simp only[go_sem,↓reduceIte,g0]<;>rfl)
  refine ae rfl ?_;refine aa ?_;refine ac .nil rfl
theorem Vo(s:nh)(hl:s.1.length≤aw)(hb:∀x∈s.1,x<256):Fn Tryz.prog 43 (Cd s) [.ptr 1000 0]
  (fun rs H'=>rs=[.pv (.int .u64 (p8 s).1)]∧H'=Cd (p8 s).2):=by
 obtain⟨q,e⟩:=s;refine Fn.ob Tryz.f43 29 [.tmp 2] fun C=> ?_
 refine aa ?_;refine AW.cond rfl (fun hc=> ?_) (fun hc=> ?_)
 ·have he:e≠0:=by simpa using hc
  rw[Ox (s:=(q,e)) he];refine aa ?_;refine ac (.pv _ .nil) rfl
 have he:e=0:=by simpa using hc
 subst he;rw[Ee];refine aa ?_;refine ap (Dr q hl hb) (.pv _ .nil) ?_;refine aa ?_;refine ac (.pv _ .nil) rfl
theorem Cp{n:Nat}{s:nh}:(o7 n s).2.1.length≤s.1.length:=by
 unfold o7;split
 ·exact z02 _
 ·split
  ·simp only[z10];omega
  ·exact z02 _
theorem C8{n:Nat}{s:nh}(h:∀x∈s.1,x<256):(∀x∈(o7 n s).2.1,x<256)∧∀x∈(o7 n s).1,x<256:=by
 unfold o7;split
 ·exact⟨h,by simp⟩
 ·split
  ·exact⟨fun x hx=>h x (z01 hx),fun x hx=>h x (List.mem_of_mem_take hx)⟩
  ·exact⟨h,by simp⟩
theorem Iy{n:Nat}{s:nh}:(o7 n s).1.length≤n:=by
 unfold o7;split
 ·simp
 ·split
  ·rw[List.length_take];omega
  ·simp
theorem nl{ok:Bool}{e:Int}{s:nh}:(mf ok e s).1=s.1:=by
 unfold mf;split<;>rfl
theorem G1{s:nh}:(p8 s).2.1.length≤s.1.length:=by
 unfold p8;split
 ·exact z02 _
 ·simp only[z10];omega
theorem yq{s:nh}(h:∀x∈s.1,x<256):(∀x∈(p8 s).2.1,x<256)∧(p8 s).1<2^64:=by
 unfold p8;split
 ·exact⟨h,Nat.two_pow_pos 64⟩
 ·exact⟨fun x hx=>h x (z01 hx),sj h⟩
theorem aAb{n:Nat}{bc:List (List UInt8)}{s:nh}(hn:n≤0∨s.2≠0):Ks n bc s=(bc,s):=by
 rcases hn with h|h
 ·obtain rfl:n=0:=by omega
  rfl
 ·exact vu n bc h
theorem aAd(s:nh)(hl:s.1.length≤2^40)(hb:∀x∈s.1,x<256):Fn Tryz.prog 42 (Cd s) [.ptr 1000 0]
  (fun rs H'=>rs=[.pv (.sl 1 (c6 (Qw s).1))]∧H'=Cd (Qw s).2):=by
 refine Fn.ob Tryz.f42 66 [.tmp 2] fun C=> ?_
 have hr:aw=140737488355328:=rfl;have h1:=G1 (s:=s);obtain⟨h2,h3⟩:=yq hb;refine aa ?_;refine av id (Vo s (by omega) hb) (.ptr rfl .nil) ?_
 have e0:Qw s=Ks (p8 s).1 [] (mf (decide ((p8 s).1≤1048576)) 4 (p8 s).2):=rfl;rw[e0];clear e0;generalize p8 s=V at*;obtain⟨n,s1⟩:=V;simp only at h1 h2 h3⊢;have d1:decide ((n:Int)≤1048576)=decide (n≤1048576):=by rw[z14];simp;omega
 refine aa ?_ (by simp only[go_sem,↓reduceIte,d1]<;>rfl)
 refine av id (r6 s1 (decide (n≤1048576)) 4) (.ptr rfl (.pv _ (.pv _ .nil))) ?_;have h4:(mf (decide (n≤1048576)) 4 s1).2=0→n≤1048576:=fun h=>by
  by_cases hn:n≤1048576
  ·exact hn
  ·unfold mf at h;rw[decide_eq_false hn]at h;split at h
   ·simp at h
   ·rename_i h5;exact absurd ⟨h,rfl⟩ h5
 have h5:(mf (decide (n≤1048576)) 4 s1).1.length≤s1.1.length:=by rw[nl];exact z02 _
 have h6:∀x∈(mf (decide (n≤1048576)) 4 s1).1,x<256:=by rw[nl];exact h2
 generalize mf (decide (n≤1048576)) 4 s1=s2 at*;refine aa ?_;refine aq (fun a:List (List UInt8)×nh=>⟨66,[(5,.pv (.int .u64 a.1.length)),(3,.pv (.int .u64 n)),(0,.ptr 1000 0),(4,.own 9 (c6 a.1))],[(1000,.cells 79 [.pv (.sl 1 (bytes a.2.1)),.pv (.int .i64 a.2.2)])]⟩) (fun a=>a.1.length≤n∧Ks (n-a.1.length) a.1 a.2=Ks n [] s2∧(∀x∈a.2.1,x<256)∧a.2.1.length≤s2.1.length∧(a.2.2=0→n≤1048576)) (fun a=>n-a.1.length) [5,3,0,4] [1000] ([],s2) ⟨Nat.zero_le _,rfl,h6,z02 _,h4⟩ ?_
 rintro⟨bc,⟨q,e⟩⟩ ⟨hi,htn,hqb,hql,hn⟩ K hK;simp only at hi htn hqb hql hn;by_cases hc:bc.length<n∧e=0
 ·obtain⟨hlt,he⟩:=hc;subst he;have hn:=hn rfl;obtain⟨m,hm⟩:∃m,n-bc.length=m+1:=⟨n-bc.length-1,by omega⟩
  have e0:Ks (m+1) bc (q,0)=Ks m (bc++[ub (blk q 64).1]) (mf (Fq bc (ub (blk q 64).1)) 3 ((blk q 64).2.2,(blk q 64).2.1)):=by conv=>lhs;unfold Ks;rw[if_neg (by simp)]
  rw[hm,e0]at htn;clear e0;have d1:decide ((bc.length:Int)<(n:Int))=true:=decide_eq_true (by omega)
  have d1':decide (bc.length<n)=true:=decide_eq_true (by omega)
  have g0:((0:Int)==0)=true:=rfl;obtain⟨hbb,hrb,_,hrl⟩:=j8 (m:=64) hqb;refine ak ?_ (by simp only[go_sem,↓reduceIte,g0,d1,d1']<;>rfl)
  refine am rfl ?_;refine aa ?_;refine ap (F2 q 64 (by decide) (by omega) hqb) (.pv _ (.pv _ .nil)) ?_
  generalize blk q 64=B at*;obtain⟨b,e,r⟩:=B;simp only at htn hbb hrb hrl;have r1:((bc.length+1)*16≤aw)=True:=eq_true (by omega)
  have r2:(bc.length+1≤aw)=True:=eq_true (by omega)
  have ei:IntKind.u64.wrap ((bc.length:Int)+1)=((bc.length+1:Nat):Int):=ay (n:=bc.length+1) (by omega)
  have hsn:=Ep bc (ub b);have hlen:(bc++[ub b]).length=bc.length+1:=by simp
  refine aa ?_;refine bj (.slot 6) ?_;refine Aj (T:= ?Tok) (fun hT=> ?_) ?_;rotate_left
  ·by_cases hA:bc=[]
   ·have d0:decide (bc.length=0)=true:=by rw[hA];rfl
    have d0':(((bc.length:Nat):Int)==0)=true:=by rw[hA];rfl
    have d0'':(bc.length==0)=true:=by rw[hA];rfl
    have hok:Fq bc (ub b)=true:=by rw[hA];rfl
    refine u4 15 mixed (by decide+kernel) ?_ (by simp only[go_sem,↓reduceIte,d0,d0',d0'',z09,z15]<;>rfl)
    refine aa ?_;refine av id (r6 (r,e) true 3) (.ptr rfl (.pv _ (.pv _ .nil))) ?_;rw[←hok];refine bq [5,3,0,4,6] [1000] (s':=⟨66,[(5,.pv (.int .u64 bc.length)),(3,.pv (.int .u64 n)),(0,.ptr 1000 0),(4,.own 9 (c6 bc)),(6,.pv (.sl 1 (bytes b)))],[(1000,.cells 79 [.pv (.sl 1 (bytes (mf (Fq bc (ub b)) 3 (r,e)).1)),.pv (.int .i64 (mf (Fq bc (ub b)) 3 (r,e)).2)])]⟩) ?_;exact hT ()
   ·obtain⟨l,hl⟩:∃l,bc.getLast?=some l:=⟨bc.getLast hA,List.getLast?_eq_some_getLast hA⟩
    have hpos:0<bc.length:=List.length_pos_iff.2 hA;have hok:=C9 (ub b) hl;rw[List.getLast?_eq_getElem?]at hl;have hg:=pf hl;have hll:(bc.length-1<bc.length)=True:=eq_true (by omega)
    have ej:IntKind.i64.wrap ((bc.length:Int)-1)=((bc.length-1:Nat):Int):=by rw[an (by omega) (by omega)];omega
    have d0:decide (bc.length=0)=false:=decide_eq_false (by omega)
    have d0':(((bc.length:Nat):Int)==0)=false:=by rw[beq_eq_false_iff_ne];omega
    have d0'':(bc.length==0)=false:=by rw[beq_eq_false_iff_ne];omega
    have hbl:Op.bytesLess l (ub b)=Fq bc (ub b):=by rw[bytesLess_eq,hok]
    refine u4 15 mixed (by decide+kernel) ?_ (by simp only[go_sem,↓reduceIte,d0,d0',d0'',ej,hg,hll,sw,ux,hbl,z09,z15]<;>rfl)
    refine aa ?_;refine av id (r6 (r,e) (Fq bc (ub b)) 3) (.ptr rfl (.pv _ (.pv _ .nil))) ?_;refine bq [5,3,0,4,6] [1000] (s':=⟨66,[(5,.pv (.int .u64 bc.length)),(3,.pv (.int .u64 n)),(0,.ptr 1000 0),(4,.own 9 (c6 bc)),(6,.pv (.sl 1 (bytes b)))],[(1000,.cells 79 [.pv (.sl 1 (bytes (mf (Fq bc (ub b)) 3 (r,e)).1)),.pv (.int .i64 (mf (Fq bc (ub b)) 3 (r,e)).2)])]⟩) ?_;exact hT ()
  have hr1:(mf (Fq bc (ub b)) 3 (r,e)).1=r:=nl;generalize mf (Fq bc (ub b)) 3 (r,e)=s3 at*;refine aa ?_ (by simp only[go_sem,↓reduceIte,sw,ux,r1,r2,ei,hsn,List.length_cons,z12,Nat.zero_add]<;>rfl)
  refine ah hK (bc++[ub b],s3) ⟨by rw[hlen];omega, ?_,by rw[hr1];exact hrb,by rw[hr1];omega,fun _=>hn⟩ (by simp only[hlen];omega) (hs:=by simp only[go_sem,↓reduceIte,hlen]<;>rfl)
  rw[←htn];simp only[hlen]
  congr 1
  omega
 have hfin:Ks n [] s2=(bc,(q,e)):=by
  rw[←htn];exact aAb (by by_cases h:e=0;exact .inl (by have:=fun k=>hc ⟨k,h⟩;omega);exact .inr h)
 rw[hfin];have hd:(decide ((bc.length:Int)<(n:Int))&& (e==0))=false:=by
  by_cases h:bc.length<n
  ·rw[z08];exact .inr (beq_eq_false_iff_ne.2 (fun k=>hc ⟨h,k⟩))
  ·rw[z08];exact .inl (decide_eq_false (by omega))
 refine Aj (T:= ?Tend) (fun hT=> ?_) ?_;rotate_left
 ·by_cases hlt:bc.length<n
  ·have d1:decide ((bc.length:Int)<(n:Int))=true:=decide_eq_true (by omega)
   have d1':decide (bc.length<n)=true:=decide_eq_true (by omega)
   have g0:(e==0)=false:=beq_eq_false_iff_ne.2 (fun k=>hc ⟨hlt,k⟩)
   refine ak ?_ (by simp only[go_sem,↓reduceIte,g0,d1,d1']<;>rfl)
   refine bq [24,4] [1000] (s':=⟨66,[(24,.pv (.bool false)),(4,.own 9 (c6 bc))],[(1000,.cells 79 [.pv (.sl 1 (bytes q)),.pv (.int .i64 e)])]⟩) ?_;exact hT ()
  ·have d1:decide ((bc.length:Int)<(n:Int))=false:=decide_eq_false (by omega)
   have d1':decide (bc.length<n)=false:=decide_eq_false (by omega)
   refine ak ?_ (by simp only[go_sem,↓reduceIte,d1,d1']<;>rfl)
   refine bq [24,4] [1000] (s':=⟨66,[(24,.pv (.bool false)),(4,.own 9 (c6 bc))],[(1000,.cells 79 [.pv (.sl 1 (bytes q)),.pv (.int .i64 e)])]⟩) ?_;exact hT ()
 refine ae rfl ?_;refine bj (.slot 4) ?_;refine aa ?_;refine ac (.pv _ .nil) rfl
theorem Ix:∀(n:Nat) (bc:List (List UInt8)) (s:nh),(∀x∈s.1,x<256)→(Ks n bc s).2.1.length≤s.1.length∧(∀x∈(Ks n bc s).2.1,x<256)∧(Ks n bc s).1.length≤bc.length+n
 |0,bc,s,h=>⟨z02 _,h,z02 _⟩
 |n+1,bc,s,h=>by
  obtain⟨h1,h2,h3,h4⟩:=j8 (m:=64) h;unfold Ks;split
  ·exact⟨z02 _,h,Nat.le_add_right _ _⟩
  ·have hr:=nl (ok:=Fq bc (ub (blk s.1 64).1)) (e:=3) (s:=((blk s.1 64).2.2,(blk s.1 64).2.1));obtain⟨k1,k2,k3⟩:=Ix n (bc++[ub (blk s.1 64).1]) (mf (Fq bc (ub (blk s.1 64).1)) 3 ((blk s.1 64).2.2,(blk s.1 64).2.1)) (by rw[hr];exact h2)
   rw[hr]at k1;rw[z00,z07]at k3;simp only at k1;exact⟨by omega,k2,by omega⟩
theorem apb(s:nh)(h:∀x∈s.1,x<256):(Qw s).2.1.length≤s.1.length:=by
 have h1:=(yq h).1;have h2:=G1 (s:=s);have h3:=nl (ok:=decide ((p8 s).1≤1048576)) (e:=4) (s:=(p8 s).2);have:=(Ix (p8 s).1 [] (mf (decide ((p8 s).1≤1048576)) 4 (p8 s).2) (by rw[h3];exact h1)).1
 rw[h3]at this;unfold Qw;omega
theorem ah1(s:nh)(h:∀x∈s.1,x<256):∀x∈(Qw s).2.1,x<256:=by
 have h1:=(yq h).1;have h3:=nl (ok:=decide ((p8 s).1≤1048576)) (e:=4) (s:=(p8 s).2);exact(Ix (p8 s).1 [] (mf (decide ((p8 s).1≤1048576)) 4 (p8 s).2) (by rw[h3];exact h1)).2.1
theorem aq1:∀(n:Nat) (bc:List (List UInt8)) (s:nh),(Ks n bc s).1.length≤bc.length+n
 |0,bc,s=>z02 _
 |n+1,bc,s=>by
  unfold Ks;split
  ·simp only;omega
  ·have:=aq1 n (bc++[ub (blk s.1 64).1]) (mf (Fq bc (ub (blk s.1 64).1)) 3 ((blk s.1 64).2.2,(blk s.1 64).2.1));rw[z00,z07]at this;omega
theorem aG9(s:nh):(Qw s).1.length≤1048576:=by
 unfold Qw;by_cases h:(mf (decide ((p8 s).1≤1048576)) 4 (p8 s).2).2=0
 ·have h1:=of_decide_eq_true (C7 (by decide) h).2
  have:=aq1 (p8 s).1 [] (mf (decide ((p8 s).1≤1048576)) 4 (p8 s).2);simp only[z12]at this;omega
 ·rw[vu _ _ h];simp
end Go.Ck
