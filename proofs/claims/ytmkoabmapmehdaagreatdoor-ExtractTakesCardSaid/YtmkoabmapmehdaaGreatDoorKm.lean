/- What is proved here: parts of the proofs of this seat's statements (a verified evaluator for calls over pure values, its laws, and contracts of functions). No condition. -/
import Derived.Test.YtmkoabmapmehdaaGreatDoorKl
set_option linter.all false
open Nat renaming mod_eq_of_lt→z00,or_lt_two_pow→z04,min_eq_left→z07
open List renaming mem_cons→z01,getElem?_eq_getElem→z02,getElem?_map→z03,map_set→z08
open Int renaming toNat_natCast→z05
open Bool renaming and_eq_true→z06
namespace Go.Ck
def dw(l:List Nat):List PV:=l.map fun(n:Nat)=> .int .u64 (n:Int)
def bytes(l:List Nat):List PV:=l.map fun(n:Nat)=> .int .u8 (n:Int)
def j4(l:List Int):List PV:=l.map (.int .i64)
theorem wrap_u64(n:Nat):IntKind.u64.wrap (n:Int)=((n % 2^64:Nat):Int):=by
 rw[IntKind.wrap_u64];omega
theorem ay{n:Nat}(h:n<2^64):IntKind.u64.wrap (n:Int)=(n:Int):=by rw[wrap_u64,z00 h]
theorem wrap_u8(n:Nat):IntKind.u8.wrap (n:Int)=((n % 256:Nat):Int):=by
 rw[IntKind.wrap_u8];omega
theorem fi{n:Nat}(h:n<256):IntKind.u8.wrap (n:Int)=(n:Int):=by rw[wrap_u8,z00 h]
theorem an{n:Int}(h: -(2^63)≤n)(h2:n<2^63):IntKind.i64.wrap n=n:=by
 rw[IntKind.wrap_i64];omega
theorem au{n:Nat}(h:n<2^63):IntKind.i64.wrap (n:Int)=(n:Int):=an (by omega) (by omega)
theorem ai{n:Nat}(h:n+1<2^63):IntKind.i64.wrap ((n:Int)+1)=((n+1:Nat):Int):=by rw[an (by omega) (by omega)];omega
theorem rh(w n:Nat):BitVec.ofInt w (n:Int)=BitVec.ofNat w n:=by simp
theorem Bo{a b:Nat}(ha:a<2^64)(hb:b<2^64):ef .or .u64 (a:Int) (b:Int)=((a|||b:Nat):Int):=by
 simp only[ef,rh,BitVec.toNat_or,BitVec.toNat_ofNat];rw[show IntKind.u64.bits=64 from rfl,z00 ha,z00 hb,ay (z04 ha hb)]
theorem y7{a b:Nat}(ha:a<2^64)(hb:b<2^64):ef .and .u64 (a:Int) (b:Int)=((a&&&b:Nat):Int):=by
 simp only[ef,rh,BitVec.toNat_and,BitVec.toNat_ofNat];rw[show IntKind.u64.bits=64 from rfl,z00 ha,z00 hb,ay (Nat.lt_of_le_of_lt Nat.and_le_left ha)]
theorem F9{a b:Nat}(ha:a<2^64)(hb:b<2^64):ef .xor .u64 (a:Int) (b:Int)=((a^^^b:Nat):Int):=by
 simp only[ef,rh,BitVec.toNat_xor,BitVec.toNat_ofNat];rw[show IntKind.u64.bits=64 from rfl,z00 ha,z00 hb,ay (Nat.xor_lt_two_pow ha hb)]
theorem My{a b:Nat}(ha:a<2^8)(hb:b<2^8):ef .or .u8 (a:Int) (b:Int)=((a|||b:Nat):Int):=by
 simp only[ef,rh,BitVec.toNat_or,BitVec.toNat_ofNat];rw[show IntKind.u8.bits=8 from rfl,z00 ha,z00 hb,fi (z04 ha hb)]
theorem j7(k:IntKind)(a m:Nat)(hm:m≤k.bits):mo k (a:Int) (m:Int)=((a/2^m:Nat):Int):=by
 unfold mo;rw[z05,z07 hm,Int.fdiv_eq_ediv_of_nonneg _ (by exact_mod_cast Nat.zero_le _)]
 simp
theorem wg(a m:Nat)(hm:m≤64):xw .u64 (a:Int) (m:Int)=((a*2^m % 2^64:Nat):Int):=by
 unfold xw;rw[z05,show IntKind.u64.bits=64 from rfl,z07 hm,←wrap_u64]
 simp
theorem ba(l:List Nat):(bytes l).length=l.length:=by simp[bytes]
theorem bx(l r:List Nat):bytes l++bytes r=bytes (l++r):=by simp[bytes]
theorem dz(l:List Nat)(n:Nat):(bytes l).take n=bytes (l.take n):=by simp[bytes]
theorem ot(l:List Nat)(n:Nat):(bytes l).drop n=bytes (l.drop n):=by simp[bytes]
theorem m9(n:Nat):[PV.int .u8 (n:Int)]=bytes [n]:=rfl
theorem rl{l:List Nat}{i:Nat}(h:i<l.length):(bytes l)[i]?=some (.int .u8 (l[i]:Nat)):=by simp[bytes,h]
theorem Ni(l:List Nat)(i n:Nat):(bytes l).set i (.int .u8 (n:Int))=bytes (l.set i n):=by simp[bytes,z08]
theorem Fv(l:List Nat):(dw l).length=l.length:=by simp[dw]
theorem Tm(l r:List Nat):dw l++dw r=dw (l++r):=by simp[dw]
theorem Lx(l:List Nat)(n:Nat):(dw l).take n=dw (l.take n):=by simp[dw]
theorem abd(l:List Nat)(n:Nat):(dw l).drop n=dw (l.drop n):=by simp[dw]
theorem gh{l:List Nat}{i:Nat}(h:i<l.length):(dw l)[i]?=some (.int .u64 (l[i]:Nat)):=by simp[dw,h]
theorem Ug(l:List Int):(j4 l).length=l.length:=by simp[j4]
theorem Uh(l r:List Int):j4 l++j4 r=j4 (l++r):=by simp[j4]
theorem adj(l:List Int)(n:Nat):(j4 l).take n=j4 (l.take n):=by simp[j4]
theorem adm(l:List Int)(n:Nat):(j4 l).drop n=j4 (l.drop n):=by simp[j4]
theorem Sb{l:List Int}{i:Nat}(h:i<l.length):(j4 l)[i]?=some (.int .i64 l[i]):=by simp[j4,h]
theorem Xu(l:List Nat):vg (bytes l)=true:=by induction l with|nil=>rfl|cons a l ih=>simpa[bytes,vg,PV.clo]using ih
theorem ad8(l:List Nat):vg (dw l)=true:=by induction l with|nil=>rfl|cons a l ih=>simpa[dw,vg,PV.clo]using ih
theorem aea(l:List Int):vg (j4 l)=true:=by induction l with|nil=>rfl|cons a l ih=>simpa[j4,vg,PV.clo]using ih
def ct(l:List Nat):List PV:=l.map fun(n:Nat)=> .int .i64 (n:Int)
theorem bh(l:List Nat):(ct l).length=l.length:=by simp[ct]
theorem jy(l r:List Nat):ct l++ct r=ct (l++r):=by simp[ct]
theorem I2(l:List Nat)(n:Nat):(ct l).take n=ct (l.take n):=by simp[ct]
theorem aio(l:List Nat)(n:Nat):(ct l).drop n=ct (l.drop n):=by simp[ct]
theorem th(n:Nat):[PV.int .i64 (n:Int)]=ct [n]:=rfl
theorem Zt{l:List Nat}{i:Nat}(h:i<l.length):(ct l)[i]?=some (.int .i64 (l[i]:Nat)):=by simp[ct,h]
theorem G3(l:List Nat)(i n:Nat):(ct l).set i (.int .i64 (n:Int))=ct (l.set i n):=by simp[ct,z08]
theorem ajx(l:List Nat):vg (ct l)=true:=by induction l with|nil=>rfl|cons a l ih=>simpa[ct,vg,PV.clo]using ih
theorem Rb(n:Nat):[PV.int .u64 (n:Int)]=dw [n]:=rfl
theorem I6(n:Int):[PV.int .i64 n]=j4 [n]:=rfl
attribute [go_sem] bh jy I2 aio ajx
theorem Xy(x:Nat)(r:List Nat):(bytes (x::r))[0]?=some (.int .u8 (x:Int)):=rfl
theorem Ly(x:Nat)(r:List Nat):(dw (x::r))[0]?=some (.int .u64 (x:Int)):=rfl
theorem ain(x:Nat)(r:List Nat):(ct (x::r))[0]?=some (.int .i64 (x:Int)):=rfl
theorem adk(x:Int)(r:List Int):(j4 (x::r))[0]?=some (.int .i64 x):=rfl
attribute [go_sem] Xy Ly ain adk
theorem Ud(n:Nat):((n:Int)<0)=False:=by simp
theorem Tk(n:Nat):((0:Int)≤(n:Int))=True:=by simp
theorem jp(n:Nat)(h:n≤1000:=by decide):n≤maxLen:=by unfold maxLen;omega
theorem O6(n:Nat)(h:n≤1000:=by decide):n≤aw:=by unfold aw;omega
theorem wq:(0≤maxLen)=True:=by simp
theorem W7:(1≤maxLen)=True:=by simp[jp]
theorem W6:(2≤maxLen)=True:=by simp[jp]
theorem W5:(3≤maxLen)=True:=by simp[jp]
theorem Uf:(16≤maxLen)=True:=by simp[jp]
theorem ai0:(0≤aw)=True:=by simp
theorem aiz:(1≤aw)=True:=by simp[O6]
theorem aiy:(8≤aw)=True:=by simp[O6]
theorem aAu(k n:Nat):((k:Nat):Int)*(n:Int)=((k*n:Nat):Int):=rfl
attribute [go_sem] wq W7 W6 W5 Uf ai0 aiz aiy aAu Nat.one_mul Int.toNat_natCast
attribute [go_sem] Ud Tk id_eq id ba bx dz ot Fv Tm Lx abd Ug Uh adj adm Xu ad8 aea Int.ofNat_le Int.ofNat_lt SV.clo HO.clo PV.clo okA Hc yc yj Ba ar1 v6 inL Ve aC1 neM HM Fu List.isEmpty_nil Option.isSome_some Int.natCast_nonneg Int.sub_zero Option.map_some Option.map_none
theorem Nf{p q:PV}(h:p.cells=[q])(h1:p.one=true):p=q:=by
 cases p<;>first|(simp[PV.cells]at h;exact h)|simp[PV.one]at h1
section
variable {P : Program} {n : Nat} {t : TypeId} {p : PV}
theorem ag0{k:IntKind}(hu:P.underlying t=some (.int k))(h:PT P (n+1) t p.cells)(h1:p.one= !gc P t):∃m,p= .int k m∧(Lit.int k m).wf=true:=by
 unfold gc at h1;rw[hu]at h1;unfold PT at h;rw[hu]at h;obtain⟨m,e,hw⟩:=h;exact⟨m,Nf e h1,hw⟩
theorem akd{e:TypeId}(hu:P.underlying t=some (.slice e))(h:PT P (n+1) t p.cells)(h1:p.one= !gc P t):∃xs,p= .sl (P.cellsOf e) xs∧xs.length≤maxLen∧∀x∈xs,PT P n e x.cells∧x.one= !gc P e:=by
 unfold gc at h1;rw[hu]at h1;unfold PT at h;rw[hu]at h;obtain⟨xs,e,h2,h3⟩:=h;exact⟨xs,Nf e h1,h2,h3⟩
theorem Z0{k:IntKind}:∀(xs:List PV),(∀x∈xs,∃m,x= .int k m∧(Lit.int k m).wf=true)→∃l:List Int,xs=l.map (.int k)∧∀m∈l,(Lit.int k m).wf=true
 |[],_=>⟨[],rfl,by simp⟩
 |x::r,h=>by
  obtain⟨m,rfl,hm⟩:=h x (by simp)
  obtain⟨l,rfl,hl⟩:=Z0 r (fun y hy=>h y (by simp[hy]))
  exact⟨m::l,rfl,by simpa using⟨hm,hl⟩⟩
theorem aqn{e:TypeId}{k:IntKind}(hu:P.underlying t=some (.slice e))(he:P.underlying e=some (.int k))(hc:P.cellsOf e=1)(h:PT P (n+2) t p.cells)(h1:p.one= !gc P t):∃l:List Int,p= .sl 1 (l.map (.int k))∧l.length≤maxLen∧∀m∈l,(Lit.int k m).wf=true:=by
 obtain⟨xs,rfl,h2,h3⟩:=akd (n:=n+1) hu h h1;obtain⟨l,rfl,hl⟩:=Z0 xs (fun x hx=>ag0 (n:=n) he (h3 x hx).1 (h3 x hx).2)
 exact⟨l,by rw[hc],by simpa using h2,hl⟩
theorem Zv{k:IntKind}(hk:k.signed=false):∀(l:List Int),(∀m∈l,(Lit.int k m).wf=true)→∃r:List Nat,l=r.map (fun(n:Nat)=>(n:Int))∧∀x∈r,x<2^k.bits
 |[],_=>⟨[],rfl,by simp⟩
 |m::r,h=>by
  have hm:=h m (by simp)
  simp only[Lit.wf,IntKind.min,IntKind.max,hk,z06,decide_eq_true_eq]at hm;obtain⟨l,rfl,hl⟩:=Zv hk r (fun y hy=>h y (by simp[hy]))
  obtain⟨a,rfl⟩:∃a:Nat,m=a:=⟨m.toNat,by have:=hm.1;simp at this;omega⟩
  refine⟨a::l,rfl, ?_⟩;simp only[z01,forall_eq_or_imp];refine⟨?_,hl⟩;have h2:(a:Int)≤2^k.bits-1:=hm.2;have h3:((2^k.bits:Nat):Int)=(2:Int)^k.bits:=by norm_cast
  omega
theorem ake{e:TypeId}(hu:P.underlying t=some (.slice e))(he:P.underlying e=some (.int .u8))(hc:P.cellsOf e=1)(h:PT P (n+2) t p.cells)(h1:p.one= !gc P t):∃l:List Nat,p= .sl 1 (bytes l)∧l.length≤maxLen∧∀x∈l,x<256:=by
 obtain⟨l,rfl,h2,h3⟩:=aqn (n:=n) hu he hc h h1;obtain⟨r,rfl,h4⟩:=Zv rfl l h3;exact⟨r,by simp[bytes],by simpa using h2,h4⟩
theorem avg{m:Int}(h:(Lit.int .i64 m).wf=true): -2^63≤m∧m<2^63:=by
 simp only[Lit.wf,IntKind.min,IntKind.max,z06,decide_eq_true_eq]at h;have h1: -(2:Int)^63≤m:=of_decide_eq_true h.1;have h2:m≤(2:Int)^63-1:=of_decide_eq_true h.2;omega
theorem ag1(hu:P.underlying t=some (.int .i64))(h:PT P (n+1) t p.cells)(h1:p.one= !gc P t):∃v:Int,p= .int .i64 v∧ -2^63≤v∧v<2^63:=by
 obtain⟨m,rfl,hm⟩:=ag0 hu h h1;exact⟨m,rfl,avg hm⟩
theorem PA3{N:Nat}{t u v:TypeId}{pl:List PV}(h:PA P N [t,u,v] pl):∃p q r,pl=[p,q,r]∧(PT P N t p.cells∧p.one= !gc P t)∧(PT P N u q.cells∧q.one= !gc P u)∧(PT P N v r.cells∧r.one= !gc P v):=by
 obtain⟨h1,h2⟩:=h
 match pl,h1 with
 |[p,q,r],_=>exact⟨p,q,r,rfl,h2 0 _ _ rfl rfl,h2 1 _ _ rfl rfl,h2 2 _ _ rfl rfl⟩
end
end Go.Ck
namespace Go.Ck
open Go.RowKit Go.ChangeShapes Go.WideShapes Go.ChangeAt
theorem Dw{P:Program}{w:World}{n:String}{d:DataW Unit}:∀ {laid:List (String×DataW Unit)} {ps:List MemPlace},DataW.LaidVars P w laid ps→(n,d)∈laid→∃g t cs fuel p,P.globalNamed n=some g∧(P.globals[g]?).map (·.type)=some t∧w.var? P n=some cs∧DataW.trod (fun _=>()) P w 0 (fun _=>true) false fuel t cs.toList=some (d,p)
 |[],_,_,hm=>by cases hm
 |(m,x)::r,ps,⟨g,t,cs,f,p,q,h1,h2,h3,h4,h5,_⟩,hm=>by
  rcases z01.1 hm with hm|hm
  ·injection hm with e1 e2
   subst e1 e2;exact⟨g,t,cs,f,p,h1,h2,h3,h4⟩
  ·exact Dw h5 hm
theorem adq{P:Program}{W:World}{g t e:Nat}{laid:List (String×DataW Unit)}(hl:(laid.all fun x=>x.2.handleName?.isNone)=true)(hin:("math/bits.deBruijn64tab",aC0)∈laid)(hgt:Q4 P=[(g,km)])(hg:P.globalNamed "math/bits.deBruijn64tab" =some g)(ht:(P.globals[g]?).map (·.type)=some t)
  (hu:P.underlying t=some (.array 64 e)) (he:P.underlying e=some (.int .u8)) (hc:P.cellsOf e=1) (h:laidMetH P laid W):Gj P Lf W:=by
 rw[MakeChecks.laidMetH_plain _ _ _ hl]at h;obtain⟨ps,hv,_,_⟩:=h;obtain⟨g0,t0,cs0,f0,p0,hg0,ht0,hv0,hd0⟩:=Dw hv hin;obtain rfl:=Option.some.inj (hg.symm.trans hg0);obtain rfl:=Option.some.inj (ht.symm.trans ht0);obtain⟨xs,m,_,hx,hlen,hn,hel⟩:=DataW.trod_array hu hd0;rw[hc]at hel;simp only[Prod.mk.injEq]at hx;have hx1:km.map (fun(n:Nat)=>(DataW.lit (.int .u8 (n:Int)):DataW Unit))=xs.map (·.1):=by
  have:=hx.1;unfold aC0 at this;injection this
 intro g' l hgl;rw[hgt]at hgl;simp only[z01,List.not_mem_nil,or_false,Prod.mk.injEq]at hgl;obtain⟨rfl,rfl⟩:=hgl;have hcell:=World.var?_cell hg hv0;refine⟨fun hb=>hb, ?_,fun i n hi=> ?_⟩
 ·simp only[World.var?,hg,Option.bind_some]at hv0;split at hv0
  ·rename_i hb;exact(Array.getElem?_eq_some_iff.1 hb).1
  ·cases hv0
 ·have hi64:i<64:=(List.getElem?_eq_some_iff.1 hi).1;have h1:=hel i hi64;have hxi:i<xs.length:=by omega
  rw[z02 hxi]at h1;obtain⟨z,e1,e2,_⟩:=DataW.trod_int he h1;have h2:(km.map (fun(n:Nat)=>(DataW.lit (.int .u8 (n:Int)):DataW Unit)))[i]?=(xs.map (·.1))[i]?:=by rw[hx1]
  rw[z03,hi,z03,z02 hxi,e2]at h2;simp at h2;subst h2;rw[hcell i];rw[Nat.mul_one]at e1;have h3:cs0.toList[i]?=some (.int .u8 (n:Int)):=by
   have h4:((cs0.toList.drop i).take 1)[0]?=some (.int .u8 (n:Int)):=by rw[e1];rfl
   rw[List.getElem?_take,if_pos (by omega),List.getElem?_drop]at h4
   simpa using h4
  simpa using h3
end Go.Ck
