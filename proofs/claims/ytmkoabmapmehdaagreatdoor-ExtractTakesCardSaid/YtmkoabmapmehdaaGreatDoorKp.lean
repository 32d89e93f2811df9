/- What is proved here: parts of the proofs of this seat's statements (a verified evaluator for calls over pure values, its laws, and contracts of functions). No condition. -/
import Derived.Test.YtmkoabmapmehdaaGreatDoorKo
import Derived.Laws.IdiomCopy
import Derived.Test.YtmkoabmapmehdaaGreatDoorKm
set_option linter.all false
open Int renaming toNat_natCast→z00
open Bool renaming and_eq_true→z01
namespace Go.Ck
open Go.RowKit
def Bc(o:Nat):List (Nat×SV)→Bool
 |[]=>true
 |(_,v)::r=> !(v.onO o)&&Bc o r
theorem aAk{o i:Nat}{v:SV}(h:v.onO o=false):v.on (.cell o i)=false:=by
 cases v with
 |al p=>cases p<;>simp_all [SV.onO,SV.on]
 |vw p e f n=>cases p<;>simp_all [SV.onO,SV.on]
 |ea p e f n=>cases p<;>simp_all [SV.onO,SV.on]
 |_=>rfl
theorem J1{o i:Nat}:∀ {l:List (Nat×SV)},Bc o l=true→Fs (.cell o i) l=l
 |[],_=>rfl
 |(d,v)::r,h=>by
  simp only[Bc,z01,Bool.not_eq_true']at h;simp only[Fs,J1 h.2,aAk h.1,Bool.false_eq_true,if_false]
theorem Ay(o:Nat)(h h':HO):∀l:List (Nat×HO),setObj o h (setObj o h' l)=setObj o h l
 |[]=>rfl
 |(k,v)::r=>by
  by_cases hk:k=o
  ·simp[setObj,hk]
  ·simp[setObj,hk,Ay o h h' r]
theorem Fx{o:Nat}{h:HO}:∀ {l:List (Nat×HO)},aj o l=some h→setObj o h l=l
 |[],_=>rfl
 |(k,v)::r,e=>by
  unfold aj at e;unfold setObj;split
  ·rename_i hk;rw[if_pos hk]at e;cases e;rfl
  ·rename_i hk;rw[if_neg hk]at e;rw[Fx e]
theorem Pz(cs:List SV)(off:Nat):setCells cs [] off=cs:=by simp[setCells]
theorem K1(cs:List SV)(c:SV)(r:List SV)(off:Nat)(h:off<cs.length):setCells (cs.set off c) r (off+1)=setCells cs (c::r) off:=by
 unfold setCells;rw[List.take_set,List.drop_set];simp only[List.length_cons];rw[if_pos (by omega),show off+1+r.length=off+(r.length+1)by omega]
 rw[List.take_succ_eq_append_getElem h,List.set_append_right _ _ (by simp;omega)]
 simp[Nat.min_eq_left (Nat.le_of_lt h)]
theorem Qh{s:St}{o off:Nat}{e:TypeId}{cs:List SV}{v:SV}(ha:Bc o s.sl=true)(hl:aj o s.hp=some (.cells e cs)):cm (.cell o off) v (kill (.cell o off) s)=⟨s.n,s.sl,setObj o (.cells e (cs.set off v)) s.hp⟩:=by
 simp only[cm,kill,hl,J1 ha]
theorem s6:∀(new:List SV) {off:Nat} {s:St} {o:Nat} {e:TypeId} {cs:List SV},Bc o s.sl=true→aj o s.hp=some (.cells e cs)→off+new.length≤cs.length→putCells o off new s=⟨s.n,s.sl,setObj o (.cells e (setCells cs new off)) s.hp⟩
 |[],off,s,o,e,cs,ha,hl,hle=>by rw[Pz,Fx hl];rfl
 |c::r,off,s,o,e,cs,ha,hl,hle=>by
  have hl':aj o (setObj o (.cells e (cs.set off c)) s.hp)=some (.cells e (cs.set off c)):=by rw[dm];simp[hl]
  simp only[putCells,Qh ha hl];rw[s6 r (s:=⟨s.n,s.sl,setObj o (.cells e (cs.set off c)) s.hp⟩) ha hl' (by simp at hle⊢;omega),Ay,K1 _ _ _ _ (by simp at hle;omega)]
theorem Ff(l:List PV):Ax (l.map SV.pv)=some l:=by
 induction l with
 |nil=>rfl
 |cons p r ih=>simp[Ax,ih]
theorem Qn{l:List PV}(h:l.all PV.one=true):ic (l.map SV.pv)=true:=by
 induction l with
 |nil=>rfl
 |cons p r ih=>
  simp only[List.all_cons,z01]at h;simp[ic,h.1,ih h.2]
section
variable {P : Program} {R : Option Nat} {Φ : Exit → Cx → St → Prop} {k : List It} {C : Cx} {s : St}
theorem Ti{all:Array Oper}{o:Oper}{r:List Oper}{d t:Nat}{x:Operand}{q off:Nat}{e:TypeId}{cs:List SV}{ps:List PV}(hx:ev s x=some (.ptr q off))(hl:aj q s.hp=some (.cells e cs))(hc:(cs.drop off).take ps.length=ps.map .pv)
  (hk:AW P R Φ .normal (.ops all r::k) C (put d (.pv (.agg ps)) s)) (hT:gq P t=some (ps.length,true)) (hle:off+ps.length≤cs.length) (hg:o.guard=none:=by rfl) (hd:o.dst=some d:=by rfl) (ho:o.op= .load t x:=by rfl):AW P R Φ .normal (.ops all (o::r)::k) C s:=
 AW.step hg (by simp only[du,hd,ho,reads,if_true,aval,hx,aload,hl,aff,hT,hle,hc,Ff,afg,Nz]) hk
theorem rm{all:Array Oper}{o:Oper}{r:List Oper}{t:Nat}{x y:Operand}{q off:Nat}{e:TypeId}{cs:List SV}{ps:List PV}(hx:ev s x=some (.ptr q off))(hl:aj q s.hp=some (.cells e cs))(hy:ev s y=some (.pv (.agg ps)))(hle:off+ps.length≤cs.length)
  (hk:AW P R Φ .normal (.ops all r::k) C ⟨s.n,s.sl,setObj q (.cells e (setCells cs (ps.map .pv) off)) s.hp⟩) (hT:gq P t=some (ps.length,true)) (h1:ps.all PV.one=true) (ha:Bc q s.sl=true:=by rfl) (hg:o.guard=none:=by rfl) (hd:o.dst=none:=by rfl) (ho:o.op= .store t x y:=by rfl):AW P R Φ .normal (.ops all (o::r)::k) C s:=
 AW.step hg (by
  have hle':off+(ps.map SV.pv).length≤cs.length:=by simpa using hle
  simp only[du,hd,ho,hx,hy,Il,hl,N8,hT,su,C3,List.length_map,hle,Qn h1,and_self,if_true,s6 _ ha hl hle']) hk
theorem AW.sliceO{all:Array Oper}{o:Oper}{r:List Oper}{d t:Nat}{x:Operand}{lo hi:Option Operand}{vl vh:Option SV}{q off l h m e:Nat}{ea:Bool}{m1 m2:Option Int}(hx:ev s x=some (.ptr q off))(hlo:evo s lo=some vl)(hhi:evo s hi=some vh)(h1:oc vl=some m1)(h2:oc vh=some m2)(el:m1.getD 0=(l:Int))(eh:m2.getD (m:Int)=(h:Int))(hlh:l≤h)(hhm:h≤m)(hlm:l<m)(ho':∃y,aj q s.hp=some y)
  (hk:AW P R Φ .normal (.ops all r::k) C (put d (.os q (off+l) (h-l)) s)) (hT:tk P t= .arr m e 1 ea:=by simp only[go_sem]) (hg:o.guard=none:=by rfl) (hd:o.dst=some d:=by rfl) (ho:o.op= .slice t x lo hi none:=by rfl):AW P R Φ .normal (.ops all (o::r)::k) C s:=by
 refine oy hg hd (fun c hc=>by rw[ho]at hc;cases hc) ⟨rfl,by simp[SV.on],fun o hpt=> ?_⟩ (fun B E a w _ hE=> ?_) hk
 ·have:q=o:=by simpa[SV.pts]using hpt
  subst this;exact ho'
 ·have hp:=cq hE hx;generalize hxe:a.eval x=v1 at hp;cases hp
  obtain⟨hu,hez⟩:=H3 hT;obtain⟨inf,hinf,hsz⟩:=fy (P:=P) (t:=e) (by omega)
  have hl':=nu h1 (u1 hE hlo);have hh':=nu h2 (u1 hE hhi);have hb:=j9 (P:=P) (w:=w) false m m m1 m2 (lo.map a.eval) (hi.map a.eval) hl' hh' (by rw[el,eh];omega) (Nat.le_refl _)
  rw[el,eh]at hb;refine⟨.slice (some ⟨E.obj q,off+l,none⟩) (h-l) (m-l), ?_,.os _ _ _ _ (by omega)⟩
  have hne:¬(m=l):=by omega
  simp[execOp,ho,hxe,Instr.sliceAt,run_underlying hu,Instr.sureAddr,hb,run_sizeOf w hinf,hez,hne,gd]
theorem akj{all:Array Oper}{o:Oper}{r:List Oper}{d t t' el:Nat}{c:Call}{x y:Operand}{q off n kk:Nat}{e:TypeId}{cs:List SV}{v:SV}{xs:List PV}{ez eb:Nat}{ea:Bool}(hx:ev s x=some (.os q off n))(hl:aj q s.hp=some (.cells e cs))(hle:off+n≤cs.length)(hy:ev s y=some v)(hv:cont s v=some xs)(h1:xs.all PV.one=true)(hk':kk=min xs.length n)
  (hk:AW P R Φ .normal (.ops all r::k) C (put d (.pv (.int .i64 kk)) ⟨s.n,s.sl,setObj q (.cells e (setCells cs ((xs.take kk).map .pv) off)) s.hp⟩)) (hT:tk P t= .sl el 1 eb ea:=by simp only[go_sem]) (ha:Bc q s.sl=true:=by rfl) (hg:o.guard=none:=by rfl) (hd:o.dst=some d:=by rfl) (ho:o.op= .call c:=by rfl) (hc:c.callee= .builtin .copy:=by rfl) (hca:c.args= #[x,y]:=by rfl) (hct:c.argTypes= #[t,t']:=by rfl):AW P R Φ .normal (.ops all (o::r)::k) C s:=fun B a w hA=>by
 simp only[mz];refine cb (by simp[Region.wanted,hg]) (fun c hc=>by rw[ho]at hc;cases hc) ?_
 obtain⟨hdf,E,hE⟩:=hA;have e1:=cq hE hx;generalize hxe:a.eval x=v1 at e1;cases e1 with|os _ _ _ cap hcap=> ?_
 obtain⟨sa,scap,vs,e2,hro,hm,hz,hb,hcap2⟩:=Bv hE hv (cq hE hy);obtain⟨hu,hez,_⟩:=p9 hT;obtain⟨inf,hinf,hsz⟩:=fy (P:=P) (t:=el) (by omega)
 obtain⟨us,hheap,hus,h1s,hom,hcl,hcell⟩:=hE.objCells hl;have hfl:=sk h1;rw[hfl]at hro;have hvl:vs.length=xs.length:=hro.1;have hkn:kk≤n:=by omega
 have hkx:kk≤xs.length:=by omega
 have hcp:B6 (fun b=>E.om b∨B.F b) w ((xs.take kk).map .pv) (vs.take kk):=Fh (hro.take kk)
 obtain⟨E',_,hE'⟩:=s5 ((xs.take kk).map .pv) (off:=off) hE hl (by simp;omega) hcp
 rw[s6 _ ha hl (by simp;omega)]at hE'
 have hrun:(execOp a.eval o).run P w= .ok (.value (goInt kk)) (w.setCells (E.obj q) off (vs.take kk)):=by
  have hcopy:(Builtin.copy_ #[t,t'] o.type #[.slice (some ⟨E.obj q,off,none⟩) n cap,.slice sa xs.length scap]).run P w= .ok (goInt kk) (w.setCells (E.obj q) off (vs.take kk)):=by
   rcases Nat.eq_zero_or_pos kk with h0|h0
   ·subst h0;rw[List.take_zero];exact run_copy_none w t t' o.type el _ _ n cap xs.length scap hu (by rw[hinf];simp[hsz,hez]) (by show Min.min xs.length n=0;exact hk'.symm)
   ·obtain⟨ad,rfl,hs,hc0⟩:=hm 0 vs[0] (List.getElem?_eq_getElem (by omega))
    obtain⟨ab,ao,asp⟩:=ad;simp only at hs;subst hs;have hlen:(vs.take kk).length=kk:=by simp;omega
    have:=run_copy_cells (P:=P) w t t' o.type el (E.obj q) off n cap ⟨ab,ao,none⟩ xs.length scap (vs.take kk) hu (by rw[hinf];simp[hsz,hez]) (by rw[hlen];exact hk') (fun j v hj=>by
     rw[List.getElem?_take]at hj;split at hj
     ·obtain⟨ad',e',_,hc'⟩:=hm j v hj;cases e'
      rw[gd];exact hc'
     ·cases hj) (fun j hj=>by rw[hcl,Array.getElem?_eq_getElem (by omega)];rfl) (fun j hj=>by simp[World.frozen?,hheap]) hcp.oneCell
    rw[hlen]at this;exact this
  have hal:c.args.map a.eval= #[a.eval x,a.eval y]:=by rw[hca];simp
  simp[execOp,ho,resolve,hc,invoke,builtin,hal,hxe,e2,hct,hcopy]
 rw[hrun,Oper.uponIn_value,hd];exact hk B _ _ ⟨by rw[cz];exact hdf,_,hE'.putGood d ⟨rfl,by simp[SV.on],fun o ho=>by simp[SV.pts]at ho⟩ (.pv _ _ (.int _ _))⟩
end
end Go.Ck
namespace Go.Ck
abbrev df:=BitVec 32
def wP(x:df):PV:= .int .u32 (x.toNat:Int)
theorem avi(x:df):x.toNat<4294967296:=x.isLt
theorem yo(n:Nat):IntKind.u32.wrap (n:Int)=((n % 4294967296:Nat):Int):=by
 simp[IntKind.wrap,IntKind.bits,IntKind.signed]
theorem tq(x:df):BitVec.ofInt IntKind.u32.bits (x.toNat:Int)=x:=by
 apply BitVec.eq_of_toNat_eq
 simp[IntKind.bits]
theorem dh(x y:df):IntKind.u32.wrap ((x.toNat:Int)+(y.toNat:Int))=((x+y).toNat:Int):=by
 rw[show(x.toNat:Int)+(y.toNat:Int)=((x.toNat+y.toNat:Nat):Int)by simp,yo,BitVec.toNat_add]
theorem Cv(x:df):IntKind.u32.wrap (x.toNat:Int)=(x.toNat:Int):=by
 rw[yo,Nat.mod_eq_of_lt (avi x)]
theorem di(x y:df):ef .xor .u32 (x.toNat:Int) (y.toNat:Int)=((x^^^y).toNat:Int):=by
 simp only[ef,tq];exact Cv (x^^^y)
theorem kh(x y:df):ef .and .u32 (x.toNat:Int) (y.toNat:Int)=((x&&&y).toNat:Int):=by
 simp only[ef,tq];exact Cv (x&&&y)
theorem H0(x y:df):ef .or .u32 (x.toNat:Int) (y.toNat:Int)=((x|||y).toNat:Int):=by
 simp only[ef,tq];exact Cv (x|||y)
theorem anp(x:df):ef .xor .u32 4294967295 (x.toNat:Int)=((~~~x).toNat:Int):=by
 have h:BitVec.ofInt IntKind.u32.bits 4294967295=(BitVec.allOnes 32):=by apply BitVec.eq_of_toNat_eq;rfl
 simp only[ef,tq,h,BitVec.allOnes_xor];exact Cv (~~~x)
theorem Cg(x:df)(n:Nat)(h:n≤32):xw .u32 (x.toNat:Int) (n:Int)=((x<<<n).toNat:Int):=by
 have:min n IntKind.u32.bits=n:=by simp[IntKind.bits];omega
 simp only[xw,z00,this];rw[show(x.toNat:Int)*2^n=((x.toNat*2^n:Nat):Int)by simp,yo,BitVec.toNat_shiftLeft,Nat.shiftLeft_eq]
theorem vq(x:df)(n:Nat)(h:n≤32):mo .u32 (x.toNat:Int) (n:Int)=((x>>>n).toNat:Int):=by
 have:min n IntKind.u32.bits=n:=by simp[IntKind.bits];omega
 simp only[mo,z00,this];rw[BitVec.toNat_ushiftRight,Nat.shiftRight_eq_div_pow];rw[show(2:Int)^n=((2^n:Nat):Int)by simp,Int.fdiv_eq_ediv_of_nonneg _ (Int.natCast_nonneg _)]
 exact(Int.natCast_ediv _ _).symm
theorem Ir(x:df):xw .u32 (x.toNat:Int) 8=((x<<<8).toNat:Int):=Cg x 8 (by decide)
theorem Lv(x:df):xw .u32 (x.toNat:Int) 16=((x<<<16).toNat:Int):=Cg x 16 (by decide)
theorem Lu(x:df):xw .u32 (x.toNat:Int) 24=((x<<<24).toNat:Int):=Cg x 24 (by decide)
theorem uh(x:df):mo .u32 (x.toNat:Int) 3=((x>>>3).toNat:Int):=vq x 3 (by decide)
theorem Iq(x:df):mo .u32 (x.toNat:Int) 8=((x>>>8).toNat:Int):=vq x 8 (by decide)
theorem rd(x:df):mo .u32 (x.toNat:Int) 10=((x>>>10).toNat:Int):=vq x 10 (by decide)
theorem El(x:df):mo .u32 (x.toNat:Int) 16=((x>>>16).toNat:Int):=vq x 16 (by decide)
theorem Ek(x:df):mo .u32 (x.toNat:Int) 24=((x>>>24).toNat:Int):=vq x 24 (by decide)
theorem Cw(n:Nat)(h:n<256):IntKind.u32.wrap (n:Int)=(((BitVec.ofNat 32 n).toNat:Nat):Int):=by
 rw[yo,BitVec.toNat_ofNat]
theorem Oj(x:df):IntKind.u8.wrap (x.toNat:Int)=((x.toNat % 256:Nat):Int):=by
 simp[IntKind.wrap,IntKind.bits,IntKind.signed]
def n5(x:df)(n:Nat):df:=(x<<<(32-n))|||(x>>>n)
def wd4(l:List Nat):df:=l.foldl (fun w x=>(w<<<8)|||BitVec.ofNat 32 x) 0
def sg0(y:df):df:=n5 y 7^^^n5 y 18^^^y>>>3
def sg1(x:df):df:=n5 x 17^^^n5 x 19^^^x>>>10
def fg(ws:List df)(i:Nat):df:=ws.getD i 0
def Lm(ws:List df):df:=fg ws (ws.length-16)+sg0 (fg ws (ws.length-15))+fg ws (ws.length-7)+sg1 (fg ws (ws.length-2))
def jd(b:List Nat):Nat→List df
 |0=> []
 |n+1=>jd b n++[if n<16 then wd4 ((b.drop (4*n)).take 4)else Lm (jd b n)]
def uc(b:List Nat):List df:=jd b 64
structure S8 where
 (a b c d e f g h:df)
def S8.l(s:S8):List df:=[s.a,s.b,s.c,s.d,s.e,s.f,s.g,s.h]
def t1W(s:S8)(k w:df):df:=s.h+(n5 s.e 6^^^n5 s.e 11^^^n5 s.e 25)+((s.e&&&s.f)^^^ (~~~s.e&&&s.g))+k+w
def t2W(s:S8):df:=(n5 s.a 2^^^n5 s.a 13^^^n5 s.a 22)+((s.a&&&s.b)^^^ (s.a&&&s.c)^^^ (s.b&&&s.c))
def rnd(s:S8)(k w:df):S8:=⟨t1W s k w+t2W s,s.a,s.b,s.c,s.d+t1W s k w,s.e,s.f,s.g⟩
def ni:List df→List df→S8→S8
 |k::ks,w::ws,s=>ni ks ws (rnd s k w)
 |_,_,s=>s
def ak5(s r:S8):S8:=⟨s.a+r.a,s.b+r.b,s.c+r.c,s.d+r.d,s.e+r.e,s.f+r.f,s.g+r.g,s.h+r.h⟩
def aHe:List Nat:=[
 0x428a2f98,0x71374491,0xb5c0fbcf,0xe9b5dba5,0x3956c25b,0x59f111f1,0x923f82a4,0xab1c5ed5,
 0xd807aa98,0x12835b01,0x243185be,0x550c7dc3,0x72be5d74,0x80deb1fe,0x9bdc06a7,0xc19bf174,
 0xe49b69c1,0xefbe4786,0x0fc19dc6,0x240ca1cc,0x2de92c6f,0x4a7484aa,0x5cb0a9dc,0x76f988da,
 0x983e5152,0xa831c66d,0xb00327c8,0xbf597fc7,0xc6e00bf3,0xd5a79147,0x06ca6351,0x14292967,
 0x27b70a85,0x2e1b2138,0x4d2c6dfc,0x53380d13,0x650a7354,0x766a0abb,0x81c2c92e,0x92722c85,
 0xa2bfe8a1,0xa81a664b,0xc24b8b70,0xc76c51a3,0xd192e819,0xd6990624,0xf40e3585,0x106aa070,
 0x19a4c116,0x1e376c08,0x2748774c,0x34b0bcb5,0x391c0cb3,0x4ed8aa4a,0x5b9cca4f,0x682e6ff3,
 0x748f82ee,0x78a5636f,0x84c87814,0x8cc70208,0x90befffa,0xa4506ceb,0xbef9a3f7,0xc67178f2]
def B9:List df:=aHe.map (BitVec.ofNat 32)
def kj:S8:=⟨0x6a09e667#32,0xbb67ae85#32,0x3c6ef372#32,0xa54ff53a#32,0x510e527f#32,0x9b05688c#32,0x1f83d9ab#32,0x5be0cd19#32⟩
def thr(s:S8)(p:List Nat):S8:=ak5 s (ni B9 (uc p) s)
def fb(s:S8)(l:List Nat):S8:=if h:64≤l.length then fb (thr s (l.take 64)) (l.drop 64)else s
termination_by l.length
decreasing_by simp;omega
def Qx(x:df):List Nat:=[(x>>>24).toNat % 256,(x>>>16).toNat % 256,(x>>>8).toNat % 256,x.toNat % 256]
def by8(s:S8):List Nat:=s.l.flatMap Qx
def Yo(n:Nat):List Nat:=[n/2^56 % 256,n/2^48 % 256,n/2^40 % 256,n/2^32 % 256,n/2^24 % 256,n/2^16 % 256,n/2^8 % 256,n % 256]
def He(n:Nat):Nat:=(119-n % 64) % 64
def endP(n:Nat):List Nat:=128::List.replicate (He n) 0++Yo (n*8)
def Gi(m:List Nat):List Nat:=by8 (fb kj (m++endP m.length))
end Go.Ck
