/- What is proved here: parts of the proofs of this seat's statements (a verified evaluator for calls over pure values, its laws, and contracts of functions). No condition. -/
import Derived.Below
import Derived.Calls
import Derived.Deep.Draws
import Derived.Laws.Strings
import Derived.WalkKit
set_option linter.all false
open List renaming getElem?_append_right→z00,getElem?_append_left→z01,mem_of_mem_take→z02,getElem?_eq_some_iff→z05,getElem?_eq_getElem→z06,getElem?_map→z08,replicate→z10
open Nat renaming one_mul→z03,add_mul→z04,add_comm→z07,min_eq_left→z09
namespace Go.Ck
inductive PV where
 |int (k:IntKind) (n:Int)
 |bool (b:Bool)
 |str (s:List UInt8)
 |sl (z:Nat) (xs:List PV)
 |agg (cs:List PV)
 |iface (t:TypeId) (v:PV)
 |nili|nilp|nilf
 deriving Inhabited
def PV.cells:PV→List PV
 | .agg cs=>cs
 |v=> [v]
def PV.one:PV→Bool
 | .agg _=>false
 |_=>true
def da(xs:List PV):List PV:=xs.flatMap PV.cells
theorem ajf:da []=[]:=rfl
theorem jq(x:PV)(xs:List PV):da (x::xs)=x.cells++da xs:=by simp[da]
theorem po(xs ys:List PV):da (xs++ys)=da xs++da ys:=by simp[da]
inductive RO (A:Nat→Prop) (w:World):PV→Value→Prop where
 |int (k:IntKind) (n:Int):RO A w (.int k n) (.int k n)
 |bool (b:Bool):RO A w (.bool b) (.bool b)
 |str (s:List UInt8):RO A w (.str s) (.string ⟨s.toArray⟩)
 |sl (z:Nat) (xs:List PV) (vs:List Value) (a:Option Addr) (cap:Nat) (hl:vs.length=(da xs).length)
  (h1:∀c∈da xs,c.one=true)
  (hr:∀(i:Nat) (c:PV) (v:Value),(da xs)[i]?=some c→vs[i]?=some v→RO A w c v)
  (hm:∀(i:Nat) (v:Value),vs[i]?=some v→∃ad:Addr,a=some ad∧¬A ad.block∧w.cell? (ad.add i)=some v)
  (hz:∀x∈xs,x.cells.length=z) (hb:xs.length≤maxLen) (hcap:xs.length≤cap):RO A w (.sl z xs) (.slice a xs.length cap)
 |agg (cs:List PV) (vs:Array Value) (hl:vs.size=cs.length) (h1:∀c∈cs,c.one=true)
  (hr:∀(i:Nat) (c:PV) (v:Value),cs[i]?=some c→vs[i]?=some v→RO A w c v):RO A w (.agg cs) (.agg vs)
 |iface (t:TypeId) (v:PV) (x:Value) (h:RO A w v x):RO A w (.iface t v) (.iface t x)
 |nili:RO A w .nili .nilIface
 |nilp:RO A w .nilp (.pointer none)
 |nilf:RO A w .nilf .nilFunc
theorem Nr(a:Addr)(n:Nat):(a.add n).block=a.block:=by unfold Addr.add;split<;>rfl
theorem RO.mono{A A':Nat→Prop}{w w':World}(h:∀b,b<w.heap.size→¬A b→¬A' b∧w'.heap[b]?=w.heap[b]?){p:PV}{x:Value}(hr:RO A w p x):RO A' w' p x:=by
 induction hr with
 |int k n=>exact .int k n
 |bool b=>exact .bool b
 |str s=>exact .str s
 |sl z xs vs a cap hl h1 hr hm hz hb hcap ih=>
  refine .sl z xs vs a cap hl h1 ih (fun i v hv=> ?_) hz hb hcap
  obtain⟨ad,e,hA,hc⟩:=hm i v hv;have hlt:=World.block_lt_of_cell? w _ hc;rw[Nr]at hlt;obtain⟨h2,h3⟩:=h ad.block hlt hA;refine⟨ad,e,h2, ?_⟩;rw[←hc];exact World.cell?_of_block (by rw[Nr];exact h3)
 |agg cs vs hl h1 hr ih=>exact .agg cs vs hl h1 ih
 |iface t v x h ih=>exact .iface t v x ih
 |nili=>exact .nili
 |nilp=>exact .nilp
 |nilf=>exact .nilf
theorem RO.oneCell{A:Nat→Prop}{w:World}{p:PV}{x:Value}(hr:RO A w p x)(h1:p.one=true):x.oneCell'=true:=by
 cases hr<;>first|rfl|simp[PV.one]at h1
theorem RO.cells_of_one{A:Nat→Prop}{w:World}{p:PV}{x:Value}(hr:RO A w p x)(h1:p.one=true):x.cells= #[x]∧p.cells=[p]:=by
 cases hr<;>first|exact⟨rfl,rfl⟩|simp[PV.one]at h1
def iu(A:Nat→Prop)(w:World)(cs:List PV)(vs:List Value):Prop:=
 vs.length=cs.length∧(∀c∈cs,c.one=true)∧∀(i:Nat) (c:PV) (v:Value),cs[i]?=some c→vs[i]?=some v→RO A w c v
theorem iu.mono{A A':Nat→Prop}{w w':World}(h:∀b,b<w.heap.size→¬A b→¬A' b∧w'.heap[b]?=w.heap[b]?){cs:List PV}{vs:List Value}(hr:iu A w cs vs):iu A' w' cs vs:=
 ⟨hr.1,hr.2.1,fun i c v hc hv=>(hr.2.2 i c v hc hv).mono h⟩
theorem iu.nil(A:Nat→Prop)(w:World):iu A w [] []:=⟨rfl,by simp,by simp⟩
theorem iu.append{A:Nat→Prop}{w:World}{cs ds:List PV}{vs us:List Value}(h:iu A w cs vs)(k:iu A w ds us):iu A w (cs++ds) (vs++us):=by
 refine⟨by simp[h.1,k.1], ?_, ?_⟩
 ·intro c hc;rcases List.mem_append.1 hc with hc|hc
  ·exact h.2.1 c hc
  ·exact k.2.1 c hc
 ·intro i c v hc hv;by_cases hi:i<cs.length
  ·rw[z01 hi]at hc;rw[z01 (by rw[h.1];exact hi)]at hv
   exact h.2.2 i c v hc hv
  ·rw[z00 (by omega)]at hc
   rw[z00 (by rw[h.1];omega),h.1]at hv
   exact k.2.2 _ c v hc hv
theorem iu.drop{A:Nat→Prop}{w:World}{cs:List PV}{vs:List Value}(h:iu A w cs vs)(n:Nat):iu A w (cs.drop n) (vs.drop n):=by
 refine⟨by simp[h.1],fun c hc=>h.2.1 c (List.mem_of_mem_drop hc),fun i c v hc hv=> ?_⟩
 rw[List.getElem?_drop]at hc hv;exact h.2.2 _ c v hc hv
theorem iu.take{A:Nat→Prop}{w:World}{cs:List PV}{vs:List Value}(h:iu A w cs vs)(n:Nat):iu A w (cs.take n) (vs.take n):=by
 refine⟨by simp[h.1],fun c hc=>h.2.1 c (z02 hc),fun i c v hc hv=> ?_⟩
 rw[List.getElem?_take]at hc hv;split at hc
 ·rename_i hi;rw[if_pos hi]at hv;exact h.2.2 _ c v hc hv
 ·cases hc
theorem iu.at{A:Nat→Prop}{w:World}{cs:List PV}{vs:List Value}(h:iu A w cs vs){i:Nat}{c:PV}(hc:cs[i]?=some c):∃v,vs[i]?=some v∧RO A w c v:=by
 have hi:i<cs.length:=(z05.1 hc).1;have hi':i<vs.length:=by rw[h.1];exact hi
 exact⟨vs[i],z06 hi',h.2.2 i c _ hc (z06 hi')⟩
theorem iu.set{A:Nat→Prop}{w:World}{cs:List PV}{vs:List Value}(h:iu A w cs vs)(i:Nat){c:PV}{v:Value}(hr:RO A w c v)(h1:c.one=true):iu A w (cs.set i c) (vs.set i v):=by
 refine⟨by simp[h.1],fun d hd=> ?_,fun j d u hd hu=> ?_⟩
 ·rcases List.mem_or_eq_of_mem_set hd with hd|rfl
  ·exact h.2.1 d hd
  ·exact h1
 ·rw[List.getElem?_set]at hd hu;split at hd
  ·rename_i e;subst e;split at hd
   ·rename_i hi;rw[if_pos rfl,if_pos (by rw[h.1];exact hi)]at hu
    cases hd
    cases hu
    exact hr
   ·cases hd
  ·rename_i e;rw[if_neg e]at hu;exact h.2.2 j d u hd hu
theorem RO.cellsROs{A:Nat→Prop}{w:World}{p:PV}{x:Value}(hr:RO A w p x):iu A w p.cells x.cells.toList:=by
 cases hp:p.one with
 |true=>
  obtain⟨e1,e2⟩:=hr.cells_of_one hp;rw[e1,e2];refine⟨rfl,by simpa using hp,fun i c v hc hv=> ?_⟩
  cases i with
  |zero=>simp at hc hv;subst hc;subst hv;exact hr
  |succ i=>simp at hc
 |false=>
  cases hr<;>simp[PV.one]at hp
  rename_i cs vs hl h1 hr;exact⟨by simpa[PV.cells,Value.cells]using hl,by simpa[PV.cells]using h1,fun i c v hc hv=>hr i c v (by simpa[PV.cells]using hc) (by simpa[Value.cells]using hv)⟩
theorem RO.slParts{A:Nat→Prop}{w:World}{z:Nat}{xs:List PV}{x:Value}(h:RO A w (.sl z xs) x):∃vs a cap,x= .slice a xs.length cap∧iu A w (da xs) vs∧(∀(i:Nat) (v:Value),vs[i]?=some v→∃ad:Addr,a=some ad∧¬A ad.block∧w.cell? (ad.add i)=some v)∧(∀x∈xs,x.cells.length=z)∧xs.length≤maxLen∧xs.length≤cap:=by
 cases h with
 |sl _ _ vs a cap hl h1 hr hm hz hb hc=>exact⟨vs,a,cap,rfl,⟨hl,h1,hr⟩,hm,hz,hb,hc⟩
theorem mm{A:Nat→Prop}{w:World}{z:Nat}{xs:List PV}{vs:List Value}{a:Option Addr}{cap:Nat}(h:iu A w (da xs) vs)(hm:∀(i:Nat) (v:Value),vs[i]?=some v→∃ad:Addr,a=some ad∧¬A ad.block∧w.cell? (ad.add i)=some v)(hz:∀x∈xs,x.cells.length=z)(hb:xs.length≤maxLen)(hcap:xs.length≤cap):RO A w (.sl z xs) (.slice a xs.length cap):=
 .sl z xs vs a cap h.1 h.2.1 h.2.2 hm hz hb hcap
theorem i8{xs:List PV}{z:Nat}(h:∀x∈xs,x.cells.length=z):(da xs).length=xs.length*z:=by
 induction xs with
 |nil=>simp[da]
 |cons x xs ih=>
  rw[jq,List.length_append,h x (by simp),ih (fun y hy=>h y (by simp[hy])),List.length_cons,z04,z03,z07]
theorem u0{xs:List PV}{z:Nat}(h:∀x∈xs,x.cells.length=z)(n:Nat):da (xs.drop n)=(da xs).drop (n*z):=by
 induction n generalizing xs with
 |zero=>simp
 |succ n ih=>
  cases xs with
  |nil=>simp[da]
  |cons x xs=>
   have hx:=h x (by simp)
   have e:(n+1)*z=z+n*z:=by rw[z04,z03,z07]
   rw[List.drop_succ_cons,ih (fun y hy=>h y (by simp[hy])),jq,e,←List.drop_drop,←hx,List.drop_left]
theorem ol{xs:List PV}{z:Nat}(h:∀x∈xs,x.cells.length=z)(n:Nat):da (xs.take n)=(da xs).take (n*z):=by
 induction n generalizing xs with
 |zero=>simp[da]
 |succ n ih=>
  cases xs with
  |nil=>simp[da]
  |cons x xs=>
   have hx:=h x (by simp)
   have e:(n+1)*z=x.cells.length+n*z:=by rw[z04,z03,z07,hx]
   rw[List.take_succ_cons,jq,ih (fun y hy=>h y (by simp[hy])),jq,e,List.take_length_add_append]
theorem Ph{xs:List PV}{z i:Nat}(h:∀x∈xs,x.cells.length=z){x:PV}(hx:xs[i]?=some x)(j:Nat)(hj:j<z):(da xs)[i*z+j]?=x.cells[j]?:=by
 obtain⟨hi,he⟩:=z05.1 hx;have e:da xs=da (xs.take i)++(x.cells++da (xs.drop (i+1))):=by
  rw[←jq,←po,←he,←List.drop_eq_getElem_cons hi,List.take_append_drop]
 rw[e,z00 (by rw[i8 (fun y hy=>h y (z02 hy))];simp;rw[z09 (by omega)];omega),i8 (fun y hy=>h y (z02 hy)),List.length_take,z09 (by omega),Nat.add_sub_cancel_left,
  z01 (by rw[h x (by rw[←he];exact List.getElem_mem hi)];exact hj)]
theorem Ja{xs:List PV}{z i:Nat}(h:∀x∈xs,x.cells.length=z){x:PV}(hi:i<xs.length)(hx:x.cells.length=z):da (xs.set i x)=(da xs).take (i*z)++x.cells++(da xs).drop (i*z+z):=by
 rw[List.set_eq_take_append_cons_drop,if_pos hi,po,jq,ol h,u0 h,List.append_assoc,z04,z03]
inductive Place where
 |slot (d:Nat)
 |part (d i:Nat)
 |cell (o i:Nat)
 deriving DecidableEq
inductive SV where
 |pv (p:PV)
 |own (e:TypeId) (xs:List PV)
 |nils
 |al (p:Place)
 |vw (p:Place) (e off n:Nat)
 |ptr (o off:Nat)
 |ea (p:Place) (e i j:Nat)
 |ra (c:PV) (j:Nat)
 |fn (f:FuncId) (caps:List SV)
 |tup (vs:List SV)
 |agg (cs:List SV)
 |mp (o:Nat)
 |yl (l:Nat)
 |os (o off n:Nat)
 |bm (f:FuncId) (o:Nat)
 |lit (xs:List PV)
 |dead
 deriving Inhabited
inductive HO where
 |cells (e:TypeId) (cs:List SV)
 |mp (es:List (PV×PV))
structure St where
 n:Nat
 sl:List (Nat×SV)
 hp:List (Nat×HO)
def aj{α:Type}(d:Nat):List (Nat×α)→Option α
 |[]=>none
 |(k,v)::r=>if k=d then some v else aj d r
def St.at(s:St):Place→Option SV
 | .slot d=>aj d s.sl
 | .part d i=>(match aj d s.sl with|some (.tup vs)=>vs[i]?|_=>none)
 | .cell o i=>(match aj o s.hp with|some (.cells _ cs)=>cs[i]?|_=>none)
def SV.on(p:Place):SV→Bool
 | .al q=>decide (q=p)
 | .vw q _ _ _=>decide (q=p)
 | .ea q _ _ _=>decide (q=p)
 |_=>false
def SV.pts(o:Nat):SV→Bool
 | .ptr o' _=>o'==o
 | .mp o'=>o'==o
 | .os o' _ _=>o'==o
 | .bm _ o'=>o'==o
 | .fn _ caps=>caps.any fun| .ptr o' _=>o'==o|_=>false
 |_=>false
def dr:SV→Bool
 | .ptr _ _=>true
 | .pv _=>true
 |_=>false
def setSlot(d:Nat)(v:SV)(s:St):St:=⟨s.n,(d,v)::s.sl,s.hp⟩
def Fs(p:Place):List (Nat×SV)→List (Nat×SV)
 |[]=> []
 |(d,v)::r=>(d,if v.on p then .dead else v)::Fs p r
def kill(p:Place)(s:St):St:=⟨s.n,Fs p s.sl,s.hp⟩
def clear(d:Nat)(s:St):St:=match aj d s.sl with|some (.own _ _)=>kill (.slot d) s|_=>s
def put(d:Nat)(v:SV)(s:St):St:=if d<s.n then setSlot d (if v.on (.slot d)then .dead else v) (clear d s)else s
def setObj(o:Nat)(h:HO):List (Nat×HO)→List (Nat×HO)
 |[]=> []
 |(k,v)::r=>if k=o then(k,h)::r else(k,v)::setObj o h r
def cm(p:Place)(v:SV)(s:St):St:=match p with
 | .slot d=>setSlot d v s
 | .part d i=>(match aj d s.sl with|some (.tup vs)=>setSlot d (.tup (vs.set i v)) s|_=>s)
 | .cell o i=>(match aj o s.hp with|some (.cells e cs)=>⟨s.n,s.sl,setObj o (.cells e (cs.set i v)) s.hp⟩|_=>s)
def xy(p:Place)(s:St):St:=cm p .dead (kill p s)
def ofConst:Value→Option SV
 | .int k n=>some (.pv (.int k n))
 | .bool b=>some (.pv (.bool b))
 | .string s=>some (.pv (.str s.data.toList))
 | .slice none 0 0=>some .nils
 | .pointer none=>some (.pv .nilp)
 | .nilFunc=>some (.pv .nilf)
 | .nilIface=>some (.pv .nili)
 |_=>none
def ev(s:St):Operand→Option SV
 | .tmp t=>match aj t s.sl with
  |some (.own _ _)=>some (.al (.slot t))
  |some .dead=>none
  |some (.tup _)=>none
  |r=>r
 | .const v=>ofConst v
 | .func f=>some (.fn f [])
 | .global _=>none
def cont(s:St):SV→Option (List PV)
 | .pv (.sl _ xs)=>some xs
 | .nils=>some []
 | .al p=>(match s.at p with|some (.own _ xs)=>some xs|_=>none)
 | .vw p e off n=>(match s.at p with|some (.own e' xs)=>if e'=e then some ((xs.drop off).take n)else none|_=>none)
 |_=>none
inductive TK where
 |int (k:IntKind)|bool|str
 |sl (e ez eb:Nat) (ea:Bool)
 |arr (n e ez:Nat) (ea:Bool)
 |st (fs:List (Nat×Nat×Bool))
 |ptr (e:TypeId)
 |map (k e:TypeId)
 |fn|iface|other
def gc(P:Program)(t:TypeId):Bool:=match P.underlying t with|some (.struct _)=>true|some (.array _ _)=>true|_=>false
def gq(P:Program)(t:TypeId):Option (Nat×Bool):=match P.underlying t,P.info? t with
 |some (.struct _),some i=>some (i.size,true)
 |some (.array _ _),some i=>some (i.size,true)
 |some _,some i=>some (i.size,false)
 |_,_=>none
def tk(P:Program)(t:TypeId):TK:=match P.underlying t with
 |some (.int k)=> .int k
 |some .bool=> .bool
 |some .string=> .str
 |some (.slice e)=> .sl e (P.cellsOf e) (P.bytesOf e) (gc P e)
 |some (.array n e)=> .arr n e (P.cellsOf e) (gc P e)
 |some (.struct fs)=> .st (fs.toList.map fun f=>match gq P f.type with|some (z,ag)=>(f.offset,z,ag)|none=>(f.offset,0,false))
 |some (.pointer e)=> .ptr e
 |some (.map k e)=> .map k e
 |some (.func _ _ _)=> .fn
 |some (.interface _)=> .iface
 |_=> .other
def Da:List Value→Option (List SV)
 |[]=>some []
 |v::r=>(match ofConst v,Da r with|some x,some xs=>some (x::xs)|_,_=>none)
def io(P:Program)(t:TypeId):Option (List SV):=match P.info? t with
 |some i=>(match i.zero with|some v=>if v.cells.size=i.size then Da v.cells.toList else none|none=>none)
 |none=>none
def ef(op:BinOp)(k:IntKind)(x y:Int):Int:=
 let a:=BitVec.ofInt k.bits x
 let b:=BitVec.ofInt k.bits y
 match op with
 | .and=>k.wrap (a&&&b).toNat
 | .or=>k.wrap (a|||b).toNat
 | .xor=>k.wrap (a^^^b).toNat
 | .andNot=>k.wrap (a&&& ~~~b).toNat
 |_=>0
def xw(k:IntKind)(x y:Int):Int:=k.wrap (x*2^ (min y.toNat k.bits))
def mo(k:IntKind)(x y:Int):Int:=x.fdiv (2^ (min y.toNat k.bits))
def Q0(op:BinOp)(x y:PV):Option PV:=match x,y with
 | .int k a,.int k' b=>match op with
  | .shl=>if b<0 then none else some (.int k (xw k a b))
  | .shr=>if b<0 then none else some (.int k (mo k a b))
  | .add=>if k=k' then some (.int k (k.wrap (a+b)))else none
  | .sub=>if k=k' then some (.int k (k.wrap (a-b)))else none
  | .mul=>if k=k' then some (.int k (k.wrap (a*b)))else none
  | .quo=>if k=k' then if b=0 then none else some (.int k (k.wrap (a.tdiv b)))else none
  | .rem=>if k=k' then if b=0 then none else some (.int k (a.tmod b))else none
  | .and=>if k=k' then some (.int k (ef .and k a b))else none
  | .or=>if k=k' then some (.int k (ef .or k a b))else none
  | .xor=>if k=k' then some (.int k (ef .xor k a b))else none
  | .andNot=>if k=k' then some (.int k (ef .andNot k a b))else none
  | .eql=>if k=k' then some (.bool (a==b))else none
  | .neq=>if k=k' then some (.bool (a !=b))else none
  | .lss=>if k=k' then some (.bool (decide (a<b)))else none
  | .leq=>if k=k' then some (.bool (decide (a≤b)))else none
  | .gtr=>if k=k' then some (.bool (decide (a>b)))else none
  | .geq=>if k=k' then some (.bool (decide (a≥b)))else none
 | .str a,.str b=>match op with
  | .eql=>some (.bool (a==b))
  | .neq=>some (.bool (!(a==b)))
  | .lss=>some (.bool (Op.bytesLess a b))
  | .gtr=>some (.bool (!(Op.bytesLess a b||a==b)))
  | .leq=>some (.bool (Op.bytesLess a b||a==b))
  | .geq=>some (.bool (!(Op.bytesLess a b)))
  |_=>none
 | .bool a,.bool b=>match op with
  | .eql=>some (.bool (a==b))
  | .neq=>some (.bool (!(a==b)))
  |_=>none
 |_,_=>none
def Ym:Option PV→Option SV
 |some p=>some (.pv p)
 |none=>none
def TK.isBool:TK→Bool
 | .bool=>true
 |_=>false
def TK.isPtr:TK→Bool
 | .ptr _=>true
 |_=>false
def Vg(c:Bool):BinOp→Option SV
 | .eql=>some (.pv (.bool c))
 | .neq=>some (.pv (.bool (!c)))
 |_=>none
def Lq(T:TK)(op:BinOp)(x y:SV):Option SV:=match x,y with
 | .pv (.int k a),.pv (.int k' b)=>Ym (Q0 op (.int k a) (.int k' b))
 | .pv (.str a),.pv (.str b)=>Ym (Q0 op (.str a) (.str b))
 | .pv (.bool a),.pv (.bool b)=>if T.isBool then Ym (Q0 op (.bool a) (.bool b))else none
 | .pv .nilp,.pv .nilp=>if T.isPtr then Vg true op else none
 | .ptr _ _,.pv .nilp=>if T.isPtr then Vg false op else none
 |_,_=>none
def aun(op:UnOp)(x:PV):Option PV:=match op,x with
 | .neg,.int k n=>some (.int k (k.wrap (0-n)))
 | .xor,.int k n=>some (.int k (ef .xor k (if k.signed then-1 else k.max) n))
 | .not,.bool b=>some (.bool (!b))
 |_,_=>none
def r9:List PV→Option (List Int)
 |[]=>some []
 | .int .u8 n::r=>(match r9 r with|some l=>some (n::l)|none=>none)
 |_=>none
def Ic(l:List Int):List UInt8:=l.map fun n=>UInt8.ofNat n.toNat
def akw:Option (List Int)→Option SV
 |some l=>some (.pv (.str (Ic l)))
 |none=>none
def bstrO:Option (List PV)→Option SV
 |some xs=>akw (r9 xs)
 |none=>none
def convT(s:St)(x:SV)(A B:TK)(C:TypeId→TK):Option SV:=match A,B with
 | .int _,.int k=>(match x with| .pv (.int _ n)=>some (.pv (.int k (k.wrap n)))|_=>none)
 | .str,.str=>(match x with| .pv (.str l)=>some (.pv (.str l))|_=>none)
 | .sl e _ _ _,.str=>(match C e with
  | .int .u8=>bstrO (cont s x)
  |_=>none)
 |_,_=>none
def Y3(P:Program)(s:St)(src dst:TypeId)(x:SV):Option SV:=convT s x (tk P src) (tk P dst) (tk P)
def Vb(c:PV)(j:Nat):Option (Nat×Bool)→Option PV
 |some (z,true)=>if j+z≤c.cells.length then some (.agg ((c.cells.drop j).take z))else none
 |some (1,false)=>c.cells[j]?
 |_=>none
def Ax:List SV→Option (List PV)
 |[]=>some []
 | .pv p::r=>(match Ax r with|some ps=>some (p::ps)|none=>none)
 |_::_=>none
def afg:Option (List PV)→Option SV
 |some ps=>some (.pv (.agg ps))
 |none=>none
def Q5(o off:Nat):Option SV→Option SV
 |some (.own _ _)=>some (.al (.cell o off))
 |some .dead=>none
 |some (.tup _)=>none
 |r=>r
def Yy(j:Nat)(T:Option (Nat×Bool)):Option PV→Option SV
 |some c=>Ym (Vb c j T)
 |none=>none
def afe(e i j:Nat)(T:Option (Nat×Bool)):Option SV→Option SV
 |some (.own e' xs)=>if e'=e then Yy j T xs[i]? else none
 |_=>none
def aff(o off:Nat)(T:Option (Nat×Bool)):Option HO→Option SV
 |some (.cells _ cs)=>(match T with
  |some (z,true)=>if off+z≤cs.length then afg (Ax ((cs.drop off).take z))else none
  |some (1,false)=>Q5 o off cs[off]?
  |_=>none)
 |_=>none
def aload(T:Option (Nat×Bool))(s:St):SV→Option SV
 | .ra c j=>Ym (Vb c j T)
 | .ea p e i j=>afe e i j T (s.at p)
 | .ptr o off=>aff o off T (aj o s.hp)
 |_=>none
def raO:Option PV→Option SV
 |some c=>some (.ra c 0)
 |none=>none
def eaO(p:Place)(e k:Nat):Option SV→Option SV
 |some (.own e' xs)=>if e'=e∧k<xs.length then some (.ea p e k 0)else none
 |_=>none
def indexT(s:St)(k:Int)(x:SV):TK→Option SV
 | .sl e ez _ _=>if ez=0 then none else(match x with
  | .pv (.sl z xs)=>if z=ez then raO xs[k.toNat]? else none
  | .al p=>eaO p e k.toNat (s.at p)
  | .vw p e' off n=>if e'=e∧k.toNat<n then some (.ea p e (off+k.toNat) 0)else none
  | .os o off n=>if k.toNat<n then some (.ptr o (off+k.toNat*ez))else none
  |_=>none)
 | .arr n _ ez _=>if ez=0 then none else(match x with
  | .ptr o off=>if k<n then some (.ptr o (off+k.toNat*ez))else none
  |_=>none)
 |_=>none
def aindexAddr(P:Program)(s:St)(t:TypeId)(x:SV):SV→Option SV
 | .pv (.int _ k)=>if k<0 then none else indexT s k x (tk P t)
 |_=>none
def kr(P:Program)(t:TypeId)(x:SV)(f:Nat):Option SV:=match tk P t with
 | .st fs=>match fs[f]? with
  |some (fo,fz,_)=>if fz=0 then none else match x with
   | .ptr o off=>some (.ptr o (off+fo))
   | .ea p e i j=>some (.ea p e i (j+fo))
   | .ra c j=>some (.ra c (j+fo))
   |_=>none
  |none=>none
 |_=>none
def In(P:Program)(t:TypeId)(x:SV)(f:Nat):Option SV:=match tk P t with
 | .st fs=>match fs[f]? with
  |some (fo,fz,fa)=>match x with
   | .pv (.agg cs)=>if fz=0 then none else Ym (Vb (.agg cs) fo (some (fz,fa)))
   |_=>none
  |none=>none
 |_=>none
def alen(s:St):SV→Option Int
 | .pv (.str l)=>some l.length
 | .mp o=>(match aj o s.hp with|some (.mp es)=>some es.length|_=>none)
 |v=>(match cont s v with|some xs=>some xs.length|none=>none)
def oc:Option SV→Option (Option Int)
 |none=>some none
 |some (.pv (.int _ n))=>some (some n)
 |_=>none
def H6(l n:Nat)(x:SV):TK→Option SV
 | .sl e ez _ _=>(match x with
  | .pv (.sl z xs)=>if z=ez∧ez≠0 then some (.pv (.sl z ((xs.drop l).take n)))else none
  | .al p=>if ez=0 then none else some (.vw p e l n)
  | .vw p e' off m=>if e'=e∧ez≠0 then some (.vw p e (off+l) n)else none
  | .nils=>if ez=0 then none else some .nils
  |_=>none)
 | .str=>(match x with
  | .pv (.str xs)=>some (.pv (.str ((xs.drop l).take n)))
  |_=>none)
 |_=>none
def Ob(T:TK)(x:SV)(l h n:Int):Option SV:=if 0≤l∧l≤h∧h≤n then H6 l.toNat (h-l).toNat x T else none
def sliceN(T:TK)(x:SV)(lo hi:Option (Option Int)):Option Int→Option SV
 |some n=>(match lo,hi with
  |some lo,some hi=>Ob T x (lo.getD 0) (hi.getD n) n
  |_,_=>none)
 |none=>none
def Im(P:Program)(s:St)(t:TypeId)(x:SV)(lo hi:Option SV):Option SV:=sliceN (tk P t) x (oc lo) (oc hi) (alen s x)
def evs(s:St):List Operand→Option (List SV)
 |[]=>some []
 |x::r=>(match ev s x,evs s r with|some v,some vs=>some (v::vs)|_,_=>none)
def evo(s:St):Option Operand→Option (Option SV)
 |none=>some none
 |some x=>(match ev s x with|some v=>some (some v)|none=>none)
def At(a b:PV):Option Bool:=match a,b with
 | .int k x,.int k' y=>if k=k' then some (x==y)else none
 | .str x,.str y=>some (x==y)
 |_,_=>none
def As(k:PV):List (PV×PV)→Option (Option PV)
 |[]=>some none
 |(a,v)::r=>(match At k a with|some true=>some (some v)|some false=>As k r|none=>none)
def ak0:List SV→Option SV
 |[.pv (.int k a),.pv (.int k' b)]=>if k=k' then some (.pv (.int k (if b<a then b else a)))else none
 |_=>none
def ak1:List SV→Option SV
 |[.pv (.int k a),.pv (.int k' b)]=>if k=k' then some (.pv (.int k (if b>a then b else a)))else none
 |_=>none
def intO:Option Int→Option SV
 |some n=>some (.pv (.int .i64 n))
 |none=>none
def lenT(s:St)(v:SV):TK→Option SV
 | .str=>(match v with| .pv (.str l)=>some (.pv (.int .i64 l.length))|_=>none)
 | .sl _ _ _ _=>(match v with| .mp _=>none| .pv (.str _)=>none|v=>intO (alen s v))
 | .map _ _=>(match v with| .mp o=>intO (alen s (.mp o))|_=>none)
 |_=>none
def aval(P:Program)(s:St)(ty:TypeId):Op→Option SV
 | .move x=>ev s x
 | .assign x=>ev s x
 | .pick c a b=>(match ev s c with
  |some (.pv (.bool true))=>(match ev s a with|some (.pv p)=>some (.pv p)|_=>none)
  |some (.pv (.bool false))=>(match ev s b with|some (.pv p)=>some (.pv p)|_=>none)
  |_=>none)
 | .unOp op _ x=>(match ev s x with|some (.pv p)=>(match aun op p with|some r=>some (.pv r)|none=>none)|_=>none)
 | .binOp op t x y _=>(match ev s x,ev s y with|some a,some b=>Lq (tk P t) op a b|_,_=>none)
 | .convert a b x=>(match ev s x with|some v=>Y3 P s a b v|none=>none)
 | .nilCheck x=>(match ev s x with|some (.ptr o off)=>some (.ptr o off)|some (.ea p e i j)=>some (.ea p e i j)|some (.ra c j)=>some (.ra c j)|_=>none)
 | .load t x=>(match ev s x with|some v=>aload (gq P t) s v|none=>none)
 | .fieldAddr t x f=>(match ev s x with|some v=>kr P t v f|none=>none)
 | .field t x f=>(match ev s x with|some v=>In P t v f|none=>none)
 | .indexAddr t x i=>(match ev s x,ev s i with|some v,some k=>aindexAddr P s t v k|_,_=>none)
 | .slice t x lo hi none=>(match ev s x,evo s lo,evo s hi with|some v,some l,some h=>Im P s t v l h|_,_,_=>none)
 | .extract x i=>(match x with
  | .tmp t=>(match s.at (.part t i)with|some (.pv p)=>some (.pv p)|_=>none)
  |_=>none)
 | .makeInterface t x=>(match ev s x,tk P t with|some (.pv p),.st _=>some (.pv (.iface t p))|_,_=>none)
 | .call c=>(match c.callee with
  | .builtin .len=>(match evs s c.args.toList,c.argTypes.toList with|some [v],[t]=>lenT s v (tk P t)|_,_=>none)
  | .builtin .min=>(match evs s c.args.toList with|some vs=>ak0 vs|none=>none)
  | .builtin .max=>(match evs s c.args.toList with|some vs=>ak1 vs|none=>none)
  |_=>none)
 |_=>none
def G7(P:Program)(s:St)(p:Place):Option SV→Option (PV×St)
 |some (.own e xs)=>some (.sl (P.cellsOf e) xs,cm p (.pv (.sl (P.cellsOf e) xs)) (xy p s))
 |_=>none
def thaw:List SV→Option (List PV)
 |[]=>some []
 | .pv p::r=>if p.one then(match thaw r with|some ps=>some (p::ps)|none=>none)else none
 | .nils::r=>(match thaw r with|some ps=>some (.sl 1 []::ps)|none=>none)
 |_::_=>none
def Pf(s:St):Option (List PV)→Option (PV×St)
 |some ps=>some (.agg ps,s)
 |none=>none
def freeze(P:Program)(s:St):SV→Option (PV×St)
 | .pv p=>some (p,s)
 | .nils=>some (.sl 1 [],s)
 | .agg cs=>Pf s (thaw cs)
 | .al p=>G7 P s p (s.at p)
 |_=>none
def si(p q:Place)(e:TypeId)(xs:List PV)(s:St):St:=
 let s:=cm q (.own e xs) (kill q (xy p s))
 match p with
 | .slot d=>setSlot d (.al q) s
 |_=>s
def setCells(cs new:List SV)(off:Nat):List SV:=cs.take off++new++cs.drop (off+new.length)
def su:SV→Option (List SV)
 | .pv (.agg ps)=>some (ps.map .pv)
 | .agg cs=>some cs
 |_=>none
def ic:List SV→Bool
 |[]=>true
 | .pv p::r=>p.one&&ic r
 | .nils::r=>ic r
 |_::_=>false
def Cm(c:PV)(j:Nat)(p:PV):PV:=match c with
 | .agg cs=> .agg (cs.set j p)
 |_=>p
def zu(s:St)(o off:Nat):SV→Option St
 | .al p=>(match s.at p with
  |some (.own e' xs)=>if p= .cell o off then none else some (si p (.cell o off) e' xs (xy (.cell o off) s))
  |_=>none)
 | .pv p=>if p.one then some (cm (.cell o off) (.pv p) (kill (.cell o off) s))else none
 | .nils=>some (cm (.cell o off) .nils (kill (.cell o off) s))
 | .ptr o' off'=>some (cm (.cell o off) (.ptr o' off') (kill (.cell o off) s))
 | .fn f caps=>some (cm (.cell o off) (.fn f caps) (kill (.cell o off) s))
 |_=>none
def putCells(o:Nat):Nat→List SV→St→St
 |_,[],s=>s
 |off,c::r,s=>putCells o (off+1) r (cm (.cell o off) c (kill (.cell o off) s))
def C3(s:St)(o off z:Nat)(cs:List SV):Option (List SV)→Option St
 |some new=>if new.length=z∧off+z≤cs.length∧ic new=true then some (putCells o off new s)else none
 |none=>none
def N8(s:St)(o off:Nat)(T:Option (Nat×Bool))(v:SV):Option HO→Option St
 |some (.cells e cs)=>(match T with
  |some (z,true)=>C3 s o off z cs (su v)
  |some (1,false)=>if off<cs.length then zu s o off v else none
  |_=>none)
 |_=>none
def Eq(s:St)(p:Place)(e:TypeId)(xs:List PV)(i j:Nat)(T:Option (Nat×Bool))(w:PV):Option PV→Option St
 |some c=>(match T with
  |some (n,true)=>if j=0∧w.cells.length=n∧c.cells.length=n∧w.one=false∧0<n then some (cm p (.own e (xs.set i w)) s)else none
  |some (1,false)=>if j<c.cells.length∧w.one=true then some (cm p (.own e (xs.set i (Cm c j w))) s)else none
  |_=>none)
 |none=>none
def N9(s:St)(p:Place)(e i j:Nat)(T:Option (Nat×Bool))(v:SV):Option SV→Option St
 |some (.own e' xs)=>if e'=e then(match v with| .pv w=>Eq s p e xs i j T w xs[i]?|_=>none)else none
 |_=>none
def Il(T:Option (Nat×Bool))(s:St)(x v:SV):Option St:=match x with
 | .ptr o off=>N8 s o off T v (aj o s.hp)
 | .ea p e i j=>N9 s p e i j T v (s.at p)
 |_=>none
def newObj(d:Nat)(h:HO)(s:St):Option St:=match aj d s.hp with
 |none=>some (put d (.ptr d 0) ⟨s.n,s.sl,(d,h)::s.hp⟩)
 |some _=>none
def uw(P:Program)(s:St)(v:SV):Option (List SV×St):=match v with
 | .agg cs=>some (cs,s)
 | .nils=>some ([.nils],s)
 |v=>match freeze P s v with|some (p,s')=>some (p.cells.map .pv,s')|none=>none
def kc(P:Program)(fs:List (Nat×Nat×Bool)):List (Nat×Operand)→List SV→St→Option (List SV×St)
 |[],cs,s=>some (cs,s)
 |(i,x)::r,cs,s=>match fs[i]?,ev s x with
  |some (fo,fz,_),some v=>match uw P s v with
   |some (new,s')=>if new.length=fz∧fo+fz≤cs.length then kc P fs r (setCells cs new fo) s' else none
   |none=>none
  |_,_=>none
def Y2(ez:Nat)(n:Nat):List (Nat×Nat×Bool):=(List.range n).map fun i=>(i*ez,ez,false)
theorem Nq(ez n i:Nat):(Y2 ez n)[i]?=if i<n then some (i*ez,ez,false)else none:=by
 unfold Y2;by_cases h:i<n
 ·rw[z08,List.getElem?_range h,if_pos h];rfl
 ·rw[z08,List.getElem?_eq_none (by simpa using h),if_neg h];rfl
def Ce(cs:List SV):SV:=match Ax cs with|some ps=> .pv (.agg ps)|none=> .agg cs
def aky(v:Value):Option PV:=match ofConst v with
 |some (.pv p)=>some p
 |some .nils=>some (.sl 1 [])
 |_=>none
def Yq:List Value→Option (List PV)
 |[]=>some []
 |v::r=>(match aky v,Yq r with|some x,some xs=>some (x::xs)|_,_=>none)
def aC8:Option (List PV)→Option PV
 |some ps=>some (.agg ps)
 |none=>none
def ax(P:Program)(e:TypeId):Option PV:=match P.info? e with
 |some i=>(match i.zero with
  |some (.agg vs)=>if vs.size=i.size then aC8 (Yq vs.toList)else none
  |some v=>if i.size=1 then aky v else none
  |none=>none)
 |none=>none
def m7(P:Program)(z:Nat):List (Nat×Operand)→List PV→St→Option (List PV×St)
 |[],xs,s=>some (xs,s)
 |(i,x)::r,xs,s=>match ev s x with
  |some v=>match freeze P s v with
   |some (p,s')=>if p.cells.length=z∧i<xs.length then m7 P z r (xs.set i p) s' else none
   |none=>none
  |none=>none
def c5(l:List UInt8):List PV:=l.map fun b=> .int .u8 b.toNat
def Ii(P:Program)(ez:Nat):Option SV→Option (List PV)
 |some (.own e xs)=>if P.cellsOf e=ez then some xs else none
 |_=>none
def G8(P:Program)(s:St)(ez:Nat):SV→Option (List PV)
 | .pv (.str l)=>if ez=1 then some (c5 l)else none
 | .pv (.sl z xs)=>if z=ez then some xs else none
 | .nils=>some []
 | .al p=>Ii P ez (s.at p)
 | .vw p e off n=>if P.cellsOf e=ez then(match Ii P ez (s.at p)with|some xs=>some ((xs.drop off).take n)|none=>none)else none
 |_=>none
def aw:Nat:=140737488355328
def Pu(s:St)(d:Nat)(e eb:Nat)(p:Place)(ys:List PV):Option SV→Option St
 |some (.own e' xs)=>if e'=e∧(xs.length+ys.length)*eb≤aw∧xs.length+ys.length≤aw then some (put d (.own e (xs++ys)) (xy p s))else none
 |_=>none
def Pt(s:St)(d:Nat)(e eb:Nat)(x:SV):Option (List PV)→Option St
 |some ys=>(match x with
  | .nils=>if ys.length*eb≤aw∧ys.length≤aw then some (put d (.own e ys) s)else none
  | .al p=>Pu s d e eb p ys (s.at p)
  |_=>none)
 |none=>none
def i9(P:Program)(e:TypeId):Bool:=match P.info? e with
 |some i=>(match i.zero with|some z=>z.cells.size==i.size|none=>false)
 |none=>false
def TK.isSrc:TK→Bool
 | .sl _ _ _ _=>true
 | .str=>true
 |_=>false
def Ha(P:Program)(s:St)(d:Nat)(x y:SV):TK→Option St
 | .sl e ez eb _=>if ez≠0∧i9 P e=true then Pt s d e eb x (G8 P s ez y)else none
 |_=>none
def N4(P:Program)(s:St)(d:Nat)(ty:TypeId):Op→Option St
 | .move x=>(match x with
  | .tmp t=>(match aj t s.sl with|some (.tup vs)=>if t≠d∧d<s.n then some (setSlot d (.tup vs) (setSlot t .dead (clear d s)))else none|_=>none)
  |_=>none)
 | .assign x=>(match ev s x with
  |some .nils=>(match tk P ty with| .sl e _ _ _=>some (put d (.own e []) s)|_=>none)
  |some (.al (.slot t))=>(match x with
   | .tmp t'=>if t'=t∧t≠d∧d<s.n then(match aj t s.sl with|some (.own e xs)=>some (si (.slot t) (.slot d) e xs (put d .dead s))|_=>none)else none
   |_=>none)
  |_=>none)
 | .extract x i=>(match x with
  | .tmp t=>(match s.at (.part t i)with|some (.own e xs)=>if t=d then none else some (put d (.own e xs) (xy (.part t i) s))|_=>none)
  |_=>none)
 | .alloc t=>(match io P t with|some cs=>newObj d (.cells t cs) s|none=>none)
 | .box t x=>(match ev s x with
  |some (.al p)=>(match s.at p with
   |some (.own e xs)=>if p= .slot d then none else(match newObj d (.cells t [.dead]) s with|some s'=>some (si p (.cell d 0) e xs s')|none=>none)
   |_=>none)
  |some (.pv p)=>newObj d (.cells t (p.cells.map .pv)) s
  |some (.agg cs)=>newObj d (.cells t cs) s
  |some .nils=>newObj d (.cells t [.nils]) s
  |some (.ptr o off)=>newObj d (.cells t [.ptr o off]) s
  |some (.fn f caps)=>newObj d (.cells t [.fn f caps]) s
  |_=>none)
 | .build t ps=>(match tk P t,io P t with
  | .st fs,some z=>if fs.all (fun f=>f.2.1 !=0)then(match kc P fs ps.toList z s with|some (cs,s')=>some (put d (Ce cs) s')|none=>none)else none
  | .arr n e ez _,some z=>if ez≠0 then(match kc P (Y2 ez n) ps.toList z s with|some (cs,s')=>some (put d (Ce cs) s')|none=>none)else none
  |_,_=>none)
 | .buildSlice t n ps=>(match tk P t with
  | .sl e ez eb _=>(match ax P e with
   |some z=>if n*ez≤16777216∧0<ez∧n≤maxLen then(match m7 P ez ps.toList (z10 n z) s with|some (xs,s')=>some (put d (.own e xs) s')|none=>none)else none
   |none=>none)
  |_=>none)
 | .makeSlice t l c=>(match ev s l,ev s c,tk P t with
  |some (.pv (.int .i64 n)),some (.pv (.int .i64 m)),.sl e ez eb _=>(match ax P e with
   |some z=>if 0<ez∧0≤n∧n≤m∧eb*m≤aw∧m≤aw then some (put d (.own e (z10 n.toNat z)) s)else none
   |none=>none)
  |_,_,_=>none)
 | .makeFunc f first caps=>(match f,first.toList,evs s caps.toList with
  | .func g,[],some vs=>if vs.all dr then some (put d (.fn g vs) s)else none
  |_,_,_=>none)
 | .makeMap t none=>(match aj d s.hp with|none=>some (put d (.mp d) ⟨s.n,s.sl,(d,.mp [])::s.hp⟩)|some _=>none)
 | .call c=>(match c.callee with
  | .builtin .append=>(match evs s c.args.toList,c.argTypes.toList with
   |some [x,y],[t,tx]=>if(tk P tx).isSrc then Ha P s d x y (tk P t)else none
   |_,_=>none)
  |_=>none)
 |_=>none
def reads:Op→Bool
 | .move (.tmp _)| .assign _| .alloc _| .box _ _| .build _ _| .buildSlice _ _ _| .makeSlice _ _ _| .makeFunc _ _ _| .makeMap _ _=>false
 | .extract _ _=>false
 | .call c=>(match c.callee with| .builtin .append=>false|_=>true)
 |_=>true
def yi(P:Program)(s:St)(d:Nat)(ty:TypeId)(op:Op):Option St→Option St
 |some s'=>some s'
 |none=>(match aval P s ty op with|some v=>some (put d v s)|none=>none)
def Nz(d:Nat)(s:St):Option SV→Option St
 |some v=>some (put d v s)
 |none=>none
def du(P:Program)(o:Oper)(s:St):Option St:=match o.dst with
 |some d=>if reads o.op then Nz d s (aval P s o.type o.op)else yi P s d o.type o.op (N4 P s d o.type o.op)
 |none=>match o.op with
  | .store t x v=>(match ev s x,ev s v with|some a,some b=>Il (gq P t) s a b|_,_=>none)
  |_=>none
open Go.RowKit
structure Env where
 obj:Nat→Nat
 hdr:Place→Value
 om:Nat→Prop
def VW(P:Program)(h:Value)(e off n:Nat)(x:Value):Prop:=
 (∃a len cap,h= .slice a len cap∧off+n≤len)∧∃a cap,x= .slice a n cap∧n≤cap∧(0<n→∃b,h.ownBlock=some b∧a=some ⟨b,off*P.cellsOf e,none⟩)
inductive RS (P:Program) (A:Nat→Prop) (E:Env) (w:World):SV→Value→Prop where
 |pv (p:PV) (x:Value) (h:RO A w p x):RS P A E w (.pv p) x
 |nils:RS P A E w .nils (.slice none 0 0)
 |al (p:Place):RS P A E w (.al p) (E.hdr p)
 |vw (p:Place) (e off n:Nat) (x:Value) (h:VW P (E.hdr p) e off n x):RS P A E w (.vw p e off n) x
 |ptr (o off:Nat):RS P A E w (.ptr o off) (.pointer (some ⟨E.obj o,off,none⟩))
 |ea (p:Place) (e i j b:Nat) (h:(E.hdr p).ownBlock=some b):RS P A E w (.ea p e i j) (.pointer (some ⟨b,i*P.cellsOf e+j,none⟩))
 |ra (c:PV) (j:Nat) (vs:List Value) (ad:Addr) (hs:ad.spot=none) (h:iu A w c.cells vs)
  (hm:∀(i:Nat) (v:Value),vs[i]?=some v→¬A ad.block∧w.cell? ⟨ad.block,ad.off+i,none⟩=some v):RS P A E w (.ra c j) (.pointer (some ⟨ad.block,ad.off+j,none⟩))
 |fn (f:FuncId) (caps:List SV) (vs:List Value) (hl:vs.length=caps.length) (h1:caps.all dr=true)
  (h:∀(i:Nat) (c:SV) (v:Value),caps[i]?=some c→vs[i]?=some v→RS P A E w c v):RS P A E w (.fn f caps) (.func (.func f) #[] vs.toArray)
 |agg (cs:List SV) (vs:List Value) (hl:vs.length=cs.length) (h1:ic cs=true)
  (h:∀(i:Nat) (c:SV) (v:Value),cs[i]?=some c→vs[i]?=some v→RS P A E w c v):RS P A E w (.agg cs) (.agg vs.toArray)
 |mp (o:Nat):RS P A E w (.mp o) (.map (some (E.obj o)))
 |yl (l:Nat):RS P A E w (.yl l) (.func (.yield l) #[] #[])
 |bm (f:FuncId) (o:Nat):RS P A E w (.bm f o) (.func (.func f) #[.pointer (some ⟨E.obj o,0,none⟩)] #[])
 |os (o off n cap:Nat) (hc:n≤cap):RS P A E w (.os o off n) (.slice (some ⟨E.obj o,off,none⟩) n cap)
 |lit (xs:List PV) (g:Nat) (cur:Array Value) (e:TypeId) (fr:Nat×Nat) (hA:¬A g) (hg:w.heap[g]?=some (.cells cur e fr)) (hro:iu A w xs cur.toList):RS P A E w (.lit xs) (.slice (some ⟨g,0,none⟩) xs.length xs.length)
def ki(P:Program)(A:Nat→Prop)(w:World)(e:TypeId)(h:Value)(xs:List PV):Prop:=
 ∃cs,w.ownsRow 0 e (P.cellsOf e) h xs.length cs∧iu A w (da xs) cs∧(∀x∈xs,x.cells.length=P.cellsOf e)∧xs.length≤maxLen
def CV(E:Env)(tmps:Array Value)(w:World):Place→Value→Prop
 | .slot d,x=>tmps[d]?=some x
 | .part d i,x=> ∃vs:Array Value,tmps[d]?=some (.tuple vs)∧vs[i]?=some x
 | .cell o i,x=>w.cell? ⟨E.obj o,i,none⟩=some x
def ip(P:Program)(A:Nat→Prop)(E:Env)(w:World)(p:Place)(v:SV)(x:Value):Prop:=match v with
 | .own e xs=>x=E.hdr p∧ki P A w e (E.hdr p) xs∧∀b,(E.hdr p).ownBlock=some b→E.om b
 | .dead=>True
 | .tup vs=> ∃us:Array Value,x= .tuple us∧us.size=vs.length
 |v=>RS P A E w v x
structure Grow (M:Nat→Prop) (w w':World):Prop where
 os:w'.os=w.os
 tape:w'.tape=w.tape
 output:w'.output=w.output
 size:w.heap.size≤w'.heap.size
 block:∀b,b<w.heap.size→¬M b→w'.heap[b]?=w.heap[b]?
theorem nc(M:Nat→Prop)(w:World):Grow M w w:=⟨rfl,rfl,rfl,Nat.le_refl _,fun _ _ _=>rfl⟩
theorem Grow.trans{M:Nat→Prop}{w w1 w2:World}{M1:Nat→Prop}(h:Grow M w w1)(k:Grow M1 w1 w2)(hm:∀b,M1 b→M b∨w.heap.size≤b):Grow M w w2:=
 ⟨k.os.trans h.os,k.tape.trans h.tape,k.output.trans h.output,Nat.le_trans h.size k.size,fun b hb hM=>
  (k.block b (Nat.lt_of_lt_of_le hb h.size) (fun hM1=>(hm b hM1).elim hM (fun h=>by omega))).trans (h.block b hb hM)⟩
def ue:SV→Bool
 | .pv p=>p.one
 | .agg _=>false
 | .tup _=>false
 |_=>true
def HOK(P:Program)(A:Nat→Prop)(E:Env)(w:World)(o:Nat):HO→Prop
 | .cells e cs=> ∃vs:Array Value,w.heap[E.obj o]?=some (.cells vs e (0,0))∧cs.length≤vs.size∧∀c∈cs,ue c=true
 | .mp es=> ∃(ms:Array MapEntry) (clock:Nat),w.heap[E.obj o]?=some (.map ms clock)∧ms.size=es.length∧
  ∀(i:Nat) (kv:PV×PV) (m:MapEntry),es[i]?=some kv→ms[i]?=some m→RO A w kv.1 m.key∧RO A w kv.2 m.val
structure Base where
 blk:Nat→Prop
 ob:Nat→Option Nat
structure Rel (P:Program) (O0:Base) (w0:World) (F:Nat→Prop) (s:St) (E:Env) (tmps:Array Value) (w:World):Prop where
 place:∀p v,s.at p=some v→∃x,CV E tmps w p x∧ip P (fun b=>E.om b∨F b) E w p v x
 obj:∀o h,aj o s.hp=some h→E.om (E.obj o)∧HOK P (fun b=>E.om b∨F b) E w o h
 size:s.n=tmps.size
 i1:∀o o' h h',aj o s.hp=some h→aj o' s.hp=some h'→E.obj o=E.obj o'→o=o'
 i2:∀p q e xs e' ys b,s.at p=some (.own e xs)→s.at q=some (.own e' ys)→(E.hdr p).ownBlock=some b→(E.hdr q).ownBlock=some b→p=q
 i3:∀p e xs o h b,s.at p=some (.own e xs)→aj o s.hp=some h→(E.hdr p).ownBlock=some b→E.obj o≠b
 om_lt:∀b,E.om b→b<w.heap.size∧¬F b
 om0:∀b,E.om b→O0.blk b∨w0.heap.size≤b
 na:∀p v q,s.at p=some v→v.on q=true→(∃d,p= .slot d)∧(∃e xs,s.at q=some (.own e xs))∧∀d i,q≠ .part d i
 np:∀p v o,s.at p=some v→v.pts o=true→∃h,aj o s.hp=some h
 gr:Grow O0.blk w0 w
 flt:∀b,F b→b<w0.heap.size
 ob:∀o b,O0.ob o=some b→E.obj o=b∧∃y,aj o s.hp=some y
section
variable {P : Program} {O0 : Base} {F : Nat → Prop} {w0 w : World} {s : St} {E : Env} {tmps : Array Value}
theorem Rel.ev_tmp(h:Rel P O0 w0 F s E tmps w){t:Nat}{v:SV}(hv:ev s (.tmp t)=some v):RS P (fun b=>E.om b∨F b) E w v (tmps.getD t undef):=by
 unfold ev at hv;simp only at hv;cases hl:aj t s.sl with
 |none=>rw[hl]at hv;simp at hv
 |some u=>
  rw[hl]at hv;obtain⟨x,hc,hp⟩:=h.place (.slot t) u hl;simp only[CV]at hc;have hx:tmps.getD t undef=x:=by simp[Array.getD_eq_getD_getElem?,hc]
  rw[hx];cases u<;>simp at hv<;>subst hv<;>simp only[ip]at hp
  all_goals first
   |exact hp
   |(obtain⟨rfl,_⟩:=hp;exact .al _)
theorem RS.ofConst{A:Nat→Prop}{c:Value}{v:SV}(hv:ofConst c=some v):RS P A E w v c:=by
 unfold Ck.ofConst at hv;split at hv<;>simp at hv<;>subst hv
 ·exact .pv _ _ (.int _ _)
 ·exact .pv _ _ (.bool _)
 ·rename_i l;have:(⟨l.data.toList.toArray⟩:ByteArray)=l:=by simp
  exact .pv _ _ (by rw[←this];simpa using RO.str (A:=A) (w:=w) l.data.toList)
 ·exact .nils
 ·exact .pv _ _ .nilp
 ·exact .pv _ _ .nilf
 ·exact .pv _ _ .nili
end
end Go.Ck
namespace Go.Ck
open Go.RowKit
section
variable {P : Program} {w : World} {A : Nat → Prop} {E : Env}
theorem K4(w:World)(t:TypeId)(a b:Bool)(ht:P.underlying t=some .bool):(Op.equal t (.bool a) (.bool b)).run P w= .ok (a==b) w:=by
 show(Op.equalIn (9999+1) t (.bool a) (.bool b)).run P w=_
 rw[Op.equalIn];simp[run_underlying ht]
theorem Ov{op:BinOp}{p q r:PV}{x y:Value}{t:TypeId}{u v:Operand}(hp:RO A w p x)(hq:RO A w q y)(hb:(∃k a k' b,p= .int k a∧q= .int k' b)∨(∃a b,p= .str a∧q= .str b)∨(∃a b,p= .bool a∧q= .bool b)∧P.underlying t=some .bool)(h:Q0 op p q=some r):
  ∃z,(do eqGuard op t u v x y;binOp op t x y:Sem Value).run P w= .ok z w∧RO A w r z:=by
 rcases hb with⟨k,a,k',b,rfl,rfl⟩|⟨a,b,rfl,rfl⟩|⟨⟨a,b,rfl,rfl⟩,ht⟩
 ·cases hp;cases hq
  unfold Q0 at h;cases op<;>simp only at h
  all_goals
   split at h
   all_goals first
    |(exfalso;simp at h;done)
    |skip
  all_goals
   try(split at h<;>first|(exfalso;simp at h;done)|skip)
  all_goals
   simp at h;subst h
   try subst k'
   simp[eqGuard,binOp,Op.intArith,Op.intDiv,Op.intBits,Op.intCmp,Op.shift,ef,xw,mo, *]
   first|exact .int _ _|exact .bool _
 ·cases hp;cases hq
  unfold Q0 at h;cases op<;>simp at h
  all_goals
   subst h;simp[eqGuard,binOp,Op.stringOp];exact .bool _
 ·cases hp;cases hq
  have he:=K4 (P:=P) w t a b ht;unfold Q0 at h;cases op<;>simp only at h
  all_goals first
   |(exfalso;simp at h;done)
   |(simp only[Option.some.injEq]at h;subst h;simp only[eqGuard,binOp];simp[Sem.run];refine⟨_, ?_,.bool _⟩;simp[he,Result.andThen])
end
end Go.Ck
