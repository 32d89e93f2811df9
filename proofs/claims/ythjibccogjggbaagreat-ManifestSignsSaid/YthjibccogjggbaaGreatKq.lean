/- What is proved here: parts of the proofs of this seat's statements (a verified evaluator for calls over pure values, its laws, and contracts of functions). No condition. -/
import Derived.Test.YthjibccogjggbaaGreatKp
import Derived.Laws.IdiomCopy
import Derived.Test.YthjibccogjggbaaGreatKm
set_option linter.all false
set_option linter.unusedVariables false
namespace Go.Ck
open Go.RowKit
/-- Nothing hangs on object o's cells. -/
def apartL (o : Nat) : List (Nat × SV) → Bool
  | [] => true
  | (_, v) :: r => !(v.onO o) && apartL o r
theorem onO_on {o i : Nat} {v : SV} (h : v.onO o = false) : v.on (.cell o i) = false := by
  cases v with
  | al p => cases p <;> simp_all [SV.onO, SV.on]
  | vw p e f n => cases p <;> simp_all [SV.onO, SV.on]
  | ea p e f n => cases p <;> simp_all [SV.onO, SV.on]
  | _ => rfl
theorem kill_apart {o i : Nat} : ∀ {l : List (Nat × SV)}, apartL o l = true → killL (.cell o i) l = l
  | [], _ => rfl
  | (d, v) :: r, h => by
    simp only [apartL, Bool.and_eq_true, Bool.not_eq_true'] at h
    simp only [killL, kill_apart h.2, onO_on h.1, Bool.false_eq_true, if_false]
theorem setObj_setObj (o : Nat) (h h' : HO) : ∀ l : List (Nat × HO), setObj o h (setObj o h' l) = setObj o h l
  | [] => rfl
  | (k, v) :: r => by
    by_cases hk : k = o
    · simp [setObj, hk]
    · simp [setObj, hk, setObj_setObj o h h' r]
theorem setObj_same {o : Nat} {h : HO} : ∀ {l : List (Nat × HO)}, look o l = some h → setObj o h l = l
  | [], _ => rfl
  | (k, v) :: r, e => by
    unfold look at e
    unfold setObj
    split
    · rename_i hk; rw [if_pos hk] at e; cases e; rfl
    · rename_i hk; rw [if_neg hk] at e; rw [setObj_same e]
theorem setCells_nil (cs : List SV) (off : Nat) : setCells cs [] off = cs := by simp [setCells]
theorem setCells_cons (cs : List SV) (c : SV) (r : List SV) (off : Nat) (h : off < cs.length) : setCells (cs.set off c) r (off + 1) = setCells cs (c :: r) off := by
  unfold setCells
  rw [List.take_set, List.drop_set]
  simp only [List.length_cons]
  rw [if_pos (by omega), show off + 1 + r.length = off + (r.length + 1) by omega]
  rw [List.take_succ_eq_append_getElem h, List.set_append_right _ _ (by simp; omega)]
  simp [Nat.min_eq_left (Nat.le_of_lt h)]
theorem cellAt_apart {s : St} {o off : Nat} {e : TypeId} {cs : List SV} {v : SV} (ha : apartL o s.sl = true) (hl : look o s.hp = some (.cells e cs)) : setAt (.cell o off) v (kill (.cell o off) s) = ⟨s.n, s.sl, setObj o (.cells e (cs.set off v)) s.hp⟩ := by
  simp only [setAt, kill, hl, kill_apart ha]
theorem putCells_apart : ∀ (new : List SV) {off : Nat} {s : St} {o : Nat} {e : TypeId} {cs : List SV}, apartL o s.sl = true → look o s.hp = some (.cells e cs) → off + new.length ≤ cs.length → putCells o off new s = ⟨s.n, s.sl, setObj o (.cells e (setCells cs new off)) s.hp⟩
  | [], off, s, o, e, cs, ha, hl, hle => by rw [setCells_nil, setObj_same hl]; rfl
  | c :: r, off, s, o, e, cs, ha, hl, hle => by
    have hl' : look o (setObj o (.cells e (cs.set off c)) s.hp) = some (.cells e (cs.set off c)) := by rw [look_setObj]; simp [hl]
    simp only [putCells, cellAt_apart ha hl]
    rw [putCells_apart r (s := ⟨s.n, s.sl, setObj o (.cells e (cs.set off c)) s.hp⟩) ha hl' (by simp at hle ⊢; omega), setObj_setObj, setCells_cons _ _ _ _ (by simp at hle; omega)]

theorem allPV_map (l : List PV) : allPV (l.map SV.pv) = some l := by
  induction l with
  | nil => rfl
  | cons p r ih => simp [allPV, ih]
theorem allPlain_map {l : List PV} (h : l.all PV.one = true) : allPlain (l.map SV.pv) = true := by
  induction l with
  | nil => rfl
  | cons p r ih =>
    simp only [List.all_cons, Bool.and_eq_true] at h
    simp [allPlain, h.1, ih h.2]

section
variable {P : Program} {R : Option Nat} {Φ : Exit → Cx → St → Prop} {k : List It} {C : Cx} {s : St}
/-- Cells are read. -/
theorem AW.loadP {all : Array Oper} {o : Oper} {r : List Oper} {d t : Nat} {x : Operand} {q off : Nat} {e : TypeId} {cs : List SV} {ps : List PV} (hx : ev s x = some (.ptr q off)) (hl : look q s.hp = some (.cells e cs)) (hc : (cs.drop off).take ps.length = ps.map .pv)
    (hk : AW P R Φ .normal (.ops all r :: k) C (put d (.pv (.agg ps)) s)) (hT : tsh P t = some (ps.length, true)) (hle : off + ps.length ≤ cs.length) (hg : o.guard = none := by rfl) (hd : o.dst = some d := by rfl) (ho : o.op = .load t x := by rfl) : AW P R Φ .normal (.ops all (o :: r) :: k) C s :=
  AW.step hg (by simp only [astep, hd, ho, reads, if_true, aval, hx, aload, hl, objO, hT, hle, hc, allPV_map, aggO, putO]) hk
/-- Cells are written. -/
theorem AW.storeP {all : Array Oper} {o : Oper} {r : List Oper} {t : Nat} {x y : Operand} {q off : Nat} {e : TypeId} {cs : List SV} {ps : List PV} (hx : ev s x = some (.ptr q off)) (hl : look q s.hp = some (.cells e cs)) (hy : ev s y = some (.pv (.agg ps))) (hle : off + ps.length ≤ cs.length)
    (hk : AW P R Φ .normal (.ops all r :: k) C ⟨s.n, s.sl, setObj q (.cells e (setCells cs (ps.map .pv) off)) s.hp⟩) (hT : tsh P t = some (ps.length, true)) (h1 : ps.all PV.one = true) (ha : apartL q s.sl = true := by rfl) (hg : o.guard = none := by rfl) (hd : o.dst = none := by rfl) (ho : o.op = .store t x y := by rfl) : AW P R Φ .normal (.ops all (o :: r) :: k) C s :=
  AW.step hg (by
    have hle' : off + (ps.map SV.pv).length ≤ cs.length := by simpa using hle
    simp only [astep, hd, ho, hx, hy, astore, hl, storeO, hT, plainCells, storeAgg, List.length_map, hle, allPlain_map h1, and_self, if_true, putCells_apart _ ha hl hle']) hk

/-- A part of an array in an object. -/
theorem AW.sliceO {all : Array Oper} {o : Oper} {r : List Oper} {d t : Nat} {x : Operand} {lo hi : Option Operand} {vl vh : Option SV} {q off l h m e : Nat} {ea : Bool} {m1 m2 : Option Int} (hx : ev s x = some (.ptr q off)) (hlo : evo s lo = some vl) (hhi : evo s hi = some vh) (h1 : optInt vl = some m1) (h2 : optInt vh = some m2) (el : m1.getD 0 = (l : Int)) (eh : m2.getD (m : Int) = (h : Int)) (hlh : l ≤ h) (hhm : h ≤ m) (hlm : l < m) (ho' : ∃ y, look q s.hp = some y)
    (hk : AW P R Φ .normal (.ops all r :: k) C (put d (.os q (off + l) (h - l)) s)) (hT : tk P t = .arr m e 1 ea := by simp only [go_sem]) (hg : o.guard = none := by rfl) (hd : o.dst = some d := by rfl) (ho : o.op = .slice t x lo hi none := by rfl) : AW P R Φ .normal (.ops all (o :: r) :: k) C s := by
  refine AW.opSV hg hd (fun c hc => by rw [ho] at hc; cases hc) ⟨rfl, by simp [SV.on], fun o hpt => ?_⟩ (fun B E a w _ hE => ?_) hk
  · have : q = o := by simpa [SV.pts] using hpt
    subst this; exact ho'
  · have hp := ev_rs hE hx
    generalize hxe : a.eval x = v1 at hp
    cases hp
    obtain ⟨hu, hez⟩ := tk_arr hT
    obtain ⟨inf, hinf, hsz⟩ := info_of_cells (P := P) (t := e) (by omega)
    have hl' := optInt_sound h1 (evo_sound hE hlo)
    have hh' := optInt_sound h2 (evo_sound hE hhi)
    have hb := run_sliceBounds (P := P) (w := w) false m m m1 m2 (lo.map a.eval) (hi.map a.eval) hl' hh' (by rw [el, eh]; omega) (Nat.le_refl _)
    rw [el, eh] at hb
    refine ⟨.slice (some ⟨E.obj q, off + l, none⟩) (h - l) (m - l), ?_, .os _ _ _ _ (by omega)⟩
    have hne : ¬ (m = l) := by omega
    simp [execOp, ho, hxe, Instr.sliceAt, run_underlying hu, Instr.sureAddr, hb, run_sizeOf w hinf, hez, hne, add_mk]

/-- copy(p, xs): into a part of an array in an object. -/
theorem AW.copyO {all : Array Oper} {o : Oper} {r : List Oper} {d t t' el : Nat} {c : Call} {x y : Operand} {q off n kk : Nat} {e : TypeId} {cs : List SV} {v : SV} {xs : List PV} {ez eb : Nat} {ea : Bool} (hx : ev s x = some (.os q off n)) (hl : look q s.hp = some (.cells e cs)) (hle : off + n ≤ cs.length) (hy : ev s y = some v) (hv : cont s v = some xs) (h1 : xs.all PV.one = true) (hk' : kk = min xs.length n)
    (hk : AW P R Φ .normal (.ops all r :: k) C (put d (.pv (.int .i64 kk)) ⟨s.n, s.sl, setObj q (.cells e (setCells cs ((xs.take kk).map .pv) off)) s.hp⟩)) (hT : tk P t = .sl el 1 eb ea := by simp only [go_sem]) (ha : apartL q s.sl = true := by rfl) (hg : o.guard = none := by rfl) (hd : o.dst = some d := by rfl) (ho : o.op = .call c := by rfl) (hc : c.callee = .builtin .copy := by rfl) (hca : c.args = #[x, y] := by rfl) (hct : c.argTypes = #[t, t'] := by rfl) : AW P R Φ .normal (.ops all (o :: r) :: k) C s := fun B a w hA => by
  simp only [den]
  refine wpListIn_want (by simp [Region.wanted, hg]) (fun c hc => by rw [ho] at hc; cases hc) ?_
  obtain ⟨hdf, E, hE⟩ := hA
  have e1 := ev_rs hE hx
  generalize hxe : a.eval x = v1 at e1
  cases e1 with | os _ _ _ cap hcap => ?_
  obtain ⟨sa, scap, vs, e2, hro, hm, hz, hb, hcap2⟩ := cont_sound hE hv (ev_rs hE hy)
  obtain ⟨hu, hez, _⟩ := tk_sl hT
  obtain ⟨inf, hinf, hsz⟩ := info_of_cells (P := P) (t := el) (by omega)
  obtain ⟨us, hheap, hus, h1s, hom, hcl, hcell⟩ := hE.objCells hl
  have hfl := flat_one h1
  rw [hfl] at hro
  have hvl : vs.length = xs.length := hro.1
  have hkn : kk ≤ n := by omega
  have hkx : kk ≤ xs.length := by omega
  have hcp : CPs (fun b => E.om b ∨ B.F b) w ((xs.take kk).map .pv) (vs.take kk) := CPs.ofROs (hro.take kk)
  obtain ⟨E', _, hE'⟩ := putCells_sound ((xs.take kk).map .pv) (off := off) hE hl (by simp; omega) hcp
  rw [putCells_apart _ ha hl (by simp; omega)] at hE'
  have hrun : (execOp a.eval o).run P w = .ok (.value (goInt kk)) (w.setCells (E.obj q) off (vs.take kk)) := by
    have hcopy : (Builtin.copy_ #[t, t'] o.type #[.slice (some ⟨E.obj q, off, none⟩) n cap, .slice sa xs.length scap]).run P w = .ok (goInt kk) (w.setCells (E.obj q) off (vs.take kk)) := by
      rcases Nat.eq_zero_or_pos kk with h0 | h0
      · subst h0
        rw [List.take_zero]
        exact run_copy_none w t t' o.type el _ _ n cap xs.length scap hu (by rw [hinf]; simp [hsz, hez]) (by show Min.min xs.length n = 0; exact hk'.symm)
      · obtain ⟨ad, rfl, hs, hc0⟩ := hm 0 vs[0] (List.getElem?_eq_getElem (by omega))
        obtain ⟨ab, ao, asp⟩ := ad
        simp only at hs
        subst hs
        have hlen : (vs.take kk).length = kk := by simp; omega
        have := run_copy_cells (P := P) w t t' o.type el (E.obj q) off n cap ⟨ab, ao, none⟩ xs.length scap (vs.take kk) hu (by rw [hinf]; simp [hsz, hez]) (by rw [hlen]; exact hk') (fun j v hj => by
            rw [List.getElem?_take] at hj
            split at hj
            · obtain ⟨ad', e', _, hc'⟩ := hm j v hj
              cases e'
              rw [add_mk]; exact hc'
            · cases hj) (fun j hj => by rw [hcl, Array.getElem?_eq_getElem (by omega)]; rfl) (fun j hj => by simp [World.frozen?, hheap]) hcp.oneCell
        rw [hlen] at this
        exact this
    have hal : c.args.map a.eval = #[a.eval x, a.eval y] := by rw [hca]; simp
    simp [execOp, ho, resolve, hc, invoke, builtin, hal, hxe, e2, hct, hcopy]
  rw [hrun, Oper.uponIn_value, hd]
  exact hk B _ _ ⟨by rw [put_defers]; exact hdf, _, hE'.putGood d ⟨rfl, by simp [SV.on], fun o ho => by simp [SV.pts] at ho⟩ (.pv _ _ (.int _ _))⟩
end
end Go.Ck

set_option linter.unusedVariables false
namespace Go.Ck
abbrev W32 := BitVec 32
/-- A word's value. -/
def wP (x : W32) : PV := .int .u32 (x.toNat : Int)
theorem w32_lt (x : W32) : x.toNat < 4294967296 := x.isLt
theorem wrap_u32 (n : Nat) : IntKind.u32.wrap (n : Int) = ((n % 4294967296 : Nat) : Int) := by
  simp [IntKind.wrap, IntKind.bits, IntKind.signed]
theorem ofInt_toNat (x : W32) : BitVec.ofInt IntKind.u32.bits (x.toNat : Int) = x := by
  apply BitVec.eq_of_toNat_eq
  simp [IntKind.bits]
  
theorem w32_add (x y : W32) : IntKind.u32.wrap ((x.toNat : Int) + (y.toNat : Int)) = ((x + y).toNat : Int) := by
  rw [show (x.toNat : Int) + (y.toNat : Int) = ((x.toNat + y.toNat : Nat) : Int) by simp, wrap_u32, BitVec.toNat_add]
theorem w32_wrap (x : W32) : IntKind.u32.wrap (x.toNat : Int) = (x.toNat : Int) := by
  rw [wrap_u32, Nat.mod_eq_of_lt (w32_lt x)]
theorem w32_xor (x y : W32) : ibits .xor .u32 (x.toNat : Int) (y.toNat : Int) = ((x ^^^ y).toNat : Int) := by
  simp only [ibits, ofInt_toNat]
  exact w32_wrap (x ^^^ y)
theorem w32_and (x y : W32) : ibits .and .u32 (x.toNat : Int) (y.toNat : Int) = ((x &&& y).toNat : Int) := by
  simp only [ibits, ofInt_toNat]
  exact w32_wrap (x &&& y)
theorem w32_or (x y : W32) : ibits .or .u32 (x.toNat : Int) (y.toNat : Int) = ((x ||| y).toNat : Int) := by
  simp only [ibits, ofInt_toNat]
  exact w32_wrap (x ||| y)
theorem w32_not (x : W32) : ibits .xor .u32 4294967295 (x.toNat : Int) = ((~~~x).toNat : Int) := by
  have h : BitVec.ofInt IntKind.u32.bits 4294967295 = (BitVec.allOnes 32) := by apply BitVec.eq_of_toNat_eq; rfl
  simp only [ibits, ofInt_toNat, h, BitVec.allOnes_xor]
  exact w32_wrap (~~~x)
theorem w32_shl (x : W32) (n : Nat) (h : n ≤ 32) : shlI .u32 (x.toNat : Int) (n : Int) = ((x <<< n).toNat : Int) := by
  have : min n IntKind.u32.bits = n := by simp [IntKind.bits]; omega
  simp only [shlI, Int.toNat_natCast, this]
  rw [show (x.toNat : Int) * 2 ^ n = ((x.toNat * 2 ^ n : Nat) : Int) by simp, wrap_u32, BitVec.toNat_shiftLeft, Nat.shiftLeft_eq]
theorem w32_shr (x : W32) (n : Nat) (h : n ≤ 32) : shrI .u32 (x.toNat : Int) (n : Int) = ((x >>> n).toNat : Int) := by
  have : min n IntKind.u32.bits = n := by simp [IntKind.bits]; omega
  simp only [shrI, Int.toNat_natCast, this]
  rw [BitVec.toNat_ushiftRight, Nat.shiftRight_eq_div_pow]
  rw [show (2 : Int) ^ n = ((2 ^ n : Nat) : Int) by simp, Int.fdiv_eq_ediv_of_nonneg _ (Int.natCast_nonneg _)]
  exact (Int.natCast_ediv _ _).symm
theorem w32_shl8 (x : W32) : shlI .u32 (x.toNat : Int) 8 = ((x <<< 8).toNat : Int) := w32_shl x 8 (by decide)
theorem w32_shl16 (x : W32) : shlI .u32 (x.toNat : Int) 16 = ((x <<< 16).toNat : Int) := w32_shl x 16 (by decide)
theorem w32_shl24 (x : W32) : shlI .u32 (x.toNat : Int) 24 = ((x <<< 24).toNat : Int) := w32_shl x 24 (by decide)
theorem w32_shr3 (x : W32) : shrI .u32 (x.toNat : Int) 3 = ((x >>> 3).toNat : Int) := w32_shr x 3 (by decide)
theorem w32_shr8 (x : W32) : shrI .u32 (x.toNat : Int) 8 = ((x >>> 8).toNat : Int) := w32_shr x 8 (by decide)
theorem w32_shr10 (x : W32) : shrI .u32 (x.toNat : Int) 10 = ((x >>> 10).toNat : Int) := w32_shr x 10 (by decide)
theorem w32_shr16 (x : W32) : shrI .u32 (x.toNat : Int) 16 = ((x >>> 16).toNat : Int) := w32_shr x 16 (by decide)
theorem w32_shr24 (x : W32) : shrI .u32 (x.toNat : Int) 24 = ((x >>> 24).toNat : Int) := w32_shr x 24 (by decide)
theorem w32_low (x : W32) : IntKind.u8.wrap (x.toNat : Int) = ((x.toNat % 256 : Nat) : Int) := by
  simp [IntKind.wrap, IntKind.bits, IntKind.signed]

def rotW (x : W32) (n : Nat) : W32 := (x <<< (32 - n)) ||| (x >>> n)
def wd4 (l : List Nat) : W32 := l.foldl (fun w x => (w <<< 8) ||| BitVec.ofNat 32 x) 0
def sg0 (y : W32) : W32 := rotW y 7 ^^^ rotW y 18 ^^^ y >>> 3
def sg1 (x : W32) : W32 := rotW x 17 ^^^ rotW x 19 ^^^ x >>> 10
def wAt (ws : List W32) (i : Nat) : W32 := ws.getD i 0
def nextW (ws : List W32) : W32 := wAt ws (ws.length - 16) + sg0 (wAt ws (ws.length - 15)) + wAt ws (ws.length - 7) + sg1 (wAt ws (ws.length - 2))
/-- The first n words of a block's schedule. -/
def spW (b : List Nat) : Nat → List W32
  | 0 => []
  | n + 1 => spW b n ++ [if n < 16 then wd4 ((b.drop (4 * n)).take 4) else nextW (spW b n)]
def sched (b : List Nat) : List W32 := spW b 64
structure S8 where
  (a b c d e f g h : W32)
def S8.l (s : S8) : List W32 := [s.a, s.b, s.c, s.d, s.e, s.f, s.g, s.h]
def t1W (s : S8) (k w : W32) : W32 := s.h + (rotW s.e 6 ^^^ rotW s.e 11 ^^^ rotW s.e 25) + ((s.e &&& s.f) ^^^ (~~~s.e &&& s.g)) + k + w
def t2W (s : S8) : W32 := (rotW s.a 2 ^^^ rotW s.a 13 ^^^ rotW s.a 22) + ((s.a &&& s.b) ^^^ (s.a &&& s.c) ^^^ (s.b &&& s.c))
def rnd (s : S8) (k w : W32) : S8 := ⟨t1W s k w + t2W s, s.a, s.b, s.c, s.d + t1W s k w, s.e, s.f, s.g⟩
def rnds : List W32 → List W32 → S8 → S8
  | k :: ks, w :: ws, s => rnds ks ws (rnd s k w)
  | _, _, s => s
def add8 (s r : S8) : S8 := ⟨s.a + r.a, s.b + r.b, s.c + r.c, s.d + r.d, s.e + r.e, s.f + r.f, s.g + r.g, s.h + r.h⟩
def ktabN : List Nat := [
  0x428a2f98, 0x71374491, 0xb5c0fbcf, 0xe9b5dba5, 0x3956c25b, 0x59f111f1, 0x923f82a4, 0xab1c5ed5,
  0xd807aa98, 0x12835b01, 0x243185be, 0x550c7dc3, 0x72be5d74, 0x80deb1fe, 0x9bdc06a7, 0xc19bf174,
  0xe49b69c1, 0xefbe4786, 0x0fc19dc6, 0x240ca1cc, 0x2de92c6f, 0x4a7484aa, 0x5cb0a9dc, 0x76f988da,
  0x983e5152, 0xa831c66d, 0xb00327c8, 0xbf597fc7, 0xc6e00bf3, 0xd5a79147, 0x06ca6351, 0x14292967,
  0x27b70a85, 0x2e1b2138, 0x4d2c6dfc, 0x53380d13, 0x650a7354, 0x766a0abb, 0x81c2c92e, 0x92722c85,
  0xa2bfe8a1, 0xa81a664b, 0xc24b8b70, 0xc76c51a3, 0xd192e819, 0xd6990624, 0xf40e3585, 0x106aa070,
  0x19a4c116, 0x1e376c08, 0x2748774c, 0x34b0bcb5, 0x391c0cb3, 0x4ed8aa4a, 0x5b9cca4f, 0x682e6ff3,
  0x748f82ee, 0x78a5636f, 0x84c87814, 0x8cc70208, 0x90befffa, 0xa4506ceb, 0xbef9a3f7, 0xc67178f2]
def ktab : List W32 := ktabN.map (BitVec.ofNat 32)
def first8 : S8 := ⟨0x6a09e667#32, 0xbb67ae85#32, 0x3c6ef372#32, 0xa54ff53a#32, 0x510e527f#32, 0x9b05688c#32, 0x1f83d9ab#32, 0x5be0cd19#32⟩
def thr (s : S8) (p : List Nat) : S8 := add8 s (rnds ktab (sched p) s)
def fb (s : S8) (l : List Nat) : S8 := if h : 64 ≤ l.length then fb (thr s (l.take 64)) (l.drop 64) else s
termination_by l.length
decreasing_by simp; omega
def byW (x : W32) : List Nat := [(x >>> 24).toNat % 256, (x >>> 16).toNat % 256, (x >>> 8).toNat % 256, x.toNat % 256]
def by8 (s : S8) : List Nat := s.l.flatMap byW
/-- n's eight bytes, the greatest first. -/
def be8 (n : Nat) : List Nat := [n / 2 ^ 56 % 256, n / 2 ^ 48 % 256, n / 2 ^ 40 % 256, n / 2 ^ 32 % 256, n / 2 ^ 24 % 256, n / 2 ^ 16 % 256, n / 2 ^ 8 % 256, n % 256]
def zpad (n : Nat) : Nat := (119 - n % 64) % 64
def endP (n : Nat) : List Nat := 128 :: List.replicate (zpad n) 0 ++ be8 (n * 8)
def sha (m : List Nat) : List Nat := by8 (fb first8 (m ++ endP m.length))
end Go.Ck
