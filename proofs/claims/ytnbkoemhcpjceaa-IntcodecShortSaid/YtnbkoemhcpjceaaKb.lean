/- What is proved here: parts of the proofs of this seat's statements (a verified evaluator for calls over pure values, its laws, and contracts of functions). No condition. -/
import Derived.Test.YtnbkoemhcpjceaaKa
import Derived.StillTail
import Derived.ControlIn
import Derived.ScopeJumps
import Derived.RangeFuncIn
import Derived.TacticsIn
import Derived.OrdersIn
import Derived.Laws.Cover3
import Derived.MapKept
import Derived.RangeFuncRecord
set_option linter.all false
set_option linter.unusedVariables false
namespace Go.Ck
open Go.RowKit
section
variable {P : Program} {O0 : Base} {F : Nat → Prop} {w0 w : World} {s : St} {E : Env} {tmps : Array Value}

theorem kill_hp (p : Place) (s : St) : (kill p s).hp = s.hp := rfl

/-- A cell of an object is given a value that is easy. -/
theorem Rel.cellEasy (h : Rel P O0 w0 F s E tmps w) {o off : Nat} {e : TypeId} {cs : List SV} {v : SV} {y : Value} (hl : look o s.hp = some (.cells e cs)) (hi : off < cs.length) (h1 : oneSV v = true) (he : v.easy = true)
    (hr : v = .dead ∨ RS P (fun b => E.om b ∨ F b) E w v y) (hon : ∀ q, v.on q = false) (hpt : ∀ o', v.pts o' = true → ∃ z, look o' s.hp = some z) :
    Rel P O0 w0 F (setAt (.cell o off) v (Ck.kill (.cell o off) s)) (E.setHdr (.cell o off) y) tmps (w.setCell ⟨E.obj o, off, none⟩ y) := by
  refine (h.kill (.cell o off)).writeCell hl hi (h.free_kill _) h1 (RS.pvalEasy he (hr.imp id fun h2 => h2.setHdr (hon _))) hon ?_ hpt
  rintro ⟨e', xs, rfl⟩
  simp [SV.easy] at he

theorem kill_at_cell (p : Place) (s : St) (o i : Nat) : (kill p s).at (.cell o i) = s.at (.cell o i) := rfl

theorem storeCell_sound (h : Rel P O0 w0 F s E tmps w) {o off : Nat} {e : TypeId} {cs : List SV} {v : SV} {y : Value} {s' : St} (hl : look o s.hp = some (.cells e cs)) (hi : off < cs.length) (hs : storeCell s o off v = some s')
    (hg : Good s v) (hy : RS P (fun b => E.om b ∨ F b) E w v y) : y.cells = #[y] ∧ y.oneCell' = true ∧ ∃ E', Rel P O0 w0 F s' E' tmps (w.setCell ⟨E.obj o, off, none⟩ y) := by
  unfold storeCell at hs
  split at hs
  · rename_i p
    have hpn := (hg.2.1 p (by simp [SV.on])).2
    split at hs
    · rename_i e' xs hp
      split at hs <;> cases hs
      rename_i hne
      have hyv := hy.al_inv
      subst hyv
      obtain ⟨a, cap, hf, _⟩ := (h.own hp).form
      refine ⟨by rw [hf]; rfl, by rw [hf]; rfl, ?_⟩
      have h1 := h.cellEasy (v := .dead) (y := E.hdr p) hl hi rfl rfl (.inl rfl) (fun _ => rfl) (fun o' ho => by simp [SV.pts] at ho)
      have hlk : look o (kill (.cell o off) s).hp = some (.cells e cs) := hl
      have hcell : ∃ u, (kill (.cell o off) s).at (.cell o off) = some u := by
        rw [kill_at_cell, at_cell, hl]
        exact ⟨cs[off], List.getElem?_eq_getElem hi⟩
      obtain ⟨u, hu⟩ := hcell
      have hp' : (setAt (.cell o off) .dead (kill (.cell o off) s)).at p = some (.own e' xs) := by
        rw [at_setCell hlk]
        have hk := kill_own (.cell o off) s hp
        cases p with
        | slot d => exact hk
        | part d i => exact hk
        | cell o' j =>
          simp only
          split
          · rename_i ho; subst ho
            rw [List.getElem?_set, if_neg (by rintro rfl; exact hne rfl)]
            rw [kill_at_cell, at_cell, hl] at hk
            exact hk
          · exact hk
      have hq' : (setAt (.cell o off) .dead (kill (.cell o off) s)).at (.cell o off) = some .dead := by
        rw [at_setCell hlk]
        simp [hi]
      obtain ⟨vs, hheap, hsz, _⟩ := h.objCells hl
      obtain ⟨E', hE⟩ := transfer_sound h1 (q := .cell o off) hp' hq' rfl (fun he => hne he.symm) (by
        rw [Env.setHdr_ne _ _ hne]
        simp only [CV]
        show (w.setCell ⟨E.obj o, off, none⟩ (E.hdr p)).cell? ⟨E.obj o, off, none⟩ = some (E.hdr p)
        have := setCell_heap w (E.obj o) off (E.hdr p) (E.obj o)
        rw [if_pos rfl, hheap] at this
        simp only [Option.map_some] at this
        simp [World.cell?, this, hsz, hi]) (by simp)
      exact ⟨E', hE⟩
    · cases hs
  · rename_i p
    split at hs <;> cases hs
    rename_i h1
    have hro : RO (fun b => E.om b ∨ F b) w p y := by cases hy; assumption
    exact ⟨(hro.cells_of_one h1).1, hro.oneCell h1, _, h.cellEasy hl hi h1 rfl (.inr hy) (fun _ => rfl) (fun o' ho => by simp [SV.pts] at ho)⟩
  · cases hs
    refine ⟨?_, ?_, _, h.cellEasy hl hi rfl rfl (.inr hy) (fun _ => rfl) (fun o' ho => by simp [SV.pts] at ho)⟩ <;> cases hy <;> rfl
  · cases hs
    refine ⟨?_, ?_, _, h.cellEasy hl hi rfl rfl (.inr hy) (fun _ => rfl) hg.2.2⟩ <;> cases hy <;> rfl
  · cases hs
    refine ⟨?_, ?_, _, h.cellEasy hl hi rfl rfl (.inr hy) (fun _ => rfl) hg.2.2⟩ <;> cases hy <;> rfl
  · cases hs

theorem putCells_sound : ∀ (new : List SV) {off : Nat} {us : List Value} {s : St} {E : Env} {w : World} {o : Nat} {e : TypeId} {cs : List SV}, Rel P O0 w0 F s E tmps w → look o s.hp = some (.cells e cs) → off + new.length ≤ cs.length →
    CPs (fun b => E.om b ∨ F b) w new us → ∃ E', E'.obj = E.obj ∧ Rel P O0 w0 F (putCells o off new s) E' tmps (w.setCells (E.obj o) off us)
  | [], off, us, s, E, w, o, e, cs, h, hl, hle, hc => by
    have : us = [] := List.eq_nil_of_length_eq_zero hc.1
    subst this
    exact ⟨E, rfl, h⟩
  | c :: r, off, us, s, E, w, o, e, cs, h, hl, hle, hc => by
    cases us with
    | nil => have := hc.1; simp at this
    | cons u us =>
      have h0 := hc.2 0 c u rfl rfl
      have hpl := hc.plain
      obtain ⟨k1, k2, k3, k4⟩ := allPlain_pts hpl c (by simp)
      have h1 := h.cellEasy (off := off) (v := c) (y := u) hl (by simp at hle; omega) k4 k3 (.inr h0.rs) k2 (fun o' ho => by rw [k1 o'] at ho; cases ho)
      have hom := (h.obj o _ hl).1
      have hl' : look o (setAt (.cell o off) c (kill (.cell o off) s)).hp = some (.cells e (cs.set off c)) := by
        have hlk : look o (kill (.cell o off) s).hp = some (.cells e cs) := hl
        simp only [setAt, hlk, look_setObj]
        simp [kill, hl]
      have hr : CPs (fun b => (E.setHdr (.cell o off) u).om b ∨ F b) (w.setCell ⟨E.obj o, off, none⟩ u) r us := by
        refine ⟨by have := hc.1; simpa using this, fun i c' v hc' hv => ?_⟩
        have h2 := hc.2 (i + 1) c' v (by simpa using hc') (by simpa using hv)
        cases c' <;> simp only [CP] at h2 ⊢
        · refine ⟨h2.1, h2.2.mono (fun b hb hn => ⟨hn, ?_⟩)⟩
          rw [setCell_heap, if_neg (by rintro rfl; exact hn (.inl hom))]
        · exact h2
      obtain ⟨E', e1, hE⟩ := putCells_sound r (off := off + 1) h1 hl' (by simp at hle ⊢; omega) hr
      exact ⟨E', e1, hE⟩

theorem CPs.oneCell {A : Nat → Prop} {cs : List SV} {vs : List Value} (h : CPs A w cs vs) : ∀ u ∈ vs, u.oneCell' = true := by
  intro u hu
  obtain ⟨i, hi, he⟩ := List.mem_iff_getElem.1 hu
  have hi' : i < cs.length := by rw [← h.1]; exact hi
  have h1 := h.2 i cs[i] u (List.getElem?_eq_getElem hi') (by rw [← he]; exact List.getElem?_eq_getElem hi)
  cases hc : cs[i] <;> rw [hc] at h1 <;> simp only [CP] at h1
  · exact h1.2.oneCell h1.1
  · subst h1; rfl

theorem plainCells_sound {A : Nat → Prop} {v : SV} {new : List SV} {y : Value} (hp : plainCells v = some new) (hy : RS P A E w v y) : CPs A w new y.cells.toList := by
  unfold plainCells at hp
  split at hp
  · cases hp
    cases hy with | pv _ _ hy => ?_
    have := CPs.ofROs hy.cellsROs
    exact this
  · cases hp
    cases hy with | agg _ vs hl h1 h2 => ?_
    exact ⟨by simpa [Value.cells] using hl, fun i c v hc hv => CP.ofRS h1 (List.mem_of_getElem? hc) (h2 i c v hc (by simpa [Value.cells] using hv))⟩
  · cases hp

/-- A store. -/
theorem astore_sound (h : Rel P O0 w0 F s E tmps w) {ty : TypeId} {v xa : SV} {s' : St} {x y : Value} (hs : astore (tsh P ty) s xa v = some s') (hx : RS P (fun b => E.om b ∨ F b) E w xa x) (hg : Good s v) (hy : RS P (fun b => E.om b ∨ F b) E w v y) :
    ∃ w' E', (Instr.storeAt ty x y).run P w = .ok () w' ∧ Rel P O0 w0 F s' E' tmps w' := by
  unfold astore at hs
  split at hs
  · rename_i o off
    cases hx with | ptr => ?_
    unfold storeO at hs
    split at hs
    · rename_i e cs hl
      obtain ⟨vs, hheap, hsz, _⟩ := h.objCells hl
      split at hs
      · rename_i z hT
        unfold storeAgg at hs
        split at hs
        · rename_i new hnew
          split at hs <;> cases hs
          rename_i hc
          obtain ⟨hc1, hc2, hc3⟩ := hc
          have hcp := plainCells_sound hnew hy
          obtain ⟨E', _, hE⟩ := putCells_sound new (off := off) h hl (by omega) hcp
          obtain ⟨d', ii, hu, hi', hsz', _⟩ := tsh_parts (w := w) hT
          have htz : P.cellsOf ty = z := by simp [Program.cellsOf, hi', hsz']
          have hyl : y.cells.size = z := by have := hcp.1; simp at this; omega
          rcases Nat.eq_zero_or_pos z with h0 | h0
          · subst h0
            refine ⟨_, E', ?_, hE⟩
            have he : y.cells = #[] := Array.eq_empty_of_size_eq_zero hyl
            have : ∀ w : World, w.setCells (E.obj o) off [] = w := fun _ => rfl
            simp [Instr.storeAt, Instr.sureAddr, storeVar, sizeOf, typeInfo, hi', hsz', he, storeCells, this]
          · exact ⟨_, E', run_storeVar' w _ _ htz h0 y hyl vs e hheap (by omega) hcp.oneCell, hE⟩
        · cases hs
      · rename_i hT
        split at hs
        · rename_i hi
          obtain ⟨k1, k2, E', hE⟩ := storeCell_sound h hl hi hs hg hy
          obtain ⟨d', ii, hu, hi', hsz', _⟩ := tsh_parts (w := w) hT
          have htz : P.cellsOf ty = 1 := by simp [Program.cellsOf, hi', hsz']
          refine ⟨_, E', run_storeVar' w _ _ htz (by omega) y (by rw [k1]; rfl) vs e hheap (by omega) (fun u hu => by rw [k1] at hu; simp at hu; subst hu; exact k2), ?_⟩
          rw [k1]
          exact hE
        · cases hs
      · cases hs
    · cases hs
  · exact storeE_sound h hs hx hy
  · cases hs
end
end Go.Ck

set_option linter.unusedVariables false
namespace Go.Ck
open Go.RowKit
section
variable {P : Program} {O0 : Base} {F : Nat → Prop} {w0 w : World} {s : St} {E : Env} {a : Act}

theorem put_tmps (a : Act) (d : Nat) (x : Value) : (a.put (some d) x).tmps = a.tmps.setIfInBounds d x := rfl

/-- One operation. -/
theorem astep_sound (h : Rel P O0 w0 F s E a.tmps w) {o : Oper} {s' : St} (hs : astep P o s = some s') :
    ∃ r x w' E', (execOp a.eval o).run P w = .ok r w' ∧ (r = .value x ∨ (r = .skip ∧ x = undef)) ∧ Rel P O0 w0 F s' E' (a.put o.dst x).tmps w' := by
  unfold astep at hs
  split at hs
  · rename_i d hd
    rw [hd]
    split at hs
    · unfold putO at hs
      split at hs
      · rename_i v hv
        cases hs
        obtain ⟨x, h1, h2⟩ := aval_put (d := d) h hv
        exact ⟨_, x, w, E, h1, .inl rfl, h2⟩
      · cases hs
    · unfold orElse at hs
      split at hs
      · rename_i hv
        cases hs
        obtain ⟨x, w', E', h1, h2⟩ := aeff_sound h hv
        exact ⟨_, x, w', E', h1, .inl rfl, h2⟩
      · split at hs
        · rename_i v hv
          cases hs
          obtain ⟨x, h1, h2⟩ := aval_put (d := d) h hv
          exact ⟨_, x, w, E, h1, .inl rfl, h2⟩
        · cases hs
  · rename_i hd
    rw [hd]
    split at hs
    · rename_i t x v ho
      split at hs
      · rename_i xa va hx hv
        obtain ⟨w', E', h1, h2⟩ := astore_sound h hs (ev_rs h hx) (h.ev_good hv) (ev_rs h hv)
        refine ⟨.skip, undef, w', E', ?_, .inr ⟨rfl, rfl⟩, h2⟩
        simp [execOp, ho, h1]
      · cases hs
    · cases hs

theorem put_defers (a : Act) (d : Option Nat) (x : Value) : (a.put d x).defers = a.defers := by cases d <;> rfl

end
end Go.Ck

set_option linter.unusedVariables false
namespace Go.Ck
open Go.RowKit
section
variable {P : Program} {O0 : Base} {F : Nat → Prop} {w0 w : World} {s : St} {E : Env} {a : Act}

/-- Does an operation leave the world alone? -/
def stillOp (o : Oper) : Bool := match o.dst with
  | none => false
  | some _ => match o.op with
    | .move _ | .assign _ | .extract _ _ | .makeFunc _ _ _ => true
    | op => reads op

theorem astep_still {o : Oper} {s' : St} (hst : stillOp o = true) (h : Rel P O0 w0 F s E a.tmps w) (hs : astep P o s = some s') :
    ∃ x E', (execOp a.eval o).run P w = .ok (.value x) w ∧ Rel P O0 w0 F s' E' (a.put o.dst x).tmps w := by
  unfold stillOp at hst
  split at hst
  · cases hst
  · rename_i d hd
    unfold astep at hs
    simp only [hd] at hs
    have viaReads : reads o.op = true → ∃ x E', (execOp a.eval o).run P w = .ok (.value x) w ∧ Rel P O0 w0 F s' E' (a.put o.dst x).tmps w := by
      intro hr
      rw [hr] at hs
      simp only [if_true] at hs
      unfold putO at hs
      split at hs
      · rename_i v hv
        cases hs
        obtain ⟨x, h1, h2⟩ := aval_put (d := d) h hv
        exact ⟨x, E, h1, by rw [hd]; exact h2⟩
      · cases hs
    have viaEff : (∀ r w', (execOp a.eval o).run P w = .ok r w' → w' = w) → ∃ x E', (execOp a.eval o).run P w = .ok (.value x) w ∧ Rel P O0 w0 F s' E' (a.put o.dst x).tmps w := by
      intro hw
      cases hr : reads o.op with
      | true => exact viaReads hr
      | false =>
        rw [hr] at hs
        simp only [Bool.false_eq_true, if_false] at hs
        unfold orElse at hs
        split at hs
        · rename_i hv
          cases hs
          obtain ⟨x, w', E', h1, h2⟩ := aeff_sound h hv
          have := hw _ _ h1
          subst this
          exact ⟨x, E', h1, by rw [hd]; exact h2⟩
        · split at hs
          · rename_i v hv
            cases hs
            obtain ⟨x, h1, h2⟩ := aval_put (d := d) h hv
            exact ⟨x, E, h1, by rw [hd]; exact h2⟩
          · cases hs
    split at hst
    · rename_i he
      refine viaEff (fun r w' hr => ?_)
      simp only [execOp, he, Sem.run_pure] at hr
      cases hr; rfl
    · rename_i he
      refine viaEff (fun r w' hr => ?_)
      simp only [execOp, he, Sem.run_pure] at hr
      cases hr; rfl
    · rename_i x i he
      refine viaEff (fun r w' hr => ?_)
      simp only [execOp, he, Sem.run_bind, Instr.extract] at hr
      split at hr
      · split at hr
        · simp at hr; exact hr.2.symm
        · simp [stuck] at hr
      · simp [stuck] at hr
    · rename_i f x c he
      refine viaEff (fun r w' hr => ?_)
      simp [execOp, he, Instr.makeFunc] at hr
      exact hr.2.symm
    · exact viaReads hst

def aguard (ops : Array Oper) (s : St) (j : Nat) (want : Bool) : Option Bool := match ops[j]? with
  | some o => (match o.dst with
    | some d => (match look d s.sl with | some (.pv (.bool b)) => some b | some (.tup []) => some (!want) | _ => none)
    | none => none)
  | none => none
theorem aguard_sound (h : Rel P O0 w0 F s E a.tmps w) {ops : Array Oper} {j : Nat} {b want : Bool} (hg : aguard ops s j want = some b) : (yielded ops a.tmps j == some want) = (b == want) := by
  unfold aguard at hg
  split at hg
  · rename_i o ho
    split at hg
    · rename_i d hd
      split at hg
      · rename_i b' hl
        cases hg
        obtain ⟨x, hx, hv⟩ := h.place (.slot d) _ hl
        have hv' : RS P (fun b => E.om b ∨ F b) E w (.pv (.bool b)) x := hv
        cases hv' with | pv _ _ hv' => ?_
        cases hv'
        simp only [CV] at hx
        simp [yielded, ho, hd, hx]
      · rename_i hl
        cases hg
        obtain ⟨x, hx, hv⟩ := h.place (.slot d) _ hl
        simp only [PVal] at hv
        obtain ⟨us, rfl, hus⟩ := hv
        simp only [CV] at hx
        simp [yielded, ho, hd, hx]
      · cases hg
    · cases hg
  · cases hg

end
end Go.Ck

set_option linter.unusedVariables false
namespace Go.Ck
open Go.RowKit

def zslots : List SV → Nat → List (Nat × SV)
  | [], _ => []
  | v :: r, i => (i, v) :: zslots r (i + 1)
theorem look_zslots : ∀ (l : List SV) (i d : Nat), look d (zslots l i) = if i ≤ d then l[d - i]? else none
  | [], i, d => by simp [zslots, look]
  | v :: r, i, d => by
    simp only [zslots, look]
    by_cases h : i = d
    · subst h; simp
    · rw [if_neg h, look_zslots r (i + 1) d]
      by_cases h1 : i ≤ d
      · rw [if_pos h1, if_pos (by omega), show d - i = (d - (i + 1)) + 1 by omega, List.getElem?_cons_succ]
      · rw [if_neg h1, if_neg (by omega)]
theorem look_zslots0 (l : List SV) (d : Nat) : look d (zslots l 0) = l[d]? := by rw [look_zslots]; simp

def SV.ren1 (ρ : Nat → Nat) : SV → SV
  | .ptr o off => .ptr (ρ o) off
  | v => v
def SV.ren (ρ : Nat → Nat) : SV → SV
  | .ptr o off => .ptr (ρ o) off
  | .mp o => .mp (ρ o)
  | .fn f caps => .fn f (caps.map (SV.ren1 ρ))
  | v => v
def HO.ren (ρ : Nat → Nat) : HO → HO
  | .cells e cs => .cells e (cs.map (SV.ren ρ))
  | .mp es => .mp es
theorem HO.ren_list (ρ : Nat → Nat) (h : HO) : (h.ren ρ).list = h.list.map (SV.ren ρ) := by cases h <;> rfl

theorem ren_own {ρ : Nat → Nat} {v : SV} {e : TypeId} {xs : List PV} : v.ren ρ = .own e xs ↔ v = .own e xs := by cases v <;> simp [SV.ren]
theorem ren_on (ρ : Nat → Nat) (v : SV) (q : Place) : (v.ren ρ).on q = v.on q := by cases v <;> rfl
theorem ren_one (ρ : Nat → Nat) (v : SV) : oneSV (v.ren ρ) = oneSV v := by cases v <;> rfl

section
variable {P : Program} {w : World}

theorem RS.ren {A A' : Nat → Prop} {E E' : Env} {ρ : Nat → Nat} {v : SV} {x : Value} (h : RS P A E w v x) (hA : ∀ b, ¬ A b → ¬ A' b) (hob : ∀ o, v.pts o = true → E'.obj (ρ o) = E.obj o) (hon : ∀ q, v.on q = false) : RS P A' E' w (v.ren ρ) x := by
  cases h with
  | pv p x h => exact .pv p x (h.sub hA)
  | nils => exact .nils
  | al q => have := hon q; simp [SV.on] at this
  | vw q e off n x h => have := hon q; simp [SV.on] at this
  | ptr o off =>
    have h1 := hob o (by simp [SV.pts])
    have := RS.ptr (P := P) (A := A') (E := E') (w := w) (ρ o) off
    rwa [h1] at this
  | ea q e i j b h => have := hon q; simp [SV.on] at this
  | ra c j vs ad hs h hm => exact .ra c j vs ad hs (h.sub hA) (fun i v hv => ⟨hA _ (hm i v hv).1, (hm i v hv).2⟩)
  | fn f caps vs hl h1 h =>
    refine .fn f (caps.map (SV.ren1 ρ)) vs (by simpa using hl) ?_ (fun i c v hc hv => ?_)
    · rw [List.all_map]
      refine List.all_eq_true.2 (fun c hc => ?_)
      have := List.all_eq_true.1 h1 c hc
      cases c <;> simp [SV.simple] at this <;> rfl
    · rw [List.getElem?_map, Option.map_eq_some_iff] at hc
      obtain ⟨c0, hc0, rfl⟩ := hc
      have h2 := h i c0 v hc0 hv
      have hm := List.mem_of_getElem? hc0
      have h3 := List.all_eq_true.1 h1 c0 hm
      cases c0 <;> simp [SV.simple] at h3
      · cases h2 with | pv _ _ h2 => exact .pv _ _ (h2.sub hA)
      · rename_i o off
        cases h2
        have h4 := hob o (by simp only [SV.pts, List.any_eq_true]; exact ⟨_, hm, by simp⟩)
        have := RS.ptr (P := P) (A := A') (E := E') (w := w) (ρ o) off
        rwa [h4] at this
  | agg cs vs hl h1 h =>
    refine .agg cs vs hl h1 (fun i c v hc hv => ?_)
    have h2 := CP.ofRS h1 (List.mem_of_getElem? hc) (h i c v hc hv)
    exact (h2.sub hA).rs
  | mp o =>
    have h1 := hob o (by simp [SV.pts])
    have := RS.mp (P := P) (A := A') (E := E') (w := w) (ρ o)
    rwa [h1] at this
  | yl l => exact .yl l

theorem RS.unren {A A' : Nat → Prop} {E E' : Env} {ρ : Nat → Nat} {v : SV} {x : Value} (h : RS P A E w (v.ren ρ) x) (hA : ∀ b, ¬ A b → ¬ A' b) (hob : ∀ o, v.pts o = true → E.obj (ρ o) = E'.obj o) (hon : ∀ q, v.on q = false) : RS P A' E' w v x := by
  cases v with
  | pv p => cases h with | pv _ _ h => exact .pv p x (h.sub hA)
  | nils => cases h; exact .nils
  | al q => have := hon q; simp [SV.on] at this
  | vw q e off n => have := hon q; simp [SV.on] at this
  | ptr o off =>
    have h1 := hob o (by simp [SV.pts])
    cases h
    rw [h1]; exact .ptr o off
  | ea q e i j => have := hon q; simp [SV.on] at this
  | ra c j => cases h with | ra _ _ vs ad hs h hm => exact .ra c j vs ad hs (h.sub hA) (fun i v hv => ⟨hA _ (hm i v hv).1, (hm i v hv).2⟩)
  | fn f caps =>
    cases h with | fn _ _ vs hl h1 h => ?_
    rw [List.all_map] at h1
    have hs : caps.all SV.simple = true := by
      refine List.all_eq_true.2 (fun c hc => ?_)
      have := List.all_eq_true.1 h1 c hc
      cases c <;> simp [SV.ren1, SV.simple] at this <;> rfl
    refine .fn f caps vs (by simpa using hl) hs (fun i c v hc hv => ?_)
    have h2 := h i (c.ren1 ρ) v (by rw [List.getElem?_map, hc]; rfl) hv
    have hm := List.mem_of_getElem? hc
    have h3 := List.all_eq_true.1 hs c hm
    cases c <;> simp [SV.simple] at h3
    · cases h2 with | pv _ _ h2 => exact .pv _ _ (h2.sub hA)
    · rename_i o off
      have h4 := hob o (by simp only [SV.pts, List.any_eq_true]; exact ⟨_, hm, by simp⟩)
      simp only [SV.ren1] at h2
      cases h2
      rw [h4]; exact .ptr o off
  | agg cs =>
    cases h with | agg _ vs hl h1 h => ?_
    refine .agg cs vs hl h1 (fun i c v hc hv => ?_)
    have h2 := CP.ofRS h1 (List.mem_of_getElem? hc) (h i c v hc hv)
    exact (h2.sub hA).rs
  | yl l => cases h; exact .yl l
  | mp o =>
    have h1 := hob o (by simp [SV.pts])
    cases h
    rw [h1]; exact .mp o
  | own e xs => cases h
  | tup vs => cases h
  | dead => cases h

end

/-- What a call comes back with. -/
def pack (us : List Value) : Value := match us with
  | [u] => u
  | us => .tuple us.toArray

def obOf (E : Env) (H : List (Nat × HO)) : Nat → Option Nat := fun o => match look o H with
  | some _ => some (E.obj o)
  | none => none

/-- math/bits.deBruijn64tab. -/
def debruijn : List Nat := [0, 1, 56, 2, 57, 49, 28, 3, 61, 58, 42, 50, 38, 29, 17, 4, 62, 47, 59, 36, 45, 43, 51, 22, 53, 39, 33, 30, 24, 18, 12, 5, 63, 55, 48, 27, 60, 41, 37, 16, 46, 35, 44, 21, 52, 32, 23, 11, 54, 26, 40, 15, 34, 20, 31, 10, 25, 14, 19, 9, 13, 8, 7, 6]
/-- The tables that a program reads, by the variables' numbers. -/
def gtabs (P : Program) : List (Nat × List Nat) := match P.globals.findIdx? (fun g => g.name == "math/bits.deBruijn64tab") with
  | some g => [(g, debruijn)]
  | none => []
/-- The tables hold what they hold. -/
def GOK (P : Program) (A : Nat → Prop) (w : World) : Prop := ∀ g l, (g, l) ∈ gtabs P → ¬ A g ∧ g < w.heap.size ∧ ∀ (i n : Nat), l[i]? = some n → w.cell? ⟨g, i, none⟩ = some (.int .u8 n)
theorem GOK.mono {P : Program} {A A' : Nat → Prop} {w w' : World} (h : GOK P A w) (hA : ∀ b, b < w.heap.size → ¬ A b → ¬ A' b ∧ w'.heap[b]? = w.heap[b]?) (hs : w.heap.size ≤ w'.heap.size) : GOK P A' w' := fun g l hg => by
  obtain ⟨h1, h2, h3⟩ := h g l hg
  obtain ⟨k1, k2⟩ := hA g h2 h1
  exact ⟨k1, by omega, fun i n hn => by rw [← h3 i n hn]; exact World.cell?_of_block k2⟩
/-- A call of f with these arguments and objects comes back with results and objects as Ψ tells. -/
def Fn (P : Program) (f : FuncId) (H : List (Nat × HO)) (args : List SV) (Ψ : List SV → List (Nat × HO) → Prop) : Prop :=
  (∃ fn, P.funcs[f]? = some fn ∧ (fn.name == "runtime.NumGoroutine") = false ∧ fn.body.isNone = false) ∧ ∀ (F : Nat → Prop) (w : World) (E : Env) (vals : List Value), vals.length = args.length → GOK P (fun b => E.om b ∨ F b) w → Rel P ⟨E.om, obOf E H⟩ w F ⟨vals.length, zslots args 0, H⟩ E vals.toArray w →
    Calls P f vals.toArray w (fun
      | .returned v, w' => ∃ rs H' E' us, Ψ rs H' ∧ us.length = rs.length ∧ v = pack us ∧ Rel P ⟨E.om, obOf E H⟩ w F ⟨us.length, zslots rs 0, H'⟩ E' us.toArray w'
      | .panicked _, _ => False
      | .outgrown, _ => False)

theorem Fn.mono {P : Program} {f : FuncId} {H : List (Nat × HO)} {args : List SV} {Ψ Ψ' : List SV → List (Nat × HO) → Prop} (h : Fn P f H args Ψ) (hm : ∀ rs H', Ψ rs H' → Ψ' rs H') : Fn P f H args Ψ' :=
  ⟨h.1, fun F w E vals hl hG hR => (h.2 F w E vals hl hG hR).mono (fun e w' he => by
    cases e with
    | returned v => obtain ⟨rs, H', E', us, h1, h2⟩ := he; exact ⟨rs, H', E', us, hm _ _ h1, h2⟩
    | panicked c => exact he
    | outgrown => exact he)⟩
end Go.Ck

set_option linter.unusedVariables false
namespace Go.Ck
open Go.RowKit

/-- The blocks that a call is handed. -/
def OmC (E : Env) (ρ : Nat → Nat) (H : List (Nat × HO)) (args : List SV) (vals : List Value) (b : Nat) : Prop :=
  (∃ o y, look o H = some y ∧ E.obj (ρ o) = b) ∨ (∃ o y i e xs, look o H = some y ∧ y.list[i]? = some (.own e xs) ∧ (E.hdr (.cell (ρ o) i)).ownBlock = some b) ∨
  (∃ (i : Nat) (e : TypeId) (xs : List PV) (x : Value), args[i]? = some (.own e xs) ∧ vals[i]? = some x ∧ x.ownBlock = some b)
def EnvC (E : Env) (ρ : Nat → Nat) (H : List (Nat × HO)) (args : List SV) (vals : List Value) : Env where
  obj o := E.obj (ρ o)
  hdr p := match p with
    | .slot i => vals.getD i undef
    | .cell o i => E.hdr (.cell (ρ o) i)
    | .part _ _ => undef
  om := OmC E ρ H args vals

/-- What the arguments are. -/
structure Args (P : Program) (A : Nat → Prop) (s : St) (E : Env) (ρ : Nat → Nat) (H : List (Nat × HO)) (Lt : Nat → Prop) (w : World) (args : List SV) (vals : List Value) : Prop where
  len : vals.length = args.length
  own : ∀ (i : Nat) (e : TypeId) (xs : List PV) (x : Value), args[i]? = some (.own e xs) → vals[i]? = some x → OwnL P A w e x xs ∧ ∀ b, x.ownBlock = some b → E.om b ∧ Unused s E b
  easy : ∀ (i : Nat) (c : SV) (x : Value), args[i]? = some c → vals[i]? = some x → (∃ e xs, c = .own e xs) ∨ (c.easy = true ∧ (∀ q, c.on q = false) ∧ RS P (fun b => A b ∧ ¬ Lt b) (EnvC E ρ H args vals) w c x)
  pts : ∀ (i : Nat) (c : SV) (o : Nat), args[i]? = some c → c.pts o = true → ∃ z, look o H = some z
  dist : ∀ (i j : Nat) (e : TypeId) (xs : List PV) (e' : TypeId) (ys : List PV) (x y : Value) (b : Nat), args[i]? = some (.own e xs) → args[j]? = some (.own e' ys) → vals[i]? = some x → vals[j]? = some y → x.ownBlock = some b → y.ownBlock = some b → i = j

section
variable {P : Program} {O0 : Base} {F : Nat → Prop} {w0 w : World} {s : St} {E : Env} {tmps : Array Value}

theorem look_at {H : List (Nat × HO)} {n : Nat} {sl : List (Nat × SV)} {o i : Nat} {v : SV} (h : (St.mk n sl H).at (.cell o i) = some v) : ∃ y, look o H = some y ∧ y.list[i]? = some v := by
  rw [at_cell] at h
  split at h
  · rename_i y hy; exact ⟨y, hy, h⟩
  · cases h

theorem OmC_om (h : Rel P O0 w0 F s E tmps w) {ρ : Nat → Nat} {H : List (Nat × HO)} {Lt : Nat → Prop} {args : List SV} {vals : List Value} (ha : Args P (fun b => E.om b ∨ F b) s E ρ H Lt w args vals)
    (hH : ∀ o y, look o H = some y → look (ρ o) s.hp = some (y.ren ρ)) {b : Nat} (hb : OmC E ρ H args vals b) : E.om b := by
  rcases hb with ⟨o, y, h1, rfl⟩ | ⟨o, y, i, e, xs, h1, h2, h3⟩ | ⟨i, e, xs, x, h1, h2, h3⟩
  · exact (h.obj _ _ (hH o y h1)).1
  · have hat : s.at (.cell (ρ o) i) = some (.own e xs) := by
      rw [at_cell, hH o y h1]
      simp only [HO.ren_list, List.getElem?_map, h2, Option.map_some]; rfl
    obtain ⟨_, _, _, _, h4⟩ := h.place _ _ hat
    exact h4 b h3
  · exact ((ha.own i e xs x h1 h2).2 b h3).1

/-- A call's own view of what lies in memory. -/
theorem entry (h : Rel P O0 w0 F s E tmps w) {ρ : Nat → Nat} {H : List (Nat × HO)} {Lt : Nat → Prop} {args : List SV} {vals : List Value}
    (hH : ∀ o y, look o H = some y → look (ρ o) s.hp = some (y.ren ρ)) (hinj : ∀ o o' y y', look o H = some y → look o' H = some y' → ρ o = ρ o' → o = o')
    (hHp : ∀ o y c o', look o H = some y → c ∈ y.list → c.pts o' = true → ∃ z, look o' H = some z)
    (hLt : ∀ b, Lt b → ¬ OmC E ρ H args vals b) (ha : Args P (fun b => E.om b ∨ F b) s E ρ H Lt w args vals) :
    Rel P ⟨(EnvC E ρ H args vals).om, obOf (EnvC E ρ H args vals) H⟩ w (fun b => (E.om b ∨ F b) ∧ ¬ OmC E ρ H args vals b ∧ ¬ Lt b) ⟨vals.length, zslots args 0, H⟩ (EnvC E ρ H args vals) vals.toArray w := by
  have hom : ∀ b, OmC E ρ H args vals b → E.om b := fun b hb => OmC_om h ha hH hb
  have hA : ∀ b, ¬ (E.om b ∨ F b) → ¬ (OmC E ρ H args vals b ∨ ((E.om b ∨ F b) ∧ ¬ OmC E ρ H args vals b ∧ ¬ Lt b)) := by
    rintro b hn (h1 | h1)
    · exact hn (.inl (hom b h1))
    · exact hn h1.1
  have hA2 : ∀ b, ¬ ((E.om b ∨ F b) ∧ ¬ Lt b) → ¬ (OmC E ρ H args vals b ∨ ((E.om b ∨ F b) ∧ ¬ OmC E ρ H args vals b ∧ ¬ Lt b)) := by
    rintro b hn (h1 | h1)
    · exact hn ⟨.inl (hom b h1), fun h2 => hLt b h2 h1⟩
    · exact hn ⟨h1.1, h1.2.2⟩
  have hat : ∀ {o i v y}, look o H = some y → y.list[i]? = some v → s.at (.cell (ρ o) i) = some (v.ren ρ) := by
    intro o i v y h1 h2
    rw [at_cell, hH o y h1]
    simp only [HO.ren_list, List.getElem?_map, h2, Option.map_some]
  have hslot : ∀ d, (St.mk vals.length (zslots args 0) H).at (.slot d) = args[d]? := fun d => look_zslots0 args d
  have hown : ∀ p e xs, (St.mk vals.length (zslots args 0) H).at p = some (.own e xs) → (∃ (i : Nat) (x : Value), p = .slot i ∧ args[i]? = some (.own e xs) ∧ vals[i]? = some x ∧ (EnvC E ρ H args vals).hdr p = x) ∨
      (∃ o i y, p = .cell o i ∧ look o H = some y ∧ y.list[i]? = some (.own e xs) ∧ s.at (.cell (ρ o) i) = some (.own e xs)) := by
    intro p e xs hp
    cases p with
    | slot d =>
      rw [hslot] at hp
      have hd : d < vals.length := by rw [ha.len]; exact (List.getElem?_eq_some_iff.1 hp).1
      refine .inl ⟨d, vals[d], rfl, hp, List.getElem?_eq_getElem hd, ?_⟩
      simp [EnvC, List.getD_eq_getElem?_getD, hd]
    | part d i =>
      simp only [St.at] at hp
      rw [look_zslots0] at hp
      split at hp
      · rename_i vs hvs
        have hd : d < vals.length := by rw [ha.len]; exact (List.getElem?_eq_some_iff.1 hvs).1
        rcases ha.easy d _ _ hvs (List.getElem?_eq_getElem hd) with ⟨_, _, h1⟩ | ⟨h1, _⟩
        · cases h1
        · simp [SV.easy] at h1
      · cases hp
    | cell o i =>
      obtain ⟨y, h1, h2⟩ := look_at hp
      exact .inr ⟨o, i, y, rfl, h1, h2, hat h1 h2⟩
  refine { place := ?_, obj := ?_, size := by simp, i1 := ?_, i2 := ?_, i3 := ?_, om_lt := ?_, om0 := fun b hb => .inl hb, na := ?_, np := ?_, gr := Grow.refl _ _, flt := ?_, ob := ?_ }
  · intro p v hp
    cases p with
    | slot d =>
      rw [hslot] at hp
      have hd : d < vals.length := by rw [ha.len]; exact (List.getElem?_eq_some_iff.1 hp).1
      have hv : vals[d]? = some vals[d] := List.getElem?_eq_getElem hd
      refine ⟨vals[d], by simp [CV, hd], ?_⟩
      have hh : (EnvC E ρ H args vals).hdr (.slot d) = vals[d] := by simp [EnvC, List.getD_eq_getElem?_getD, hd]
      rcases ha.easy d v _ hp hv with ⟨e, xs, rfl⟩ | ⟨h1, h2, h3⟩
      · obtain ⟨k1, k2⟩ := ha.own d e xs _ hp hv
        simp only [PVal, hh]
        exact ⟨trivial, k1.kept (fun b _ hn => ⟨hA b hn, rfl⟩) (fun _ _ => rfl), fun b hb => .inr (.inr ⟨d, e, xs, _, hp, hv, hb⟩)⟩
      · exact RS.pvalEasy h1 (.inr (h3.grow (fun b _ hn => ⟨hA2 b hn, rfl⟩)))
    | part d i =>
      simp only [St.at] at hp
      rw [look_zslots0] at hp
      split at hp
      · rename_i vs hvs
        have hd : d < vals.length := by rw [ha.len]; exact (List.getElem?_eq_some_iff.1 hvs).1
        rcases ha.easy d _ _ hvs (List.getElem?_eq_getElem hd) with ⟨_, _, h1⟩ | ⟨h1, _⟩
        · cases h1
        · simp [SV.easy] at h1
      · cases hp
    | cell o i =>
      obtain ⟨y, h1, h2⟩ := look_at hp
      have h3 := hat h1 h2
      obtain ⟨x, hx, hv⟩ := h.place _ _ h3
      refine ⟨x, hx, ?_⟩
      have hnon : ∀ q, v.on q = false := by
        intro q
        cases hq : v.on q with
        | false => rfl
        | true =>
          obtain ⟨⟨d, hd⟩, _⟩ := h.na _ _ q h3 (by rw [ren_on]; exact hq)
          cases hd
      cases hve : v.easy with
      | true =>
        have hr : v = .dead ∨ RS P (fun b => E.om b ∨ F b) E w (v.ren ρ) x := by
          cases v <;> simp [SV.easy] at hve <;> first | exact .inl rfl | exact .inr hv
        exact RS.pvalEasy hve (hr.imp id fun h4 => h4.unren hA (fun _ _ => rfl) hnon)
      | false =>
        cases v <;> simp [SV.easy] at hve
        · rename_i e xs
          obtain ⟨k1, k2, k3⟩ := hv
          exact ⟨k1, k2.kept (fun b _ hn => ⟨hA b hn, rfl⟩) (fun _ _ => rfl), fun b hb => .inr (.inl ⟨o, y, i, e, xs, h1, h2, hb⟩)⟩
        · exact hv
  · intro o y hy
    obtain ⟨h1, h2⟩ := h.obj _ _ (hH o y hy)
    refine ⟨.inl ⟨o, y, hy, rfl⟩, ?_⟩
    cases y with
    | cells e cs =>
      obtain ⟨vs, k1, k2, k3⟩ := h2
      exact ⟨vs, k1, by simpa using k2, fun c hc => by rw [← ren_one ρ c]; exact k3 _ (List.mem_map_of_mem hc)⟩
    | mp es =>
      obtain ⟨ms, c, k1, k2, k3⟩ := h2
      exact ⟨ms, c, k1, k2, fun i kv m hk hm => ⟨(k3 i kv m hk hm).1.sub hA, (k3 i kv m hk hm).2.sub hA⟩⟩
  · intro o o' y y' hy hy' he
    exact hinj o o' y y' hy hy' (h.i1 _ _ _ _ (hH o y hy) (hH o' y' hy') he)
  · intro p q e xs e' ys b hp hq hpb hqb
    rcases hown p e xs hp with ⟨i, x, rfl, a1, a2, a3⟩ | ⟨o, i, y, rfl, a1, a2, a3⟩
    · rw [a3] at hpb
      rcases hown q e' ys hq with ⟨j, x', rfl, b1, b2, b3⟩ | ⟨o', j, y', rfl, b1, b2, b3⟩
      · rw [b3] at hqb
        rw [ha.dist i j e xs e' ys x x' b a1 b1 a2 b2 hpb hqb]
      · exact absurd hqb (((ha.own i e xs x a1 a2).2 b hpb).2.2 _ _ _ b3)
    · rcases hown q e' ys hq with ⟨j, x', rfl, b1, b2, b3⟩ | ⟨o', j, y', rfl, b1, b2, b3⟩
      · rw [b3] at hqb
        exact absurd hpb (((ha.own j e' ys x' b1 b2).2 b hqb).2.2 _ _ _ a3)
      · have := h.i2 _ _ _ _ _ _ b a3 b3 hpb hqb
        simp only [Place.cell.injEq] at this
        rw [hinj o o' y y' a1 b1 this.1, this.2]
  · intro p e xs o y b hp hy hpb
    rcases hown p e xs hp with ⟨i, x, rfl, a1, a2, a3⟩ | ⟨o', i, y', rfl, a1, a2, a3⟩
    · rw [a3] at hpb
      exact ((ha.own i e xs x a1 a2).2 b hpb).2.1 _ _ (hH o y hy)
    · exact h.i3 _ _ _ _ _ b a3 (hH o y hy) hpb
  · intro b hb
    exact ⟨(h.om_lt b (hom b hb)).1, fun h1 => h1.2.1 hb⟩
  · intro p v q hp hq
    cases p with
    | slot d =>
      rw [hslot] at hp
      have hd : d < vals.length := by rw [ha.len]; exact (List.getElem?_eq_some_iff.1 hp).1
      rcases ha.easy d v _ hp (List.getElem?_eq_getElem hd) with ⟨e, xs, rfl⟩ | ⟨_, h2, _⟩
      · simp [SV.on] at hq
      · rw [h2 q] at hq; cases hq
    | part d i =>
      simp only [St.at] at hp
      rw [look_zslots0] at hp
      split at hp
      · rename_i vs hvs
        have hd : d < vals.length := by rw [ha.len]; exact (List.getElem?_eq_some_iff.1 hvs).1
        rcases ha.easy d _ _ hvs (List.getElem?_eq_getElem hd) with ⟨_, _, h1⟩ | ⟨h1, _⟩
        · cases h1
        · simp [SV.easy] at h1
      · cases hp
    | cell o i =>
      obtain ⟨y, h1, h2⟩ := look_at hp
      obtain ⟨⟨d, hd⟩, _⟩ := h.na _ _ q (hat h1 h2) (by rw [ren_on]; exact hq)
      cases hd
  · intro p v o hp ho
    cases p with
    | slot d =>
      rw [hslot] at hp
      exact ha.pts d v o hp ho
    | part d i =>
      simp only [St.at] at hp
      rw [look_zslots0] at hp
      split at hp
      · rename_i vs hvs
        have hd : d < vals.length := by rw [ha.len]; exact (List.getElem?_eq_some_iff.1 hvs).1
        rcases ha.easy d _ _ hvs (List.getElem?_eq_getElem hd) with ⟨_, _, h1⟩ | ⟨h1, _⟩
        · cases h1
        · simp [SV.easy] at h1
      · cases hp
    | cell o' i =>
      obtain ⟨y, h1, h2⟩ := look_at hp
      exact hHp o' y v o h1 (List.mem_of_getElem? h2) ho
  · rintro b ⟨h1 | h1, _⟩
    · exact (h.om_lt b h1).1
    · exact Nat.lt_of_lt_of_le (h.flt b h1) h.gr.size
  · intro o b hb
    simp only [obOf] at hb
    split at hb
    · rename_i y hy
      cases hb
      exact ⟨rfl, y, hy⟩
    · cases hb
end
end Go.Ck

set_option linter.unusedVariables false
namespace Go.Ck
open Go.RowKit

mutual
/-- A value that reads no memory. -/
def PV.clo : PV → Bool
  | .sl _ [] => true
  | .sl _ (_ :: _) => false
  | .agg cs => cloL cs
  | .iface _ v => v.clo
  | _ => true
def cloL : List PV → Bool
  | [] => true
  | p :: r => p.clo && cloL r
end
def SV.clo : SV → Bool
  | .pv p => p.clo
  | .own _ xs => cloL xs
  | .agg cs => cs.all fun | .pv p => p.clo | _ => true
  | .fn _ caps => caps.all fun | .pv p => p.clo | _ => true
  | .ra _ _ => false
  | _ => true
def HO.clo : HO → Bool
  | .cells _ cs => cs.all SV.clo
  | .mp es => es.all fun kv => kv.1.clo && kv.2.clo

theorem cloL_mem : ∀ {l : List PV}, cloL l = true → ∀ p ∈ l, p.clo = true
  | [], _, _, h => by cases h
  | q :: r, hl, p, h => by
    simp only [cloL, Bool.and_eq_true] at hl
    rcases List.mem_cons.1 h with rfl | h
    · exact hl.1
    · exact cloL_mem hl.2 p h
theorem clo_cells {p : PV} (h : p.clo = true) : ∀ c ∈ p.cells, c.clo = true := by
  intro c hc
  cases p <;> simp only [PV.cells] at hc
  case agg cs => simp only [PV.clo] at h; exact cloL_mem h c hc
  all_goals (simp at hc; subst hc; exact h)

theorem RO.clo {A A' : Nat → Prop} {w : World} {p : PV} {x : Value} (hr : RO A w p x) (hc : p.clo = true) : RO A' w p x := by
  induction hr with
  | int k n => exact .int k n
  | bool b => exact .bool b
  | str s => exact .str s
  | sl z xs vs a cap hl h1 hr hm hz hb hcap ih =>
    cases xs with
    | cons x r => simp [PV.clo] at hc
    | nil =>
      have : vs = [] := List.eq_nil_of_length_eq_zero (by simpa [flat] using hl)
      subst this
      exact .sl z [] [] a cap rfl (by simp [flat]) (by simp) (by simp) (by simp) hb hcap
  | agg cs vs hl h1 hr ih =>
    simp only [PV.clo] at hc
    exact .agg cs vs hl h1 (fun i c v hi hv => ih i c v hi hv (cloL_mem hc c (List.mem_of_getElem? hi)))
  | iface t v x h ih => simp only [PV.clo] at hc; exact .iface t v x (ih hc)
  | nili => exact .nili
  | nilp => exact .nilp
  | nilf => exact .nilf
theorem ROs.clo {A A' : Nat → Prop} {w : World} {ps : List PV} {xs : List Value} (hr : ROs A w ps xs) (hc : ∀ p ∈ ps, p.clo = true) : ROs A' w ps xs :=
  ⟨hr.1, hr.2.1, fun i c v h1 h2 => (hr.2.2 i c v h1 h2).clo (hc c (List.mem_of_getElem? h1))⟩
theorem OwnL.clo {P : Program} {A A' : Nat → Prop} {w : World} {e : TypeId} {x : Value} {xs : List PV} (h : OwnL P A w e x xs) (hc : cloL xs = true) : OwnL P A' w e x xs := by
  obtain ⟨cs, h1, h2, h3, h4⟩ := h
  refine ⟨cs, h1, h2.clo (fun p hp => ?_), h3, h4⟩
  simp only [flat, List.mem_flatMap] at hp
  obtain ⟨q, hq, hp⟩ := hp
  exact clo_cells (cloL_mem hc q hq) p hp

section
variable {P : Program}

theorem RS.clo {A A' : Nat → Prop} {E : Env} {w : World} {v : SV} {x : Value} (h : RS P A E w v x) (hc : v.clo = true) : RS P A' E w v x := by
  cases h with
  | pv p x h => exact .pv p x (h.clo hc)
  | nils => exact .nils
  | al q => exact .al q
  | vw q e off n x h => exact .vw q e off n x h
  | ptr o off => exact .ptr o off
  | ea q e i j b h => exact .ea q e i j b h
  | ra c j vs ad hs h hm => simp [SV.clo] at hc
  | fn f caps vs hl h1 h =>
    refine .fn f caps vs hl h1 (fun i c v hi hv => ?_)
    have h2 := h i c v hi hv
    have hm := List.mem_of_getElem? hi
    have h3 := List.all_eq_true.1 h1 c hm
    simp only [SV.clo] at hc
    have h4 := List.all_eq_true.1 hc c hm
    cases c <;> simp [SV.simple] at h3
    · cases h2 with | pv _ _ h2 => exact .pv _ _ (h2.clo h4)
    · cases h2; exact .ptr _ _
  | agg cs vs hl h1 h =>
    refine .agg cs vs hl h1 (fun i c v hi hv => ?_)
    have hm := List.mem_of_getElem? hi
    have h2 := CP.ofRS h1 hm (h i c v hi hv)
    simp only [SV.clo] at hc
    have h4 := List.all_eq_true.1 hc c hm
    cases c <;> simp only [CP] at h2
    · exact .pv _ _ (h2.2.clo h4)
    · subst h2; exact .nils
  | mp o => exact .mp o
  | yl l => exact .yl l

/-- A value in another view. -/
theorem RS.move {A A' : Nat → Prop} {E E' : Env} {w w' : World} {v : SV} {x : Value} (h : RS P A E w v x) (hg : ∀ b, b < w.heap.size → ¬ A b → ¬ A' b ∧ w'.heap[b]? = w.heap[b]?) (hob : ∀ o, v.pts o = true → E'.obj o = E.obj o) (hh : ∀ q, v.on q = true → E'.hdr q = E.hdr q) : RS P A' E' w' v x := by
  induction h with
  | pv q y h => exact .pv q y (h.mono hg)
  | nils => exact .nils
  | al q => rw [← hh q (by simp [SV.on])]; exact .al q
  | vw q e off n y h => exact .vw q e off n y (by rw [hh q (by simp [SV.on])]; exact h)
  | ptr o off => rw [← hob o (by simp [SV.pts])]; exact .ptr o off
  | ea q e i j b h => exact .ea q e i j b (by rw [hh q (by simp [SV.on])]; exact h)
  | ra c j vs ad hs h hm =>
    refine .ra c j vs ad hs (h.mono hg) (fun i v hv => ?_)
    obtain ⟨hA, hc⟩ := hm i v hv
    obtain ⟨hA', hb⟩ := hg _ (World.block_lt_of_cell? w _ hc) hA
    exact ⟨hA', by rw [World.cell?_of_block (w := w) hb]; exact hc⟩
  | fn f caps vs hl h1 h ih =>
    refine .fn f caps vs hl h1 (fun i c v hc hv => ih i c v hc hv (fun o ho => hob o ?_) (fun q hq => ?_))
    · have hm := List.mem_of_getElem? hc
      have h3 := List.all_eq_true.1 h1 c hm
      cases c <;> simp [SV.simple] at h3 <;> simp [SV.pts] at ho
      subst ho
      simp only [SV.pts, List.any_eq_true]
      exact ⟨_, hm, by simp⟩
    · have h3 := List.all_eq_true.1 h1 c (List.mem_of_getElem? hc)
      cases c <;> simp [SV.simple] at h3 <;> simp [SV.on] at hq
  | agg cs vs hl h1 h ih =>
    obtain hpl := fun (c : SV) hc => allPlain_pts h1 c hc
    refine .agg cs vs hl h1 (fun i c v hc hv => ih i c v hc hv (fun o ho => ?_) (fun q hq => ?_))
    · rw [(hpl c (List.mem_of_getElem? hc)).1 o] at ho; cases ho
    · rw [(hpl c (List.mem_of_getElem? hc)).2.1 q] at hq; cases hq
  | mp o => rw [← hob o (by simp [SV.pts])]; exact .mp o
  | yl l => exact .yl l

theorem ren_pts {ρ : Nat → Nat} {v : SV} {q : Nat} (h : (v.ren ρ).pts q = true) : ∃ o, v.pts o = true ∧ ρ o = q := by
  cases v <;> simp [SV.ren, SV.pts] at h
  case ptr o off => exact ⟨o, by simp [SV.pts], h⟩
  case mp o => exact ⟨o, by simp [SV.pts], h⟩
  case fn f caps =>
    obtain ⟨c, hc, h1⟩ := h
    cases c <;> simp [SV.ren1] at h1
    rename_i o off
    exact ⟨o, by simp only [SV.pts, List.any_eq_true]; exact ⟨_, hc, by simp⟩, h1⟩
end
end Go.Ck

set_option linter.unusedVariables false
namespace Go.Ck
open Go.RowKit

open Classical in
/-- The caller's view behind a call. -/
noncomputable def EnvX (E E' : Env) (ρ : Nat → Nat) (H' : List (Nat × HO)) (Om : Nat → Prop) : Env where
  obj q := if h : ∃ o, (∃ y, look o H' = some y) ∧ ρ o = q then E'.obj (Classical.choose h) else E.obj q
  hdr p := match p with
    | .cell q i => if h : ∃ o, (∃ y, look o H' = some y) ∧ ρ o = q then E'.hdr (.cell (Classical.choose h) i) else E.hdr (.cell q i)
    | p => E.hdr p
  om b := (E.om b ∧ ¬ Om b) ∨ E'.om b

section
variable {E E' : Env} {ρ : Nat → Nat} {H' : List (Nat × HO)} {Om : Nat → Prop}
theorem EnvX.obj_in (hinj : ∀ o o' y y', look o H' = some y → look o' H' = some y' → ρ o = ρ o' → o = o') {o : Nat} {y : HO} (hy : look o H' = some y) : (EnvX E E' ρ H' Om).obj (ρ o) = E'.obj o := by
  have hex : ∃ o', (∃ y, look o' H' = some y) ∧ ρ o' = ρ o := ⟨o, ⟨y, hy⟩, rfl⟩
  simp only [EnvX]
  rw [dif_pos hex]
  obtain ⟨⟨y', h1⟩, h2⟩ := Classical.choose_spec hex
  rw [hinj _ _ _ _ h1 hy h2]
theorem EnvX.hdr_in (hinj : ∀ o o' y y', look o H' = some y → look o' H' = some y' → ρ o = ρ o' → o = o') {o i : Nat} {y : HO} (hy : look o H' = some y) : (EnvX E E' ρ H' Om).hdr (.cell (ρ o) i) = E'.hdr (.cell o i) := by
  have hex : ∃ o', (∃ y, look o' H' = some y) ∧ ρ o' = ρ o := ⟨o, ⟨y, hy⟩, rfl⟩
  simp only [EnvX]
  rw [dif_pos hex]
  obtain ⟨⟨y', h1⟩, h2⟩ := Classical.choose_spec hex
  rw [hinj _ _ _ _ h1 hy h2]
theorem EnvX.obj_out {q : Nat} (hq : ∀ o y, look o H' = some y → ρ o ≠ q) : (EnvX E E' ρ H' Om).obj q = E.obj q := by
  simp only [EnvX]
  rw [dif_neg]
  rintro ⟨o, ⟨y, h1⟩, h2⟩
  exact hq o y h1 h2
theorem EnvX.hdr_out {p : Place} (hq : ∀ o y i, look o H' = some y → p ≠ .cell (ρ o) i) : (EnvX E E' ρ H' Om).hdr p = E.hdr p := by
  cases p with
  | slot d => rfl
  | part d i => rfl
  | cell q i =>
    simp only [EnvX]
    rw [dif_neg]
    rintro ⟨o, ⟨y, h1⟩, h2⟩
    exact hq o y i h1 (by rw [h2])
end

section
variable {P : Program} {O0 : Base} {F : Nat → Prop} {w0 w w' : World} {s : St} {E E' : Env} {tmps : Array Value}

/-- Behind a call. -/
theorem leave (h : Rel P O0 w0 F s E tmps w) {ρ : Nat → Nat} {H H' : List (Nat × HO)} {Lt : Nat → Prop} {args rs : List SV} {vals us : List Value}
    (hH : ∀ o y, look o H = some y → look (ρ o) s.hp = some (y.ren ρ))
    (hLt : ∀ b, Lt b → E.om b) (ha : Args P (fun b => E.om b ∨ F b) s E ρ H Lt w args vals)
    (hinj : ∀ o o' y y', look o H' = some y → look o' H' = some y' → ρ o = ρ o' → o = o')
    (hnew : ∀ o y, look o H' = some y → look o H = none → look (ρ o) s.hp = none)
    (hhang : ∀ p v q, s.at p = some v → v.on q = true → ∀ o y i, look o H' = some y → q ≠ .cell (ρ o) i)
    (hR : Rel P ⟨OmC E ρ H args vals, obOf (EnvC E ρ H args vals) H⟩ w (fun b => (E.om b ∨ F b) ∧ ¬ OmC E ρ H args vals b ∧ ¬ Lt b) ⟨us.length, zslots rs 0, H'⟩ E' us.toArray w')
    (hclo : (∀ b, ¬ Lt b) ∨ ((∀ r ∈ rs, r.clo = true) ∧ ∀ o y, look o H' = some y → y.clo = true))
    {hp : List (Nat × HO)} (hp1 : ∀ o y, look o H' = some y → look (ρ o) hp = some (y.ren ρ)) (hp2 : ∀ q, (∀ o y, look o H' = some y → ρ o ≠ q) → look q hp = look q s.hp) :
    let E1 := EnvX E E' ρ H' (OmC E ρ H args vals)
    Rel P O0 w0 F ⟨s.n, s.sl, hp⟩ E1 tmps w' ∧ ∀ (i : Nat) (r : SV) (x : Value), rs[i]? = some r → us[i]? = some x →
      (∀ e xs, r = .own e xs → OwnL P (fun b => E1.om b ∨ F b) w' e x xs ∧ (∀ b, x.ownBlock = some b → E1.om b ∧ Unused ⟨s.n, s.sl, hp⟩ E1 b) ∧
        ∀ (j : Nat) (e' : TypeId) (ys : List PV) (y : Value) (b : Nat), rs[j]? = some (.own e' ys) → us[j]? = some y → x.ownBlock = some b → y.ownBlock = some b → i = j) ∧
      (r.easy = true → (∀ q, r.on q = false) → r = .dead ∨ RS P (fun b => E1.om b ∨ F b) E1 w' (r.ren ρ) x) ∧ ∀ o, r.pts o = true → ∃ z, look (ρ o) hp = some z := by
  intro E1
  have hom : ∀ b, OmC E ρ H args vals b → E.om b := fun b hb => OmC_om h ha hH hb
  have hE'om : ∀ b, E'.om b → OmC E ρ H args vals b ∨ w.heap.size ≤ b := hR.om0
  have hHin : ∀ o y, look o H = some y → E'.obj o = E.obj (ρ o) ∧ ∃ z, look o H' = some z := by
    intro o y hy
    exact hR.ob o (E.obj (ρ o)) (by simp only [obOf, hy]; rfl)
  have hgr := hR.gr
  -- the views
  have hAold : ∀ b, b < w.heap.size → ¬ (E.om b ∨ F b) → ¬ (E1.om b ∨ F b) ∧ w'.heap[b]? = w.heap[b]? := by
    intro b hb hn
    refine ⟨?_, hgr.block b hb (fun hc => hn (.inl (hom b hc)))⟩
    rintro ((h1 | h1) | h1)
    · exact hn (.inl h1.1)
    · rcases hE'om b h1 with h2 | h2
      · exact hn (.inl (hom b h2))
      · omega
    · exact hn (.inr h1)
  have hAnew : (∀ b, ¬ Lt b) → ∀ b, ¬ (E'.om b ∨ ((E.om b ∨ F b) ∧ ¬ OmC E ρ H args vals b ∧ ¬ Lt b)) → ¬ (E1.om b ∨ F b) := by
    rintro hl b hn ((h1 | h1) | h1)
    · exact hn (.inr ⟨.inl h1.1, h1.2, hl b⟩)
    · exact hn (.inl h1)
    · refine hn (.inr ⟨.inr h1, fun hc => ?_, hl b⟩)
      exact (h.om_lt b (hom b hc)).2 h1
  have hRS : ∀ {v x}, RS P (fun b => E'.om b ∨ ((E.om b ∨ F b) ∧ ¬ OmC E ρ H args vals b ∧ ¬ Lt b)) E' w' v x → (∀ b, ¬ Lt b) ∨ v.clo = true → RS P (fun b => E1.om b ∨ F b) E' w' v x := by
    intro v x hv hc
    rcases hc with hc | hc
    · exact hv.grow (fun b _ hn => ⟨hAnew hc b hn, rfl⟩)
    · exact hv.clo hc
  have hOL : ∀ {e x xs}, OwnL P (fun b => E'.om b ∨ ((E.om b ∨ F b) ∧ ¬ OmC E ρ H args vals b ∧ ¬ Lt b)) w' e x xs → (∀ b, ¬ Lt b) ∨ cloL xs = true → OwnL P (fun b => E1.om b ∨ F b) w' e x xs := by
    intro e x xs hv hc
    rcases hc with hc | hc
    · exact hv.kept (fun b _ hn => ⟨hAnew hc b hn, rfl⟩) (fun _ _ => rfl)
    · exact hv.clo hc
  -- what the call was not handed
  have hno : ∀ q y, look q s.hp = some y → (∀ o y, look o H' = some y → ρ o ≠ q) → ¬ OmC E ρ H args vals (E.obj q) := by
    rintro q y hq hn (⟨o, z, h1, h2⟩ | ⟨o, z, i, e, xs, h1, h2, h3⟩ | ⟨i, e, xs, x, h1, h2, h3⟩)
    · have := h.i1 _ _ _ _ (hH o z h1) hq h2
      obtain ⟨_, z', hz'⟩ := hHin o z h1
      exact hn o z' hz' this
    · have hat : s.at (.cell (ρ o) i) = some (.own e xs) := by
        rw [at_cell, hH o z h1]
        simp only [HO.ren_list, List.getElem?_map, h2, Option.map_some]; rfl
      exact h.i3 _ _ _ _ _ _ hat hq h3 rfl
    · exact ((ha.own i e xs x h1 h2).2 _ h3).2.1 q y hq rfl
  have hnown : ∀ p e xs b, s.at p = some (.own e xs) → (∀ o y i, look o H' = some y → p ≠ .cell (ρ o) i) → (E.hdr p).ownBlock = some b → ¬ OmC E ρ H args vals b := by
    rintro p e xs b hp hn hb (⟨o, z, h1, h2⟩ | ⟨o, z, i, e', ys, h1, h2, h3⟩ | ⟨i, e', ys, x, h1, h2, h3⟩)
    · exact h.i3 _ _ _ _ _ _ hp (hH o z h1) hb h2
    · have hat : s.at (.cell (ρ o) i) = some (.own e' ys) := by
        rw [at_cell, hH o z h1]
        simp only [HO.ren_list, List.getElem?_map, h2, Option.map_some]; rfl
      obtain ⟨_, z', hz'⟩ := hHin o z h1
      exact hn o z' i hz' (h.i2 _ _ _ _ _ _ _ hp hat hb h3)
    · exact ((ha.own i e' ys x h1 h2).2 _ h3).2.2 p e xs hp hb
  -- objects
  have hobjold : ∀ q y, look q s.hp = some y → E1.obj q = E.obj q := by
    intro q y hq
    by_cases hex : ∃ o z, look o H' = some z ∧ ρ o = q
    · obtain ⟨o, z, h1, rfl⟩ := hex
      have h2 : E1.obj (ρ o) = E'.obj o := EnvX.obj_in hinj h1
      rw [h2]
      cases hl : look o H with
      | none => rw [hnew o z h1 hl] at hq; cases hq
      | some z' => exact (hHin o z' hl).1
    · exact EnvX.obj_out (fun o z h1 h2 => hex ⟨o, z, h1, h2⟩)
  have hhp : ∀ q y, look q hp = some y → (∃ o y0, look o H' = some y0 ∧ q = ρ o ∧ y = y0.ren ρ) ∨ ((∀ o y0, look o H' = some y0 → ρ o ≠ q) ∧ look q s.hp = some y) := by
    intro q y hq
    by_cases hex : ∃ o z, look o H' = some z ∧ ρ o = q
    · obtain ⟨o, z, h1, rfl⟩ := hex
      rw [hp1 o z h1] at hq
      cases hq
      exact .inl ⟨o, z, h1, rfl, rfl⟩
    · have hn : ∀ o y0, look o H' = some y0 → ρ o ≠ q := fun o z h1 h2 => hex ⟨o, z, h1, h2⟩
      rw [hp2 q hn] at hq
      exact .inr ⟨hn, hq⟩
  have hhp' : ∀ q y, look q s.hp = some y → ∃ y', look q hp = some y' := by
    intro q y hq
    by_cases hex : ∃ o z, look o H' = some z ∧ ρ o = q
    · obtain ⟨o, z, h1, rfl⟩ := hex
      exact ⟨_, hp1 o z h1⟩
    · exact ⟨y, by rw [hp2 q (fun o z h1 h2 => hex ⟨o, z, h1, h2⟩)]; exact hq⟩
  have hatc : ∀ {q i v}, (St.mk s.n s.sl hp).at (.cell q i) = some v → (∃ o y v0, look o H' = some y ∧ q = ρ o ∧ y.list[i]? = some v0 ∧ v = v0.ren ρ ∧ (St.mk us.length (zslots rs 0) H').at (.cell o i) = some v0) ∨
      ((∀ o y0, look o H' = some y0 → ρ o ≠ q) ∧ s.at (.cell q i) = some v) := by
    intro q i v hv
    obtain ⟨y, hy, hl⟩ := look_at hv
    rcases hhp q y hy with ⟨o, y0, h1, rfl, rfl⟩ | ⟨h1, h2⟩
    · rw [HO.ren_list, List.getElem?_map, Option.map_eq_some_iff] at hl
      obtain ⟨v0, h3, rfl⟩ := hl
      exact .inl ⟨o, y0, v0, h1, rfl, h3, rfl, by rw [at_cell]; simp only [h1]; exact h3⟩
    · exact .inr ⟨h1, by rw [at_cell, h2]; exact hl⟩
  have hnoncell : ∀ {p}, (∀ q i, p ≠ .cell q i) → (St.mk s.n s.sl hp).at p = s.at p := by
    intro p hp'
    cases p with
    | slot d => rfl
    | part d i => rfl
    | cell q i => exact absurd rfl (hp' q i)
  have hcnon : ∀ {o i v0}, (St.mk us.length (zslots rs 0) H').at (.cell o i) = some v0 → ∀ q, v0.on q = false := by
    intro o i v0 hv q
    cases hq : v0.on q with
    | false => rfl
    | true => obtain ⟨⟨d, hd⟩, _⟩ := hR.na _ _ q hv hq; cases hd
  have hcloH : ∀ {o : Nat} {y : HO} {v0 : SV} {i : Nat}, look o H' = some y → y.list[i]? = some v0 → (∀ b, ¬ Lt b) ∨ v0.clo = true := by
    intro o y v0 i hy hv
    rcases hclo with hc | hc
    · exact .inl hc
    · right
      have := hc.2 o y hy
      cases y with
      | cells e cs => exact List.all_eq_true.1 this _ (List.mem_of_getElem? hv)
      | mp es => simp [HO.list] at hv
  have hown : ∀ p e xs b, (St.mk s.n s.sl hp).at p = some (.own e xs) → (E1.hdr p).ownBlock = some b → (∃ o y i, look o H' = some y ∧ p = .cell (ρ o) i ∧ (St.mk us.length (zslots rs 0) H').at (.cell o i) = some (.own e xs) ∧ (E'.hdr (.cell o i)).ownBlock = some b ∧ E'.om b) ∨
      ((∀ o y i, look o H' = some y → p ≠ .cell (ρ o) i) ∧ s.at p = some (.own e xs) ∧ (E.hdr p).ownBlock = some b ∧ ¬ OmC E ρ H args vals b ∧ E.om b) := by
    intro p e xs b hp' hb
    have old : (∀ o y i, look o H' = some y → p ≠ .cell (ρ o) i) → s.at p = some (.own e xs) → (∀ o y i, look o H' = some y → p ≠ .cell (ρ o) i) ∧ s.at p = some (.own e xs) ∧ (E.hdr p).ownBlock = some b ∧ ¬ OmC E ρ H args vals b ∧ E.om b := by
      intro h1 h2
      have h3 : E1.hdr p = E.hdr p := EnvX.hdr_out h1
      rw [h3] at hb
      obtain ⟨_, _, _, _, h4⟩ := h.place p _ h2
      exact ⟨h1, h2, hb, hnown p e xs b h2 h1 hb, h4 b hb⟩
    cases p with
    | slot d => exact .inr (old (by simp) hp')
    | part d i => exact .inr (old (by simp) hp')
    | cell q i =>
      rcases hatc hp' with ⟨o, y, v0, h1, rfl, h3, h4, h5⟩ | ⟨h1, h2⟩
      · have h6 : v0 = .own e xs := ren_own.1 h4.symm
        subst h6
        have h7 : E1.hdr (.cell (ρ o) i) = E'.hdr (.cell o i) := EnvX.hdr_in hinj h1
        rw [h7] at hb
        obtain ⟨_, _, _, _, h8⟩ := hR.place _ _ h5
        exact .inl ⟨o, y, i, h1, rfl, h5, hb, h8 b hb⟩
      · exact .inr (old (fun o y j ho he => h1 o y ho (by simp at he; exact he.1.symm)) h2)
  have hrel : Rel P O0 w0 F ⟨s.n, s.sl, hp⟩ E1 tmps w' := by
    refine { place := ?_, obj := ?_, size := h.size, i1 := ?_, i2 := ?_, i3 := ?_, om_lt := ?_, om0 := ?_, na := ?_, np := ?_, gr := ?_, flt := h.flt, ob := ?_ }
    · intro p v hp'
      have old : (∀ o y i, look o H' = some y → p ≠ .cell (ρ o) i) → s.at p = some v → ∃ x, CV E tmps w p x ∧ PVal P (fun b => E1.om b ∨ F b) E1 w' p v x := by
        intro h1 h2
        obtain ⟨x, hx, hv⟩ := h.place p v h2
        have h3 : E1.hdr p = E.hdr p := EnvX.hdr_out h1
        refine ⟨x, hx, ?_⟩
        have hmv : RS P (fun b => E.om b ∨ F b) E w v x → RS P (fun b => E1.om b ∨ F b) E1 w' v x := fun h4 =>
          h4.move hAold (fun o ho => by obtain ⟨y, hy⟩ := h.np p v o h2 ho; exact hobjold o y hy) (fun q hq => EnvX.hdr_out (hhang p v q h2 hq))
        cases v <;> simp only [PVal] at hv ⊢
        case own e xs =>
          obtain ⟨k1, k2, k3⟩ := hv
          rw [h3]
          refine ⟨k1, k2.kept hAold (fun b hb => hgr.block b (h.om_lt b (k3 b hb)).1 (hnown p e xs b h2 h1 hb)), fun b hb => .inl ⟨k3 b hb, hnown p e xs b h2 h1 hb⟩⟩
        case tup vs => exact hv
        all_goals exact hmv hv
      cases p with
      | slot d => exact old (by simp) hp'
      | part d i => exact old (by simp) hp'
      | cell q i =>
        rcases hatc hp' with ⟨o, y, v0, h1, rfl, h3, rfl, h5⟩ | ⟨h1, h2⟩
        · obtain ⟨x, hx, hv⟩ := hR.place _ _ h5
          have h6 : E1.obj (ρ o) = E'.obj o := EnvX.obj_in hinj h1
          have h7 : E1.hdr (.cell (ρ o) i) = E'.hdr (.cell o i) := EnvX.hdr_in hinj h1
          refine ⟨x, by simp only [CV, h6]; exact hx, ?_⟩
          cases hve : v0.easy with
          | true =>
            have hr : v0 = .dead ∨ RS P (fun b => E'.om b ∨ ((E.om b ∨ F b) ∧ ¬ OmC E ρ H args vals b ∧ ¬ Lt b)) E' w' v0 x := by
              cases v0 <;> simp [SV.easy] at hve <;> first | exact .inl rfl | exact .inr hv
            have he2 : (v0.ren ρ).easy = true := by cases v0 <;> simp [SV.easy] at hve <;> rfl
            refine RS.pvalEasy he2 (hr.imp (fun h8 => by subst h8; rfl) fun h8 => (hRS h8 (hcloH h1 h3)).ren (fun _ hn => hn) (fun o' ho' => ?_) (hcnon h5))
            obtain ⟨z, hz⟩ := hR.np _ _ o' h5 ho'
            exact EnvX.obj_in hinj hz
          | false =>
            cases v0 <;> simp [SV.easy] at hve
            · rename_i e xs
              obtain ⟨k1, k2, k3⟩ := hv
              simp only [SV.ren, PVal]
              rw [h7]
              exact ⟨k1, hOL k2 (hcloH h1 h3), fun b hb => .inr (k3 b hb)⟩
            · exact hv
        · obtain ⟨x, hx, hv⟩ := old (fun o y j ho he => h1 o y ho (by simp at he; exact he.1.symm)) h2
          refine ⟨x, ?_, hv⟩
          obtain ⟨y, hy, _⟩ : ∃ y, look q s.hp = some y ∧ True := by
            rw [at_cell] at h2
            split at h2
            · rename_i y hy; exact ⟨y, hy, trivial⟩
            · cases h2
          have h6 : E1.obj q = E.obj q := EnvX.obj_out h1
          simp only [CV, h6] at hx ⊢
          have hb := hgr.block (E.obj q) (h.om_lt _ (h.obj q y hy).1).1 (hno q y hy h1)
          exact (World.cell?_of_block (w := w) (a := ⟨E.obj q, i, none⟩) hb).trans hx
    · intro q y hy
      rcases hhp q y hy with ⟨o, y0, h1, rfl, rfl⟩ | ⟨h1, h2⟩
      · have h6 : E1.obj (ρ o) = E'.obj o := EnvX.obj_in hinj h1
        obtain ⟨k1, k2⟩ := hR.obj o y0 h1
        refine ⟨by rw [h6]; exact .inr k1, ?_⟩
        cases y0 with
        | cells e cs =>
          obtain ⟨vs, k3, k4, k5⟩ := k2
          refine ⟨vs, by rw [h6]; exact k3, by simpa using k4, fun c hc => ?_⟩
          obtain ⟨c0, hc0, rfl⟩ := List.mem_map.1 hc
          rw [ren_one]; exact k5 c0 hc0
        | mp es =>
          obtain ⟨ms, c, k3, k4, k5⟩ := k2
          refine ⟨ms, c, by rw [h6]; exact k3, k4, fun i kv m hk hm => ?_⟩
          have k6 := k5 i kv m hk hm
          rcases hclo with hc | hc
          · exact ⟨k6.1.sub (hAnew hc), k6.2.sub (hAnew hc)⟩
          · have h9 := hc.2 o _ h1
            simp only [HO.clo] at h9
            have h10 := List.all_eq_true.1 h9 kv (List.mem_of_getElem? hk)
            simp only [Bool.and_eq_true] at h10
            exact ⟨k6.1.clo h10.1, k6.2.clo h10.2⟩
      · have h6 : E1.obj q = E.obj q := EnvX.obj_out h1
        obtain ⟨k1, k2⟩ := h.obj q y h2
        have hn := hno q y h2 h1
        refine ⟨by rw [h6]; exact .inl ⟨k1, hn⟩, ?_⟩
        have hb := hgr.block (E.obj q) (h.om_lt _ k1).1 hn
        cases y with
        | cells e cs =>
          obtain ⟨vs, k3, k4⟩ := k2
          exact ⟨vs, by rw [h6]; exact hb.trans k3, k4⟩
        | mp es =>
          obtain ⟨ms, c, k3, k4, k5⟩ := k2
          exact ⟨ms, c, by rw [h6]; exact hb.trans k3, k4, fun i kv m hk hm => ⟨(k5 i kv m hk hm).1.mono hAold, (k5 i kv m hk hm).2.mono hAold⟩⟩
    · intro q q' y y' hy hy' he
      rcases hhp q y hy with ⟨o, y0, h1, rfl, rfl⟩ | ⟨h1, h2⟩
      · have h6 : E1.obj (ρ o) = E'.obj o := EnvX.obj_in hinj h1
        rcases hhp q' y' hy' with ⟨o', y0', h1', rfl, rfl⟩ | ⟨h1', h2'⟩
        · have h6' : E1.obj (ρ o') = E'.obj o' := EnvX.obj_in hinj h1'
          rw [h6, h6'] at he
          rw [hR.i1 o o' _ _ h1 h1' he]
        · have h6' : E1.obj q' = E.obj q' := EnvX.obj_out h1'
          rw [h6, h6'] at he
          have k1 := (hR.obj o y0 h1).1
          have k2 := (h.om_lt _ (h.obj q' y' h2').1).1
          rcases hE'om _ k1 with k3 | k3
          · rw [he] at k3; exact absurd k3 (hno q' y' h2' h1')
          · omega
      · have h6 : E1.obj q = E.obj q := EnvX.obj_out h1
        rcases hhp q' y' hy' with ⟨o', y0', h1', rfl, rfl⟩ | ⟨h1', h2'⟩
        · have h6' : E1.obj (ρ o') = E'.obj o' := EnvX.obj_in hinj h1'
          rw [h6, h6'] at he
          have k1 := (hR.obj o' y0' h1').1
          have k2 := (h.om_lt _ (h.obj q y h2).1).1
          rcases hE'om _ k1 with k3 | k3
          · rw [← he] at k3; exact absurd k3 (hno q y h2 h1)
          · omega
        · have h6' : E1.obj q' = E.obj q' := EnvX.obj_out h1'
          rw [h6, h6'] at he
          exact h.i1 q q' y y' h2 h2' he
    · intro p q e xs e' ys b hp' hq' hpb hqb
      rcases hown p e xs b hp' hpb with ⟨o, y, i, h1, rfl, h3, h4, h5⟩ | ⟨h1, h2, h3, h4, h5⟩
      · rcases hown q e' ys b hq' hqb with ⟨o', y', i', k1, rfl, k3, k4, k5⟩ | ⟨k1, k2, k3, k4, k5⟩
        · have := hR.i2 _ _ _ _ _ _ b h3 k3 h4 k4
          simp only [Place.cell.injEq] at this
          rw [this.1, this.2]
        · rcases hE'om b h5 with k6 | k6
          · exact absurd k6 k4
          · have := (h.om_lt b k5).1; omega
      · rcases hown q e' ys b hq' hqb with ⟨o', y', i', k1, rfl, k3, k4, k5⟩ | ⟨k1, k2, k3, k4, k5⟩
        · rcases hE'om b k5 with k6 | k6
          · exact absurd k6 h4
          · have := (h.om_lt b h5).1; omega
        · exact h.i2 _ _ _ _ _ _ b h2 k2 h3 k3
    · intro p e xs q y b hp' hy hpb
      rcases hown p e xs b hp' hpb with ⟨o, y1, i, h1, rfl, h3, h4, h5⟩ | ⟨h1, h2, h3, h4, h5⟩
      · rcases hhp q y hy with ⟨o', y0', h1', rfl, rfl⟩ | ⟨h1', h2'⟩
        · rw [show E1.obj (ρ o') = E'.obj o' from EnvX.obj_in hinj h1']
          exact hR.i3 _ _ _ _ _ b h3 h1' h4
        · rw [show E1.obj q = E.obj q from EnvX.obj_out h1']
          rintro rfl
          rcases hE'om _ h5 with k6 | k6
          · exact hno q y h2' h1' k6
          · have := (h.om_lt _ (h.obj q y h2').1).1; omega
      · rcases hhp q y hy with ⟨o', y0', h1', rfl, rfl⟩ | ⟨h1', h2'⟩
        · rw [show E1.obj (ρ o') = E'.obj o' from EnvX.obj_in hinj h1']
          rintro rfl
          have k1 := (hR.obj o' y0' h1').1
          rcases hE'om _ k1 with k6 | k6
          · exact h4 k6
          · have := (h.om_lt _ h5).1; omega
        · rw [show E1.obj q = E.obj q from EnvX.obj_out h1']
          exact h.i3 _ _ _ _ _ b h2 h2' h3
    · rintro b (⟨hb, _⟩ | hb)
      · have := h.om_lt b hb
        exact ⟨Nat.lt_of_lt_of_le this.1 hgr.size, this.2⟩
      · refine ⟨(hR.om_lt b hb).1, fun hf => ?_⟩
        rcases hE'om b hb with k | k
        · exact (h.om_lt b (hom b k)).2 hf
        · have h1 := h.flt b hf
          have h2 := h.gr.size
          omega
    · rintro b (⟨hb, _⟩ | hb)
      · exact h.om0 b hb
      · rcases hE'om b hb with k | k
        · exact h.om0 b (hom b k)
        · have h2 := h.gr.size
          exact .inr (by omega)
    · intro p v q hp' hq
      have old : s.at p = some v → (∃ d, p = .slot d) ∧ (∃ e xs, (St.mk s.n s.sl hp).at q = some (.own e xs)) ∧ ∀ d i, q ≠ .part d i := by
        intro h1
        obtain ⟨k1, ⟨e, xs, k2⟩, k3⟩ := h.na p v q h1 hq
        refine ⟨k1, ⟨e, xs, ?_⟩, k3⟩
        cases q with
        | slot d => exact k2
        | part d i => exact k2
        | cell q' i =>
          have hn : ∀ o y, look o H' = some y → ρ o ≠ q' := fun o y ho he => hhang p v _ h1 hq o y i ho (by rw [he])
          rw [at_cell] at k2 ⊢
          rw [show look q' (St.mk s.n s.sl hp).hp = look q' s.hp from hp2 q' hn]
          exact k2
      cases p with
      | slot d => exact old hp'
      | part d i => exact old hp'
      | cell q' i =>
        rcases hatc hp' with ⟨o, y, v0, h1, rfl, h3, rfl, h5⟩ | ⟨h1, h2⟩
        · rw [ren_on, hcnon h5 q] at hq; cases hq
        · exact old h2
    · intro p v q hp' hq
      have old : s.at p = some v → ∃ y, look q hp = some y := by
        intro h1
        obtain ⟨y, hy⟩ := h.np p v q h1 hq
        exact hhp' q y hy
      cases p with
      | slot d => exact old hp'
      | part d i => exact old hp'
      | cell q' i =>
        rcases hatc hp' with ⟨o, y, v0, h1, rfl, h3, rfl, h5⟩ | ⟨h1, h2⟩
        · obtain ⟨o', ho', rfl⟩ := ren_pts hq
          obtain ⟨z, hz⟩ := hR.np _ _ o' h5 ho'
          exact ⟨_, hp1 o' z hz⟩
        · exact old h2
    · exact h.gr.trans hgr (fun b hb => h.om0 b (hom b hb))
    · intro o b hb
      obtain ⟨h1, y, hy⟩ := h.ob o b hb
      exact ⟨by rw [hobjold o y hy]; exact h1, hhp' o y hy⟩
  refine ⟨hrel, fun i r x hr hx => ?_⟩
  have hi : i < us.length := (List.getElem?_eq_some_iff.1 hx).1
  have hsl : (St.mk us.length (zslots rs 0) H').at (.slot i) = some r := by simp only [St.at]; rw [look_zslots0]; exact hr
  obtain ⟨x', hx', hv⟩ := hR.place _ _ hsl
  have hxx : x' = x := by
    simp only [CV] at hx'
    rw [List.getElem?_toArray, hx] at hx'
    exact (Option.some.inj hx').symm
  subst hxx
  have hcr : (∀ b, ¬ Lt b) ∨ r.clo = true := hclo.imp id fun hc => hc.1 r (List.mem_of_getElem? hr)
  refine ⟨?_, ?_, ?_⟩
  · rintro e xs rfl
    obtain ⟨k1, k2, k3⟩ := hv
    subst k1
    refine ⟨hOL k2 hcr, fun b hb => ⟨.inr (k3 b hb), fun q y hy => ?_, fun p e' ys hp' hpb => ?_⟩, fun j e' ys y b hj hy hb hyb => ?_⟩
    · rcases hhp q y hy with ⟨o', y0', h1', rfl, rfl⟩ | ⟨h1', h2'⟩
      · rw [show E1.obj (ρ o') = E'.obj o' from EnvX.obj_in hinj h1']
        exact hR.i3 _ _ _ _ _ b hsl h1' hb
      · rw [show E1.obj q = E.obj q from EnvX.obj_out h1']
        rintro rfl
        rcases hE'om _ (k3 _ hb) with k6 | k6
        · exact hno q y h2' h1' k6
        · have := (h.om_lt _ (h.obj q y h2').1).1; omega
    · rcases hown p e' ys b hp' hpb with ⟨o, y1, i', h1, rfl, h3, h4, h5⟩ | ⟨h1, h2, h3, h4, h5⟩
      · have := hR.i2 _ _ _ _ _ _ b hsl h3 hb h4
        cases this
      · rcases hE'om b (k3 b hb) with k6 | k6
        · exact h4 k6
        · have := (h.om_lt b h5).1; omega
    · have hslj : (St.mk us.length (zslots rs 0) H').at (.slot j) = some (.own e' ys) := by simp only [St.at]; rw [look_zslots0]; exact hj
      obtain ⟨y', hy', hvj⟩ := hR.place _ _ hslj
      have : y' = y := by
        simp only [CV] at hy'
        rw [List.getElem?_toArray, hy] at hy'
        exact (Option.some.inj hy').symm
      subst this
      rw [hvj.1] at hyb
      have := hR.i2 _ _ _ _ _ _ b hsl hslj hb hyb
      simpa using this
  · intro he hon
    have hr' : r = .dead ∨ RS P (fun b => E'.om b ∨ ((E.om b ∨ F b) ∧ ¬ OmC E ρ H args vals b ∧ ¬ Lt b)) E' w' r x' := by
      cases r <;> simp [SV.easy] at he <;> first | exact .inl rfl | exact .inr hv
    refine hr'.imp id fun h8 => (hRS h8 hcr).ren (fun _ hn => hn) (fun o' ho' => ?_) hon
    obtain ⟨z, hz⟩ := hR.np _ _ o' hsl ho'
    exact EnvX.obj_in hinj hz
  · intro o ho
    obtain ⟨z, hz⟩ := hR.np _ _ o hsl ho
    exact ⟨_, hp1 o z hz⟩
end
end Go.Ck

set_option linter.unusedVariables false
namespace Go.Ck
open Go.RowKit

/-- Does a value hang on a cell of object o? -/
def SV.onO (o : Nat) : SV → Bool
  | .al (.cell q _) => q == o
  | .vw (.cell q _) _ _ _ => q == o
  | .ea (.cell q _) _ _ _ => q == o
  | _ => false
def killOL (o : Nat) : List (Nat × SV) → List (Nat × SV)
  | [] => []
  | (d, v) :: r => (d, if v.onO o then .dead else v) :: killOL o r
def killO (o : Nat) (s : St) : St := ⟨s.n, killOL o s.sl, s.hp⟩
def killOs : List Nat → St → St
  | [], s => s
  | o :: r, s => killOs r (killO o s)

theorem look_killOL (o : Nat) (d : Nat) : ∀ l : List (Nat × SV), look d (killOL o l) = (look d l).map fun v => if v.onO o then .dead else v
  | [] => rfl
  | (k, v) :: r => by
    simp only [killOL, look]
    split
    · rfl
    · exact look_killOL o d r

theorem at_killO (o : Nat) (s : St) (p : Place) (v : SV) (h : (killO o s).at p = some v) : (v = .dead ∧ ∃ u, s.at p = some u) ∨ (s.at p = some v ∧ ∀ d, p = .slot d → v.onO o = false) := by
  cases p with
  | slot d =>
    simp only [St.at, killO, look_killOL, Option.map_eq_some_iff] at h
    obtain ⟨u, hu, he⟩ := h
    split at he
    · exact .inl ⟨he.symm, u, hu⟩
    · rename_i ho
      subst he
      exact .inr ⟨hu, fun _ _ => by simpa using ho⟩
  | part d i =>
    refine .inr ⟨?_, by simp⟩
    simp only [St.at, killO, look_killOL] at h ⊢
    cases hl : look d s.sl with
    | none => simp [hl] at h
    | some u =>
      simp only [hl, Option.map_some] at h
      by_cases ho : u.onO o = true
      · simp [ho] at h
      · simp only [ho] at h
        exact h
  | cell o' i => exact .inr ⟨h, by simp⟩

theorem killO_own (o : Nat) (s : St) {p : Place} {e : TypeId} {xs : List PV} (h : s.at p = some (.own e xs)) : (killO o s).at p = some (.own e xs) := by
  cases p with
  | slot d => simp only [St.at, killO, look_killOL] at h ⊢; simp [h, SV.onO]
  | part d i =>
    simp only [St.at, killO, look_killOL] at h ⊢
    cases hl : look d s.sl with
    | none => simp [hl] at h
    | some u => cases u <;> simp [hl] at h; simp [SV.onO, h]
  | cell o' i => exact h
theorem killO_own' (o : Nat) (s : St) {p : Place} {e : TypeId} {xs : List PV} (h : (killO o s).at p = some (.own e xs)) : s.at p = some (.own e xs) := by
  rcases at_killO o s p _ h with ⟨h1, _⟩ | ⟨h1, _⟩
  · cases h1
  · exact h1

section
variable {P : Program} {O0 : Base} {F : Nat → Prop} {w0 w : World} {s : St} {E : Env} {tmps : Array Value}

theorem Rel.killO (h : Rel P O0 w0 F s E tmps w) (o : Nat) : Rel P O0 w0 F (Ck.killO o s) E tmps w := by
  refine h.forget rfl (fun p v hp => ?_) (fun o x hx => hx) (fun p v r hp hr => ?_) (fun p v o' hp ho => ?_) (fun p ⟨v, hp⟩ => ?_) (fun o x hx => ⟨x, hx⟩)
  · rcases at_killO o s p v hp with ⟨rfl, _⟩ | ⟨h1, _⟩
    · exact .inl rfl
    · exact .inr (.inl h1)
  · rcases at_killO o s p v hp with ⟨rfl, _⟩ | ⟨h1, h2⟩
    · simp [SV.on] at hr
    · obtain ⟨_, ⟨e, xs, h3⟩, _⟩ := h.na p v r h1 hr
      exact ⟨e, xs, killO_own o s h3⟩
  · rcases at_killO o s p v hp with ⟨rfl, _⟩ | ⟨h1, _⟩
    · simp [SV.pts] at ho
    · exact h.np p v o' h1 ho
  · rcases at_killO o s p v hp with ⟨_, u, hu⟩ | ⟨h1, _⟩
    · exact ⟨u, hu⟩
    · exact ⟨v, h1⟩

theorem killOs_facts : ∀ (os : List Nat) {s : St}, Rel P O0 w0 F s E tmps w → Rel P O0 w0 F (killOs os s) E tmps w ∧ (killOs os s).hp = s.hp ∧ (killOs os s).n = s.n ∧ (∀ p e xs, (killOs os s).at p = some (.own e xs) → s.at p = some (.own e xs)) ∧ (∀ p e xs, s.at p = some (.own e xs) → (killOs os s).at p = some (.own e xs)) ∧
    ∀ p v q, (killOs os s).at p = some v → v.on q = true → ∀ o ∈ os, ∀ i, q ≠ .cell o i
  | [], s, h => ⟨h, rfl, rfl, fun _ _ _ h => h, fun _ _ _ h => h, by simp⟩
  | o :: r, s, h => by
    obtain ⟨h1, h2, h3, h4, h4', h5⟩ := killOs_facts r (h.killO o)
    refine ⟨h1, h2, h3, fun p e xs hp => killO_own' o s (h4 p e xs hp), fun p e xs hp => h4' p e xs (killO_own o s hp), fun p v q hp hq o' ho' i => ?_⟩
    rcases List.mem_cons.1 ho' with rfl | ho'
    · have key : ∀ (os : List Nat) (s : St) p v, (killOs os s).at p = some v → v ≠ .dead → s.at p = some v := by
        intro os
        induction os with
        | nil => intro s p v h _; exact h
        | cons a l ih =>
          intro s p v h hn
          rcases at_killO a s p v (ih (Ck.killO a s) p v h hn) with ⟨h6, _⟩ | ⟨h6, _⟩
          · exact absurd h6 hn
          · exact h6
      have hv : (Ck.killO o' s).at p = some v := key r _ p v hp (by rintro rfl; simp [SV.on] at hq)
      rcases at_killO o' s p v hv with ⟨rfl, _⟩ | ⟨h6, h7⟩
      · simp [SV.on] at hq
      · obtain ⟨⟨d, rfl⟩, _⟩ := h.na p v q h6 hq
        have h8 := h7 d rfl
        rintro rfl
        cases v <;> simp [SV.on] at hq <;> subst hq <;> simp [SV.onO] at h8
    · exact h5 p v q hp hq o' ho' i

/-- What a part of a tuple is. -/
def PartOK (P : Program) (A : Nat → Prop) (s : St) (E : Env) (w : World) (v : SV) (x : Value) : Prop := match v with
  | .own e xs => OwnL P A w e x xs ∧ ∀ b, x.ownBlock = some b → E.om b ∧ Unused s E b
  | .tup _ => False
  | v => (∀ q, v.on q = false) ∧ (v = .dead ∨ RS P A E w v x) ∧ ∀ o, v.pts o = true → ∃ z, look o s.hp = some z

/-- A tuple in a slot. -/
theorem Rel.putTup (h : Rel P O0 w0 F s E tmps w) {d : Nat} {vs : List SV} {us : List Value} (hd : d < s.n) (hf : Free (.slot d) s) (hl : us.length = vs.length) (hp : ∀ (i : Nat) (v : SV) (x : Value), vs[i]? = some v → us[i]? = some x → PartOK P (fun b => E.om b ∨ F b) s E w v x)
    (hdist : ∀ (i j : Nat) (e : TypeId) (xs : List PV) (e' : TypeId) (ys : List PV) (x y : Value) (b : Nat), vs[i]? = some (.own e xs) → vs[j]? = some (.own e' ys) → us[i]? = some x → us[j]? = some y → x.ownBlock = some b → y.ownBlock = some b → i = j) :
    ∃ E', Rel P O0 w0 F (setSlot d (.tup vs) s) E' (tmps.setIfInBounds d (.tuple us.toArray)) w := by
  have hsz : d < tmps.size := by rw [← h.size]; exact hd
  let G : Place → Value := fun q => match q with | .part d' i => if d' = d then us.getD i undef else E.hdr q | q => E.hdr q
  have hGp : ∀ i x, us[i]? = some x → G (.part d i) = x := fun i x hx => by simp [G, List.getD_eq_getElem?_getD, hx]
  have hGq : ∀ q, (∀ i, q ≠ .part d i) → G q = E.hdr q := by
    intro q hq
    cases q with
    | slot d' => rfl
    | part d' i => simp only [G]; rw [if_neg (by rintro rfl; exact hq i rfl)]
    | cell o i => rfl
  have hat : ∀ p u, (Ck.setSlot d (.tup vs) s).at p = some u → (p = .slot d ∧ u = .tup vs) ∨ (∃ i, p = .part d i ∧ vs[i]? = some u) ∨ (p ≠ .slot d ∧ (∀ i, p ≠ .part d i) ∧ s.at p = some u) := by
    intro p u hp
    rw [at_setSlot] at hp
    cases p with
    | slot d' =>
      simp only at hp
      split at hp
      · rename_i e; subst e; simp at hp; exact .inl ⟨rfl, hp.symm⟩
      · rename_i e; exact .inr (.inr ⟨by simpa using fun h => e h.symm, by simp, hp⟩)
    | part d' i =>
      simp only at hp
      split at hp
      · rename_i e; subst e; exact .inr (.inl ⟨i, rfl, hp⟩)
      · rename_i e; exact .inr (.inr ⟨by simp, fun i => by simpa using fun h => absurd h.symm e, hp⟩)
    | cell o i => exact .inr (.inr ⟨by simp, by simp, hp⟩)
  have hus : ∀ {i : Nat} {u : SV}, vs[i]? = some u → ∃ x, us[i]? = some x := by
    intro i u hu
    have : i < us.length := by rw [hl]; exact (List.getElem?_eq_some_iff.1 hu).1
    exact ⟨us[i], List.getElem?_eq_getElem this⟩
  have hkeep : ∀ q e xs, q ≠ .slot d → (∀ i j, q ≠ .part i j) → s.at q = some (.own e xs) → (Ck.setSlot d (.tup vs) s).at q = some (.own e xs) := by
    intro q e xs h1 h2 h3
    rw [at_setSlot]
    cases q with
    | slot d' => simp only; rw [if_neg (by rintro rfl; exact h1 rfl)]; exact h3
    | part d' i => exact absurd rfl (h2 d' i)
    | cell o i => exact h3
  have hown : ∀ p e xs b, (Ck.setSlot d (.tup vs) s).at p = some (.own e xs) → (G p).ownBlock = some b → (∃ i x, p = .part d i ∧ vs[i]? = some (.own e xs) ∧ us[i]? = some x ∧ x.ownBlock = some b ∧ E.om b ∧ Unused s E b) ∨ (s.at p = some (.own e xs) ∧ (E.hdr p).ownBlock = some b) := by
    intro p e xs b hp' hb
    rcases hat p _ hp' with ⟨_, h1⟩ | ⟨i, rfl, h1⟩ | ⟨h1, h2, h3⟩
    · cases h1
    · obtain ⟨x, hx⟩ := hus h1
      rw [hGp i x hx] at hb
      obtain ⟨k1, k2⟩ := hp i _ x h1 hx
      exact .inl ⟨i, x, rfl, h1, hx, hb, k2 b hb⟩
    · rw [hGq p h2] at hb
      exact .inr ⟨h3, hb⟩
  refine ⟨{ E with hdr := G }, { place := ?_, obj := ?_, size := by simp [Ck.setSlot, h.size], i1 := h.i1, i2 := ?_, i3 := ?_, om_lt := h.om_lt, om0 := h.om0, na := ?_, np := ?_, gr := h.gr, flt := h.flt, ob := h.ob }⟩
  · intro p v hp'
    rcases hat p v hp' with ⟨rfl, rfl⟩ | ⟨i, rfl, h1⟩ | ⟨h1, h2, h3⟩
    · exact ⟨.tuple us.toArray, by simp [CV, hsz], us.toArray, rfl, by simpa using hl⟩
    · obtain ⟨x, hx⟩ := hus h1
      refine ⟨x, ⟨us.toArray, by simp [hsz], by simpa using hx⟩, ?_⟩
      have hok := hp i v x h1 hx
      cases v <;> simp only [PartOK] at hok
      case own e xs =>
        simp only [PVal]
        rw [hGp i x hx]
        exact ⟨rfl, hok.1, fun b hb => (hok.2 b hb).1⟩
      case dead => exact trivial
      all_goals
        obtain ⟨k1, k2, k3⟩ := hok
        rcases k2 with k2 | k2
        · cases k2
        · exact RS.congr (E := E) rfl k2 (fun q hq => by rw [k1 q] at hq; cases hq)
    · obtain ⟨x', hx', hv⟩ := h.place p v h3
      refine ⟨x', ?_, PVal.congr (E := E) (E' := { E with hdr := G }) rfl rfl hv (fun q hq => hGq q (fun i => (h.na _ v q h3 hq).2.2 d i)) (hGq p h2)⟩
      cases p with
      | slot d' => simp only [CV] at hx' ⊢; rw [Array.getElem?_setIfInBounds_ne (by rintro rfl; exact h1 rfl)]; exact hx'
      | part d' i =>
        simp only [CV] at hx' ⊢
        obtain ⟨us', h6, h7⟩ := hx'
        exact ⟨us', by rw [Array.getElem?_setIfInBounds_ne (by rintro rfl; exact h2 i rfl)]; exact h6, h7⟩
      | cell o i => exact hx'
  · intro o y hy
    obtain ⟨h1, h2⟩ := h.obj o y hy
    refine ⟨h1, ?_⟩
    cases y <;> exact h2
  · intro p q e xs e' ys b hp' hq' hpb hqb
    rcases hown p e xs b hp' hpb with ⟨i, x, rfl, a1, a2, a3, a4, a5⟩ | ⟨a1, a2⟩
    · rcases hown q e' ys b hq' hqb with ⟨j, y, rfl, b1, b2, b3, b4, b5⟩ | ⟨b1, b2⟩
      · rw [hdist i j e xs e' ys x y b a1 b1 a2 b2 a3 b3]
      · exact absurd b2 (a5.2 q e' ys b1)
    · rcases hown q e' ys b hq' hqb with ⟨j, y, rfl, b1, b2, b3, b4, b5⟩ | ⟨b1, b2⟩
      · exact absurd a2 (b5.2 p e xs a1)
      · exact h.i2 p q e xs e' ys b a1 b1 a2 b2
  · intro p e xs o y b hp' hy hpb
    rcases hown p e xs b hp' hpb with ⟨i, x, rfl, a1, a2, a3, a4, a5⟩ | ⟨a1, a2⟩
    · exact a5.1 o y hy
    · exact h.i3 p e xs o y b a1 hy a2
  · intro p v q hp' hq
    rcases hat p v hp' with ⟨rfl, rfl⟩ | ⟨i, rfl, h1⟩ | ⟨h1, h2, h3⟩
    · simp [SV.on] at hq
    · obtain ⟨x, hx⟩ := hus h1
      have hok := hp i v x h1 hx
      cases v <;> simp only [PartOK] at hok
      case own => simp [SV.on] at hq
      all_goals (rw [hok.1 q] at hq; cases hq)
    · obtain ⟨h6, ⟨e, xs, h7⟩, h8⟩ := h.na p v q h3 hq
      refine ⟨h6, ⟨e, xs, hkeep q e xs ?_ h8 h7⟩, h8⟩
      rintro rfl
      rw [hf p v h3] at hq
      cases hq
  · intro p v o hp' ho
    rcases hat p v hp' with ⟨rfl, rfl⟩ | ⟨i, rfl, h1⟩ | ⟨h1, h2, h3⟩
    · simp [SV.pts] at ho
    · obtain ⟨x, hx⟩ := hus h1
      have hok := hp i v x h1 hx
      cases v <;> simp only [PartOK] at hok
      case own => simp [SV.pts] at ho
      all_goals exact hok.2.2 o ho
    · exact h.np p v o h3 ho
end
end Go.Ck

set_option linter.unusedVariables false
/-! A scope in which the run jumps back to one label, behind a fence. -/
namespace Go.Ck
section
variable {F : Fence} {n : Nat} {P : Program} {Q : Exit → Act → World → Prop} {a : Act} {w : World} {b : Frame} {cs : List Frame} {k : List Item}
theorem stepR_scope {c : Code} : step P (lone (b.atR a (.code (.scope c) :: k)) cs w) = .next (lone (b.atR a (.code c :: .inScope c :: k)) cs w) :=
  step_lone_go (by simp [stepG, stepG.exec, Frame.atR])
theorem stepR_inScope {c : Code} : step P (lone (b.atR a (.inScope c :: k)) cs w) = .next (lone (b.atR a k) cs w) :=
  step_lone_go (by simp [stepG, stepG.exec, Frame.atR])
theorem wpIn_scope_jumps {c rest : Code} (l : Nat) (J : Act → World → Prop) (μ : Act → World → Nat) (hf : findLabel c l = some rest)
    (first : c.wpIn F n P (Exit.jump l J Q) a w)
    (pass : ∀ a w, J a w → rest.wpIn F n P (Exit.jump l (fun a' w' => J a' w' ∧ μ a' w' < μ a w) Q) a w) : (Code.scope c).wpIn F n P Q a w := by
  intro b k cs hro hb hr
  have hg : gotoIn l (.inScope c :: k) = some (.code rest :: .inScope c :: k) := by simp [gotoIn, hf]
  have hx : ∀ id, exitTo id (.inScope c :: k) = exitTo id k := fun id => by simp [exitTo]
  have out : ∀ (m : Machine) (e : Exit) (a : Act) (w : World), (∀ l, e ≠ .goto l) → ArrivesIn (Machine.fenced P F) P m b (.inScope c :: k) cs e a w → ArrivesIn (Machine.fenced P F) P m b k cs e a w := by
    intro m e a w hne h
    cases e with
    | normal => exact StepsIn.trans h (.one (fenced_calm hb hr rfl) stepR_inScope)
    | exit id => exact ⟨fun k' hk => h.1 k' (by rw [hx]; exact hk), fun hr' hk => h.2 hr' (by rw [hx]; exact hk)⟩
    | goto l => exact absurd rfl (hne l)
    | ret => exact h
    | panic ch => exact h
    | outgrown => exact h
  have key : ∀ j a w, μ a w = j → J a w → ∃ e a' w', Q e a' w' ∧ ArrivesIn (Machine.fenced P F) P (lone (b.atR a (.code rest :: .inScope c :: k)) cs w) b k cs e a' w' := by
    intro j
    induction j using Nat.strongRecOn with
    | _ j ih =>
      intro a w hn hJ
      obtain ⟨e, a₁, w₁, hq, harr⟩ := pass a w hJ b (.inScope c :: k) cs hro hb hr
      cases e with
      | goto l' =>
        obtain ⟨rfl, hJ', hlt⟩ := hq
        obtain ⟨e₂, a₂, w₂, hq₂, harr₂⟩ := ih _ (by omega) a₁ w₁ rfl hJ'
        exact ⟨e₂, a₂, w₂, hq₂, .of_steps (harr.1 _ hg) harr₂⟩
      | normal => exact ⟨_, a₁, w₁, hq, out _ _ _ _ (by simp) harr⟩
      | exit id => exact ⟨_, a₁, w₁, hq, out _ _ _ _ (by simp) harr⟩
      | ret => exact ⟨_, a₁, w₁, hq, out _ _ _ _ (by simp) harr⟩
      | panic ch => exact ⟨_, a₁, w₁, hq, out _ _ _ _ (by simp) harr⟩
      | outgrown => exact ⟨_, a₁, w₁, hq, out _ _ _ _ (by simp) harr⟩
  have h0 : (lone (b.atR a (.code (.scope c) :: k)) cs w).fenced P F := fenced_calm hb hr rfl
  obtain ⟨e, a₁, w₁, hq, harr⟩ := first b (.inScope c :: k) cs hro hb hr
  cases e with
  | goto l' =>
    obtain ⟨rfl, hJ'⟩ := hq
    obtain ⟨e₂, a₂, w₂, hq₂, harr₂⟩ := key _ a₁ w₁ rfl hJ'
    exact ⟨e₂, a₂, w₂, hq₂, .of_steps (.head h0 stepR_scope (harr.1 _ hg)) harr₂⟩
  | normal => exact ⟨_, a₁, w₁, hq, .of_steps (.one h0 stepR_scope) (out _ _ _ _ (by simp) harr)⟩
  | exit id => exact ⟨_, a₁, w₁, hq, .of_steps (.one h0 stepR_scope) (out _ _ _ _ (by simp) harr)⟩
  | ret => exact ⟨_, a₁, w₁, hq, .of_steps (.one h0 stepR_scope) (out _ _ _ _ (by simp) harr)⟩
  | panic ch => exact ⟨_, a₁, w₁, hq, .of_steps (.one h0 stepR_scope) (out _ _ _ _ (by simp) harr)⟩
  | outgrown => exact ⟨_, a₁, w₁, hq, .of_steps (.one h0 stepR_scope) (out _ _ _ _ (by simp) harr)⟩
end
end Go.Ck

set_option linter.unusedVariables false
/-! The judgement on the rest of a body. -/
namespace Go.Ck
open Go.RowKit

/-- What a state is held against: the blocks and objects that the call was handed, the world it began in, the blocks that are others'. -/
structure Bs where
  O : Base
  w : World
  F : Nat → Prop

/-- What is known of that, and of the deferred calls. -/
abbrev Cx := Bs → List Deferred → Prop

/-- No fence; within a round, or not. -/
def fence (R : Option Nat) : Fence := { Fence.wide with round := R }

/-- Below this, objects' names are the call's own. -/
def lim : Option Nat → Nat
  | none => 1000
  | some _ => 0
/-- The state lies in the frame. -/
def AS (P : Program) (R : Option Nat) (C : Cx) (B : Bs) (s : St) (a : Act) (w : World) : Prop := (C B a.defers ∧ (∀ o, o < lim R → B.O.ob o = none) ∧ GOK P (fun b => B.O.blk b ∨ B.F b) B.w) ∧ ∃ E, Rel P B.O B.w B.F s E a.tmps w

theorem Rel.gok {P : Program} {B : Bs} {s : St} {E : Env} {tmps : Array Value} {w : World} (hG : GOK P (fun b => B.O.blk b ∨ B.F b) B.w) (h : Rel P B.O B.w B.F s E tmps w) : GOK P (fun b => E.om b ∨ B.F b) w :=
  hG.mono (fun b hb hn => ⟨fun hc => hn (hc.elim (fun h1 => (h.om0 b h1).elim .inl (fun h2 => absurd hb (by omega))) .inr), h.gr.block b hb (fun hc => hn (.inl hc))⟩) h.gr.size
theorem AS.drew {P : Program} {R : Option Nat} {C : Cx} {B : Bs} {s : St} {a : Act} {w : World} (h : AS P R C B s a w) : AS P R C B s a { w with drawn := w.drawn + 1 } := by
  obtain ⟨hd, E, h⟩ := h
  exact ⟨hd, _, h.world (w' := { w with drawn := w.drawn + 1 }) (M := fun _ => False) ⟨rfl, rfl, rfl, Nat.le_refl _, fun _ _ _ => rfl⟩ (by simp) (fun _ => False) (by simp)⟩

/-- What is left of a body. -/
inductive It where
  | code (c : Code)
  | inB (id : Nat)
  | ops (all : Array Oper) (r : List Oper)
  | stop (K : Cx → St → Prop)
  | any (all : Array Oper) (fuel : Nat) (listed : Array Bool)
  | inS (l : Nat) (K : Cx → St → Prop)

def den (P : Program) (R : Option Nat) (Φ : Exit → Cx → St → Prop) : List It → Exit → Act → World → Prop
  | [], e, a, w => ∃ C s B, Φ e C s ∧ AS P R C B s a w
  | .code c :: k, .normal, a, w => c.wpIn (fence R) 0 P (den P R Φ k) a w
  | .ops all r :: k, .normal, a, w => wpListIn (fence R) 0 P all (den P R Φ k) r a w
  | .stop K :: k, .normal, a, w => ∃ C s B, K C s ∧ AS P R C B s a w
  | .any all fuel listed :: k, .normal, a, w => wpAnyIn (fence R) 0 P .any all (den P R Φ k) fuel listed a w
  | .inS l K :: k, .goto l', a, w => l' = l ∧ ∃ C s B, K C s ∧ AS P R C B s a w
  | .inB id :: k, .exit id', a, w => if id' = id then den P R Φ k .normal a w else den P R Φ k (.exit id') a w
  | _ :: k, e, a, w => den P R Φ k e a w

def AW (P : Program) (R : Option Nat) (Φ : Exit → Cx → St → Prop) (e : Exit) (k : List It) (C : Cx) (s : St) : Prop :=
  ∀ B a w, AS P R C B s a w → den P R Φ k e a w

section
variable {P : Program} {R : Option Nat} {Φ : Exit → Cx → St → Prop} {k : List It} {C : Cx} {s : St}

theorem AW.nil {e : Exit} (h : Φ e C s) : AW P R Φ e [] C s := fun B a w ha => ⟨C, s, B, h, ha⟩
theorem AW.stop {K : Cx → St → Prop} (h : K C s) : AW P R Φ .normal (.stop K :: k) C s := fun B a w ha => ⟨C, s, B, h, ha⟩
theorem AW.skip (h : AW P R Φ .normal k C s) : AW P R Φ .normal (.code .skip :: k) C s := fun B a w ha => wpIn_skip (h B a w ha)
theorem AW.label {l : Nat} (h : AW P R Φ .normal k C s) : AW P R Φ .normal (.code (.label l) :: k) C s := fun B a w ha => wpIn_label (h B a w ha)
theorem AW.seq {x y : Code} (h : AW P R Φ .normal (.code x :: .code y :: k) C s) : AW P R Φ .normal (.code (.seq x y) :: k) C s := fun B a w ha =>
  wpIn_seq (wpIn_mono (h B a w ha) (fun e a w hq => by cases e <;> exact hq))
theorem AW.block {id : Nat} {c : Code} (h : AW P R Φ .normal (.code c :: .inB id :: k) C s) : AW P R Φ .normal (.code (.block id c) :: k) C s := fun B a w ha =>
  wpIn_block (wpIn_mono (h B a w ha) (fun e a w hq => by cases e <;> exact hq))
theorem AW.inB {id : Nat} (h : AW P R Φ .normal k C s) : AW P R Φ .normal (.inB id :: k) C s := fun B a w ha => h B a w ha
theorem AW.exit {id : Nat} (h : AW P R Φ (.exit id) k C s) : AW P R Φ .normal (.code (.exit id) :: k) C s := fun B a w ha => wpIn_exit (h B a w ha)
theorem AW.goto {l : Nat} (h : AW P R Φ (.goto l) k C s) : AW P R Φ .normal (.code (.goto l) :: k) C s := fun B a w ha => wpIn_goto (h B a w ha)
theorem AW.ret (h : AW P R Φ .ret k C s) : AW P R Φ .normal (.code .ret :: k) C s := fun B a w ha => wpIn_ret (h B a w ha)
theorem AW.outX {id : Nat} (h : AW P R Φ .normal k C s) : AW P R Φ (.exit id) (.inB id :: k) C s := fun B a w ha => by
  simp only [den, if_true]; exact h B a w ha
theorem AW.passX {id id' : Nat} (hne : id ≠ id') (h : AW P R Φ (.exit id) k C s) : AW P R Φ (.exit id) (.inB id' :: k) C s := fun B a w ha => by
  simp only [den, if_neg hne]; exact h B a w ha
theorem AW.passC {e : Exit} {c : Code} (he : e ≠ .normal) (h : AW P R Φ e k C s) : AW P R Φ e (.code c :: k) C s := fun B a w ha => by
  cases e <;> first | exact absurd rfl he | exact h B a w ha
theorem AW.passS {e : Exit} {K : Cx → St → Prop} (he : e ≠ .normal) (h : AW P R Φ e k C s) : AW P R Φ e (.stop K :: k) C s := fun B a w ha => by
  cases e <;> first | exact absurd rfl he | exact h B a w ha
theorem AW.passO {e : Exit} {all : Array Oper} {r : List Oper} (he : e ≠ .normal) (h : AW P R Φ e k C s) : AW P R Φ e (.ops all r :: k) C s := fun B a w ha => by
  cases e <;> first | exact absurd rfl he | exact h B a w ha
theorem AW.inS {l : Nat} {K : Cx → St → Prop} (h : AW P R Φ .normal k C s) : AW P R Φ .normal (.inS l K :: k) C s := fun B a w ha => h B a w ha
theorem AW.xI {id l : Nat} {K : Cx → St → Prop} (h : AW P R Φ (.exit id) k C s) : AW P R Φ (.exit id) (.inS l K :: k) C s := fun B a w ha => h B a w ha
theorem AW.jump {l : Nat} {K : Cx → St → Prop} (h : K C s) : AW P R Φ (.goto l) (.inS l K :: k) C s := fun B a w ha => ⟨rfl, C, s, B, h, ha⟩
theorem AW.passB {e : Exit} {id : Nat} (he : ∀ i, e ≠ .exit i) (h : AW P R Φ e k C s) : AW P R Φ e (.inB id :: k) C s := fun B a w ha => by
  cases e <;> first | exact absurd rfl (he _) | exact h B a w ha

/-- Forget a part. -/
theorem AW.weak {e : Exit} {C' : Cx} {s' : St} (hw : ∀ B a w, AS P R C B s a w → ∃ B', AS P R C' B' s' a w) (h : AW P R Φ e k C' s') : AW P R Φ e k C s := fun B a w ha => by
  obtain ⟨B', h'⟩ := hw B a w ha
  exact h B' a w h'

theorem AW.cond {c : Operand} {x y : Code} {b : Bool} (hc : ev s c = some (.pv (.bool b))) (ht : b = true → AW P R Φ .normal (.code x :: k) C s) (hf : b = false → AW P R Φ .normal (.code y :: k) C s) : AW P R Φ .normal (.code (.cond c x y) :: k) C s := fun B a w ha => by
  obtain ⟨hd, E, h⟩ := ha
  have h1 := (ev_pv h hc).bool_eq
  refine wpIn_cond_split (t := b) h1 (fun hb => ?_) (fun hb => ?_)
  · exact ht hb B a w ⟨hd, E, h⟩
  · exact hf hb B a w ⟨hd, E, h⟩
theorem AW.condT {c : Operand} {x y : Code} (hc : ev s c = some (.pv (.bool true))) (h : AW P R Φ .normal (.code x :: k) C s) : AW P R Φ .normal (.code (.cond c x y) :: k) C s := AW.cond hc (fun _ => h) (fun hb => by cases hb)
theorem AW.condF {c : Operand} {x y : Code} (hc : ev s c = some (.pv (.bool false))) (h : AW P R Φ .normal (.code y :: k) C s) : AW P R Φ .normal (.code (.cond c x y) :: k) C s := AW.cond hc (fun hb => by cases hb) (fun _ => h)

theorem AW.region {id : Nat} {ops : Array Oper} (h : AW P R Φ .normal (.ops ops ops.toList :: k) C s) : AW P R Φ .normal (.code (.region id ops false) :: k) C s := fun B a w ha =>
  wpIn_region_list (h B a w ha)

theorem AW.opsNil {all : Array Oper} (h : AW P R Φ .normal k C s) : AW P R Φ .normal (.ops all [] :: k) C s := fun B a w ha => h B a w ha

theorem semAt_plain {o : Oper} (h : ∀ c, o.op ≠ .defer c) (ρ : Operand → Value) : ∀ R, Oper.semAt R ρ o = execOp ρ o
  | none => Oper.semAt_none ρ o
  | some l => Oper.semAt_some l ρ o h

theorem astep_plain {o : Oper} {s' : St} (h : astep P o s = some s') : ∀ c, o.op ≠ .defer c := fun c hc => by
  unfold astep at h
  rw [hc] at h
  split at h
  · simp [reads, aval, putO] at h
  · simp at h

/-- A wanted operation. -/
theorem wpListIn_want {all : Array Oper} {o : Oper} {r : List Oper} {a : Act} {w : World} {Q : Exit → Act → World → Prop} (hw : Region.wanted o (yielded all a.tmps) = true) (hp : ∀ c, o.op ≠ .defer c)
    (h : o.uponIn (fence R) 0 P a (wpListIn (fence R) 0 P all Q r) Q ((execOp a.eval o).run P w)) : wpListIn (fence R) 0 P all Q (o :: r) a w := by
  unfold wpListIn
  rw [if_pos hw]
  refine ⟨fun f _ => trivial, ?_⟩
  rw [semAt_plain hp]
  exact h

theorem AW.step {all : Array Oper} {o : Oper} {r : List Oper} {s' : St} (hg : o.guard = none) (hs : astep P o s = some s') (h : AW P R Φ .normal (.ops all r :: k) C s') : AW P R Φ .normal (.ops all (o :: r) :: k) C s := fun B a w ha => by
  simp only [den]
  refine wpListIn_want (by simp [Region.wanted, hg]) (astep_plain hs) ?_
  obtain ⟨hd, E, hE⟩ := ha
  obtain ⟨r', x, w', E', h1, h2, h3⟩ := astep_sound hE hs
  rw [h1]
  rcases h2 with rfl | ⟨rfl, rfl⟩
  · exact h B _ _ ⟨by rw [put_defers]; exact hd, E', h3⟩
  · exact h B _ _ ⟨by rw [put_defers]; exact hd, E', h3⟩

theorem Rel.putUn {O0 : Base} {F : Nat → Prop} {w0 w : World} {E : Env} {tmps : Array Value} (h : Rel P O0 w0 F s E tmps w) (d : Nat) : ∃ E', Rel P O0 w0 F (put d (.tup []) s) E' (tmps.setIfInBounds d undef) w := by
  unfold put
  split
  · rename_i hd
    obtain ⟨hc, hf⟩ := h.clear d
    simp only [SV.on, Bool.false_eq_true, if_false]
    exact hc.putTup (us := []) (by rw [clear_n]; exact hd) hf rfl (by simp) (by simp)
  · rename_i hd
    rw [Array.setIfInBounds_eq_of_size_le (by rw [← h.size]; omega)]
    exact ⟨E, h⟩
theorem AS.unwanted {B : Bs} {a : Act} {w : World} (h : AS P R C B s a w) {d : Nat} : AS P R C B (put d (.tup []) s) (a.put (some d) undef) w := by
  obtain ⟨hd, E, hE⟩ := h
  obtain ⟨E', h'⟩ := hE.putUn d
  exact ⟨hd, E', h'⟩

theorem AW.guard {all : Array Oper} {o : Oper} {r : List Oper} {j d : Nat} {want b : Bool} (hg : o.guard = some (j, want)) (hd : o.dst = some d) (hb : aguard all s j want = some b)
    (hy : b = want → AW P R Φ .normal (.ops all ({ o with guard := none } :: r) :: k) C s) (hn : b ≠ want → AW P R Φ .normal (.ops all r :: k) C (put d (.tup []) s)) : AW P R Φ .normal (.ops all (o :: r) :: k) C s := fun B a w ha => by
  have hyl : (yielded all a.tmps j == some want) = (b == want) := by obtain ⟨_, E, hE⟩ := ha; exact aguard_sound hE hb
  by_cases hbw : b = want
  · have := hy hbw B a w ha
    simp only [den, wpListIn] at this ⊢
    rw [if_pos (by simp [Region.wanted])] at this
    rw [if_pos (by simp [Region.wanted, hg, hyl, hbw])]
    exact this
  · simp only [den, wpListIn]
    rw [if_neg (by simp [Region.wanted, hg, hyl, hbw]), hd]
    exact ⟨fun _ _ => trivial, hn hbw B _ w ha.unwanted⟩
/-- Guards that are told. -/
theorem AW.guardT {all : Array Oper} {o : Oper} {r : List Oper} {j : Nat} {want : Bool} (hg : o.guard = some (j, want)) (hb : aguard all s j want = some want)
    (hy : AW P R Φ .normal (.ops all ({ o with guard := none } :: r) :: k) C s) : AW P R Φ .normal (.ops all (o :: r) :: k) C s := fun B a w ha => by
  have hyl : (yielded all a.tmps j == some want) = (want == want) := by obtain ⟨_, E, hE⟩ := ha; exact aguard_sound hE hb
  have := hy B a w ha
  simp only [den, wpListIn] at this ⊢
  rw [if_pos (by simp [Region.wanted])] at this
  rw [if_pos (by simp [Region.wanted, hg, hyl])]
  exact this
theorem AW.guardF {all : Array Oper} {o : Oper} {r : List Oper} {j d : Nat} {want : Bool} (hg : o.guard = some (j, want)) (hd : o.dst = some d) (hb : aguard all s j want = some (!want))
    (hn : AW P R Φ .normal (.ops all r :: k) C (put d (.tup []) s)) : AW P R Φ .normal (.ops all (o :: r) :: k) C s := AW.guard hg hd hb (fun h => by cases want <;> cases h) (fun _ => hn)

theorem exists_least {p : Nat → Prop} (h : ∃ n, p n) : ∃ n, p n ∧ ∀ m, p m → n ≤ m := by
  obtain ⟨n, hn⟩ := h
  induction n using Nat.strongRecOn with
  | _ n ih =>
    by_cases hex : ∃ m, m < n ∧ p m
    · obtain ⟨m, hm, hp⟩ := hex
      exact ih m hm hp
    · refine ⟨n, hn, fun m hp => ?_⟩
      rcases Nat.lt_or_ge m n with h1 | h1
      · exact absurd ⟨m, h1, hp⟩ hex
      · exact h1

/-- A loop: whenever I n holds ahead of a round, I m holds behind it, for some m below n. -/
theorem AW.loopC {c : Code} {n : Nat} (I : Nat → Cx → St → Prop) (h0 : I n C s) (round : ∀ n C s, I n C s → AW P R Φ .normal (.code c :: .stop (fun C' s' => ∃ m, m < n ∧ I m C' s') :: k) C s) : AW P R Φ .normal (.code (.loop c) :: k) C s := fun B a w ha => by
  classical
  let J : Act → World → Prop := fun a w => ∃ n, ∃ C s B, I n C s ∧ AS P R C B s a w
  let μ : Act → World → Nat := fun a w => if h : ∃ n, ∃ C s B, I n C s ∧ AS P R C B s a w then Classical.choose (exists_least h) else 0
  refine wpIn_loop J μ ⟨n, C, s, B, h0, ha⟩ (fun a w hJ => ?_)
  obtain ⟨⟨C1, s1, B1, hI, hA⟩, hmin⟩ := Classical.choose_spec (exists_least hJ)
  have hmu : μ a w = Classical.choose (exists_least hJ) := by simp only [μ]; rw [dif_pos hJ]
  have hr := round _ C1 s1 hI B1 a w hA
  simp only [den] at hr
  refine wpIn_mono hr (fun e a' w' hq => ?_)
  cases e <;> simp only [Exit.then]
  · simp only [den] at hq
    obtain ⟨C2, s2, B2, ⟨m, hm, hI2⟩, hA2⟩ := hq
    have hJ2 : ∃ n, ∃ C s B, I n C s ∧ AS P R C B s a' w' := ⟨m, C2, s2, B2, hI2, hA2⟩
    refine ⟨hJ2, ?_⟩
    have h2 : μ a' w' = Classical.choose (exists_least hJ2) := by simp only [μ]; rw [dif_pos hJ2]
    rw [hmu, h2]
    exact Nat.lt_of_le_of_lt ((Classical.choose_spec (exists_least hJ2)).2 m ⟨C2, s2, B2, hI2, hA2⟩) hm
  all_goals exact hq
theorem AW.loop {c : Code} {n : Nat} (I : Nat → St → Prop) (h0 : I n s) (round : ∀ n s, I n s → AW P R Φ .normal (.code c :: .stop (fun C' s' => C' = C ∧ ∃ m, m < n ∧ I m s') :: k) C s) : AW P R Φ .normal (.code (.loop c) :: k) C s :=
  AW.loopC (fun n C' s => C' = C ∧ I n s) ⟨rfl, h0⟩ (fun n C' s ⟨e, h⟩ => by
    subst e
    refine fun B a w ha => ?_
    have := round n s h B a w ha
    simp only [den] at this ⊢
    refine wpIn_mono this (fun e a w hq => ?_)
    cases e <;> simp only [den] at hq ⊢
    · obtain ⟨C', s', B, ⟨e, m, hm, hI⟩, hA⟩ := hq
      exact ⟨C', s', B, ⟨m, hm, e, hI⟩, hA⟩
    all_goals exact hq)

/-- A scope in which the run jumps back to one label: whenever K n holds at the label, K m holds at the next jump, for some m below n. -/
theorem AW.scopeC {c rest : Code} (l : Nat) (K : Nat → Cx → St → Prop) (hf : findLabel c l = some rest)
    (first : AW P R Φ .normal (.code c :: .inS l (fun C s => ∃ n, K n C s) :: k) C s)
    (pass : ∀ n C s, K n C s → AW P R Φ .normal (.code rest :: .inS l (fun C' s' => ∃ m, m < n ∧ K m C' s') :: k) C s) : AW P R Φ .normal (.code (.scope c) :: k) C s := fun B a w ha => by
  classical
  let J : Act → World → Prop := fun a w => ∃ n, ∃ C s B, K n C s ∧ AS P R C B s a w
  let μ : Act → World → Nat := fun a w => if h : ∃ n, ∃ C s B, K n C s ∧ AS P R C B s a w then Classical.choose (exists_least h) else 0
  refine wpIn_scope_jumps l J μ hf ?_ (fun a w hJ => ?_)
  · have h1 := first B a w ha
    simp only [den] at h1
    refine wpIn_mono h1 (fun e a' w' hq => ?_)
    cases e <;> simp only [Exit.jump, den] at hq ⊢
    all_goals first
      | exact hq
      | (obtain ⟨rfl, C', s', B', ⟨n, hn⟩, hA⟩ := hq; exact ⟨rfl, n, C', s', B', hn, hA⟩)
  · obtain ⟨⟨C1, s1, B1, hI, hA⟩, hmin⟩ := Classical.choose_spec (exists_least hJ)
    have hmu : μ a w = Classical.choose (exists_least hJ) := by simp only [μ]; rw [dif_pos hJ]
    have hr := pass _ C1 s1 hI B1 a w hA
    simp only [den] at hr
    refine wpIn_mono hr (fun e a' w' hq => ?_)
    cases e <;> simp only [Exit.jump, den] at hq ⊢
    case goto l' =>
      obtain ⟨rfl, C2, s2, B2, ⟨m, hm, hI2⟩, hA2⟩ := hq
      have hJ2 : ∃ n, ∃ C s B, K n C s ∧ AS P R C B s a' w' := ⟨m, C2, s2, B2, hI2, hA2⟩
      refine ⟨rfl, hJ2, ?_⟩
      have h2 : μ a' w' = Classical.choose (exists_least hJ2) := by simp only [μ]; rw [dif_pos hJ2]
      rw [hmu, h2]
      exact Nat.lt_of_le_of_lt ((Classical.choose_spec (exists_least hJ2)).2 m ⟨C2, s2, B2, hI2, hA2⟩) hm
    all_goals exact hq

/-- Ways that meet again. -/
theorem AW.join {c : Code} (K : Cx → St → Prop) (h : AW P R Φ .normal (.code c :: .stop K :: k) C s) (hk : ∀ C s, K C s → AW P R Φ .normal k C s) : AW P R Φ .normal (.code c :: k) C s := fun B a w ha => by
  have := h B a w ha
  simp only [den] at this ⊢
  refine wpIn_mono this (fun e a w hq => ?_)
  cases e
  · simp only [den] at hq
    obtain ⟨C', s', B, hK, hA⟩ := hq
    exact hk C' s' hK B a w hA
  all_goals exact hq
end

/-! ### Operations that leave the world alone, in whatever order -/
def AT (P : Program) (R : Option Nat) (all : Array Oper) (C : Cx) (K : St → Prop) (l : List Oper) (s : St) : Prop :=
  ∀ B a w (Q : Act → Prop), AS P R C B s a w → (∀ s' a', K s' → AS P R C B s' a' w → Q a') → wpStill P all w Q l a

section
variable {P : Program} {R : Option Nat} {Φ : Exit → Cx → St → Prop} {k : List It} {C : Cx} {s : St} {all : Array Oper} {K : St → Prop}
theorem AT.nil (h : K s) : AT P R all C K [] s := fun B a w Q ha hK => hK s a h ha
theorem AT.step {o : Oper} {r : List Oper} {s' : St} (hg : o.guard = none) (hst : stillOp o = true) (hs : astep P o s = some s') (h : AT P R all C K r s') : AT P R all C K (o :: r) s := fun B a w Q ha hK => by
  obtain ⟨hd, E, hE⟩ := ha
  obtain ⟨x, E', h1, h2⟩ := astep_still hst hE hs
  unfold wpStill
  rw [if_pos (by simp [Region.wanted, hg]), Oper.still, h1, Oper.stillUpon_value]
  exact h B _ w Q ⟨by rw [put_defers]; exact hd, E', h2⟩ hK
theorem AT.guard {o : Oper} {r : List Oper} {j d : Nat} {want b : Bool} (hg : o.guard = some (j, want)) (hd : o.dst = some d) (hb : aguard all s j want = some b)
    (hy : b = want → AT P R all C K ({ o with guard := none } :: r) s) (hn : b ≠ want → AT P R all C K r (put d (.tup []) s)) : AT P R all C K (o :: r) s := fun B a w Q ha hK => by
  have hyl : (yielded all a.tmps j == some want) = (b == want) := by obtain ⟨_, E, hE⟩ := ha; exact aguard_sound hE hb
  by_cases hbw : b = want
  · have := hy hbw B a w Q ha hK
    unfold wpStill at this ⊢
    rw [if_pos (by simp [Region.wanted])] at this
    rw [if_pos (by simp [Region.wanted, hg, hyl, hbw])]
    exact this
  · unfold wpStill
    rw [if_neg (by simp [Region.wanted, hg, hyl, hbw]), hd]
    exact hn hbw B _ w Q ha.unwanted hK

end
end Go.Ck

set_option linter.unusedVariables false
/-! Regions that draw their order, within a round or not. -/
namespace Go.Ck
open Go.RowKit

theorem callsIn_fence {P : Program} {R : Option Nat} {n : Nat} {f : FuncId} {args : Array Value} {w : World} {Q : Ending → World → Prop} (h : Calls P f args w Q) : CallsIn (fence R) n P f args w Q := by
  have h1 : CallsIn Fence.wide n P f args w Q := callsIn_wide.2 h
  cases R with
  | none => exact h1
  | some l => exact h1
section
variable {P : Program} {R : Option Nat} {ops : Array Oper} {md : Region.Mode} {w : World}

theorem still_plain {o : Oper} {a : Act} {K : Act → Prop} (h : o.still P a w K) : ∀ c, o.op ≠ .defer c := fun c hc => by
  unfold Oper.still at h
  simp only [execOp, hc, Sem.run_bind] at h
  generalize (resolve a.eval c o.type).run P w = r at h
  cases r with
  | ok d w' => simp [Oper.stillUpon] at h
  | halt x w' => simp [Oper.stillUpon] at h

theorem wpIn_of_still {o : Oper} {a : Act} {K : Act → Prop} {K' : Act → World → Prop} {Q' : Exit → Act → World → Prop} (h : ∀ a, K a → K' a w) (hh : o.still P a w K) : o.wpIn (fence R) 0 P a w K' Q' := by
  refine ⟨fun f _ => trivial, ?_⟩
  rw [semAt_plain (still_plain hh)]
  unfold Oper.still at hh
  generalize (execOp a.eval o).run P w = r at *
  cases r with
  | ok n w' =>
    cases n <;> simp only [Oper.stillUpon] at hh <;> simp only [Oper.uponIn]
    case enter f args =>
      obtain ⟨rfl, v, hc, hn⟩ := hh
      refine ⟨fun h => by simp [fence, Fence.wide] at h, ?_⟩
      exact callsIn_fence (hc.mono (fun e w'' ⟨he, hw⟩ => by subst he; subst hw; exact h _ hn))
    all_goals (obtain ⟨rfl, h2⟩ := hh; exact h _ h2)
  | halt x w' => simp only [Oper.stillUpon] at hh

theorem wpOpIn_of_stOp {i : Nat} {a : Act} {K : Act → Prop} {K' : Act → World → Prop} {Q' : Exit → Act → World → Prop} (h : ∀ a, K a → K' a w) (hh : stOp P ops w i K a) : wpOpIn (fence R) 0 P ops Q' i K' a w := by
  unfold stOp at hh
  unfold wpOpIn
  split
  · rename_i ho; simp only [ho] at hh; exact h _ hh
  · rename_i o ho
    simp only [ho] at hh
    split
    · rename_i hw; simp only [hw, if_true] at hh; exact wpIn_of_still h hh
    · rename_i hw; simp only [hw] at hh; exact ⟨fun _ _ => trivial, h _ hh⟩

theorem wpAnyIn_of_still {Q : Act → Prop} {Q' : Exit → Act → World → Prop} (hQ : ∀ a, Q a → Q' .normal a w) : ∀ (fuel : Nat) (listed : Array Bool) (a : Act),
    wpAnyS P md ops w Q fuel listed a → wpAnyIn (fence R) 0 P md ops Q' fuel listed a w
  | 0, _, _, h => ⟨h.1, hQ _ h.2⟩
  | fuel + 1, _, _, h => ⟨fun h0 => hQ _ (h.1 h0), fun i hi => wpOpIn_of_stOp (fun a' => wpAnyIn_of_still hQ fuel _ a') (h.2 i hi)⟩

theorem wpIn_region_still {id : Nat} {Q : Exit → Act → World → Prop} {a : Act} {l : List Oper} (hm : P.follows .mixedOrders = true) (hB : Region.lexB .any l.toArray = true)
    (h : wpStill P l.toArray { w with drawn := w.drawn + 1 } (fun a' => Q .normal a' { w with drawn := w.drawn + 1 }) l a) : (Code.region id l.toArray true).wpIn (fence R) 0 P Q a w := by
  simp only [Region.lexB, Bool.and_eq_true] at hB
  refine wpIn_region_any hm (wpAnyIn_of_still (Q := fun a' => Q .normal a' { w with drawn := w.drawn + 1 }) (fun _ h => h) _ _ _ ?_)
  have := wpAnyS_lex (md := .any) hB.1 l 0 (Array.replicate l.toArray.size false) a (by simp) (by simpa using hB.2) h
  simpa using this

theorem wpAnyIn_of_head {n g : Nat} {L : Array Bool → Act → Prop} {Q' : Exit → Act → World → Prop} (hL : ∀ listed a, L listed a → wpAnyIn (fence R) 0 P md ops Q' g listed a w) :
    ∀ (f : Nat) (listed : Array Bool) (a : Act), wpAnyL P md ops w n L f listed a → wpAnyIn (fence R) 0 P md ops Q' (f + g) listed a w
  | 0, listed, a, h => by rw [Nat.zero_add]; exact hL _ _ h
  | f + 1, listed, a, h => by
    rw [show f + 1 + g = (f + g) + 1 by omega]
    exact ⟨fun h0 => absurd h0 h.1, fun i hi => wpOpIn_of_stOp (fun a' h' => wpAnyIn_of_head hL f _ a' h') (h.2 i hi).2⟩

theorem wpAnyIn_of_seq {Q' : Exit → Act → World → Prop} : ∀ (l : List Oper) (k : Nat) (listed : Array Bool) (a : Act) (w : World), (∀ j, l[j]? = ops[k + j]?) →
    Region.seqB md ops l.length k listed = true → wpListIn (fence R) 0 P ops Q' l a w → wpAnyIn (fence R) 0 P md ops Q' l.length listed a w
  | [], _, _, _, _, _, hB, h => ⟨by simpa [Region.seqB] using hB, h⟩
  | o :: l, k, listed, a, w, hl, hB, h => by
    have h0 : ops[k]? = some o := by simpa using (hl 0).symm
    simp only [List.length_cons, Region.seqB, Bool.and_eq_true, decide_eq_true_eq] at hB
    refine ⟨fun h1 => (by rw [hB.1] at h1; cases h1), fun i hi => ?_⟩
    rw [hB.1] at hi
    have hik : i = k := by simpa using hi
    subst hik
    have hw : wpOpIn (fence R) 0 P ops Q' i (wpListIn (fence R) 0 P ops Q' l) a w := by unfold wpOpIn; simp only [h0]; exact h
    exact wpOpIn_mono (fun a' w' h' => wpAnyIn_of_seq l (i + 1) _ a' w' (fun j => by have := hl (j + 1); simpa [Nat.add_assoc, Nat.add_comm 1 j] using this) hB.2 h') hw

theorem wpIn_region_still_tail {id : Nat} {Q : Exit → Act → World → Prop} {a : Act} {l : List Oper} (n : Nat) (hm : P.follows .mixedOrders = true) (hB : Region.lexTailB .any l.toArray n = true)
    (h : wpStill P l.toArray { w with drawn := w.drawn + 1 } (fun a' => wpListIn (fence R) 0 P l.toArray Q (l.drop n) a' { w with drawn := w.drawn + 1 }) (l.take n) a) : (Code.region id l.toArray true).wpIn (fence R) 0 P Q a w := by
  simp only [Region.lexTailB, Bool.and_eq_true, decide_eq_true_eq] at hB
  obtain ⟨⟨⟨⟨hsel, hn⟩, hs⟩, hc⟩, hlex⟩ := hB
  have hn' : n < l.length := by simpa using hn
  have htl : (l.take n).length = n := by simp; omega
  have hdl : (l.drop n).length = l.toArray.size - n := by simp
  have inv0 : HeadInv .any l.toArray n (Array.replicate l.toArray.size false) :=
    ⟨by simp, fun j oj _ hl => (by rw [getD_replicate_false] at hl; cases hl), fun t _ ht => getD_in (by simpa using ht) (getD_replicate_false _ _)⟩
  have H := wpAnyL_lex (md := .any) (g := l.toArray.size - n) hsel hs hc hn (l.take n) 0 _ a (fun j hj => by
    have hj' : j < n := by rw [htl] at hj; exact hj
    simp [hj']) (by simpa using htl) inv0 (by rw [htl]; exact hlex) h
  refine wpIn_region_any hm ?_
  have := wpAnyIn_of_head (R := R) (Q' := Q) (g := l.toArray.size - n) (fun listed a' hL => by
    have := wpAnyIn_of_seq (R := R) (md := .any) (Q' := Q) (l.drop n) n listed a' { w with drawn := w.drawn + 1 } (fun j => by simp [List.getElem?_drop]) (by rw [hdl]; exact hL.1) hL.2
    rwa [hdl] at this) _ _ _ H
  rw [htl, show n + (l.toArray.size - n) = l.toArray.size by omega] at this
  exact this
end

section
variable {P : Program} {R : Option Nat} {Φ : Exit → Cx → St → Prop} {k : List It} {C : Cx} {s : St}
/-- A region of operations that leave the world alone, in whatever order. -/
theorem AW.still {id : Nat} {l : List Oper} (hm : P.follows .mixedOrders = true) (hB : Region.lexB .any l.toArray = true) (h : AT P R l.toArray C (fun s' => AW P R Φ .normal k C s') l s) : AW P R Φ .normal (.code (.region id l.toArray true) :: k) C s := fun B a w ha => by
  refine wpIn_region_still hm hB (h B a _ _ ha.drew (fun s' a' hs' ha' => hs' B a' _ ha'))
theorem AW.stillTail {id : Nat} {l : List Oper} (n : Nat) (hm : P.follows .mixedOrders = true) (hB : Region.lexTailB .any l.toArray n = true) (h : AT P R l.toArray C (fun s' => AW P R Φ .normal (.ops l.toArray (l.drop n) :: k) C s') (l.take n) s) : AW P R Φ .normal (.code (.region id l.toArray true) :: k) C s := fun B a w ha => by
  refine wpIn_region_still_tail n hm hB (h B a _ _ ha.drew (fun s' a' hs' ha' => hs' B a' _ ha'))
end
end Go.Ck

set_option linter.unusedVariables false
namespace Go.Ck
open Go.RowKit

/-- How a caller's values are handed over: L: the places that are lent, m: the place whose list is given away. -/
inductive Pass (P : Program) (s : St) (ρ : Nat → Nat) : List SV → List SV → List Place → Option Place → Prop where
  | nil : Pass P s ρ [] [] [] none
  | pv {r r' : List SV} {L : List Place} {m : Option Place} (p : PV) (h : Pass P s ρ r r' L m) : Pass P s ρ (.pv p :: r) (.pv p :: r') L m
  | nilsP {r r' : List SV} {L : List Place} {m : Option Place} (z : Nat) (h : Pass P s ρ r r' L m) : Pass P s ρ (.nils :: r) (.pv (.sl z []) :: r') L m
  | nilsO {r r' : List SV} {L : List Place} {m : Option Place} (e : TypeId) (h : Pass P s ρ r r' L m) : Pass P s ρ (.nils :: r) (.own e [] :: r') L m
  | nils {r r' : List SV} {L : List Place} {m : Option Place} (h : Pass P s ρ r r' L m) : Pass P s ρ (.nils :: r) (.nils :: r') L m
  | lend {r r' : List SV} {L : List Place} {m : Option Place} {p : Place} {e : TypeId} {z : Nat} {xs : List PV} (hp : s.at p = some (.own e xs)) (hz : P.cellsOf e = z) (h : Pass P s ρ r r' L m) : Pass P s ρ (.al p :: r) (.pv (.sl z xs) :: r') (p :: L) m
  | lendV {r r' : List SV} {L : List Place} {m : Option Place} {p : Place} {e : TypeId} {z off n : Nat} {xs ys : List PV} (hp : s.at p = some (.own e xs)) (hz : P.cellsOf e = z) (hy : ys = (xs.drop off).take n) (h : Pass P s ρ r r' L m) : Pass P s ρ (.vw p e off n :: r) (.pv (.sl z ys) :: r') (p :: L) m
  | move {r r' : List SV} {L : List Place} {p : Place} {e : TypeId} {xs : List PV} (hp : s.at p = some (.own e xs)) (h : Pass P s ρ r r' L none) : Pass P s ρ (.al p :: r) (.own e xs :: r') L (some p)
  | ptr {r r' : List SV} {L : List Place} {m : Option Place} {q o off : Nat} (ho : q = ρ o) (h : Pass P s ρ r r' L m) : Pass P s ρ (.ptr q off :: r) (.ptr o off :: r') L m
  | fn {r r' : List SV} {L : List Place} {m : Option Place} {f : FuncId} {caps caps' : List SV} (hc : caps' = caps.map (SV.ren1 ρ)) (h : Pass P s ρ r r' L m) : Pass P s ρ (.fn f caps' :: r) (.fn f caps :: r') L m
  | agg {r r' : List SV} {L : List Place} {m : Option Place} {cs : List SV} {ps : List PV} (ht : thaw cs = some ps) (h : Pass P s ρ r r' L m) : Pass P s ρ (.agg cs :: r) (.pv (.agg ps) :: r') L m

section
variable {P : Program} {O0 : Base} {F : Nat → Prop} {w0 w : World} {s : St} {E : Env} {tmps : Array Value}

inductive AF (P : Program) (A : Nat → Prop) (s : St) (E : Env) (w : World) (ρ : Nat → Nat) : List SV → List Value → Option Place → Prop where
  | nil : AF P A s E w ρ [] [] none
  | nilO {cs : List SV} {xs : List Value} {m : Option Place} (e : TypeId) (h : AF P A s E w ρ cs xs m) : AF P A s E w ρ (.own e [] :: cs) (.slice none 0 0 :: xs) m
  | move {cs : List SV} {xs : List Value} {p : Place} {e : TypeId} {ys : List PV} (hp : s.at p = some (.own e ys)) (h : AF P A s E w ρ cs xs none) : AF P A s E w ρ (.own e ys :: cs) (E.hdr p :: xs) (some p)
  | easy {cs : List SV} {xs : List Value} {m : Option Place} {c : SV} {x : Value} (he : c.easy = true) (hon : ∀ q, c.on q = false) (hr : ∀ Ec : Env, (∀ o, Ec.obj o = E.obj (ρ o)) → RS P A Ec w c x) (h : AF P A s E w ρ cs xs m) : AF P A s E w ρ (c :: cs) (x :: xs) m


theorem OwnL.view {A A' : Nat → Prop} {e off n : Nat} {hd x : Value} {xs : List PV} (h : OwnL P A w e hd xs) (hv : VW P hd e off n x) (hA : ∀ b, ¬ A b → ¬ A' b) (hb : ∀ b, hd.ownBlock = some b → ¬ A' b) : RO A' w (.sl (P.cellsOf e) ((xs.drop off).take n)) x := by
  obtain ⟨cs, h1, h2, h3, h4⟩ := h
  obtain ⟨⟨a, len, cap, e1, hle⟩, a', cap', rfl, hcap, hblk⟩ := hv
  have hlen : len = xs.length := by
    rcases h1.2 with ⟨e2, h0⟩ | ⟨g, cap2, cur, e2, _⟩
    · rw [e1] at e2; simp at e2; omega
    · rw [e1] at e2; simpa using (Value.slice.inj e2).2.1
  subst hlen
  have hyl : ((xs.drop off).take n).length = n := by simp; omega
  have hmul : off * P.cellsOf e + n * P.cellsOf e ≤ xs.length * P.cellsOf e := by rw [← Nat.add_mul]; exact Nat.mul_le_mul_right _ hle
  have hfl : flat ((xs.drop off).take n) = ((flat xs).drop (off * P.cellsOf e)).take (n * P.cellsOf e) := by
    rw [flat_take (fun x hx => h3 x (List.mem_of_mem_drop hx)), flat_drop h3]
  have key := RO.mkSl (A := A') (w := w) (z := P.cellsOf e) (xs := (xs.drop off).take n) (vs := (cs.drop (off * P.cellsOf e)).take (n * P.cellsOf e)) (a := a') (cap := cap') (by rw [hfl]; exact ((h2.sub hA).drop _).take _) (fun i v hv => ?_) (fun x hx => h3 x (List.mem_of_mem_drop (List.mem_of_mem_take hx))) (by rw [hyl]; omega) (by rw [hyl]; exact hcap)
  · rw [hyl] at key; exact key
  · have hi : i < n * P.cellsOf e := by
      rcases Nat.lt_or_ge i (n * P.cellsOf e) with h5 | h5
      · exact h5
      · rw [List.getElem?_take, if_neg (by omega)] at hv; cases hv
    rw [List.getElem?_take, if_pos hi, List.getElem?_drop] at hv
    have hn : 0 < n := by
      rcases Nat.eq_zero_or_pos n with h5 | h5
      · subst h5; simp at hi
      · exact h5
    obtain ⟨b, hb', rfl⟩ := hblk hn
    refine ⟨_, rfl, hb b hb', ?_⟩
    have := h1.cells hb' _ v hv
    rw [add_mk, Nat.zero_add] at this
    rw [add_mk]
    exact this

theorem Pass.af (h : Rel P O0 w0 F s E tmps w) {ρ : Nat → Nat} {Lt : Nat → Prop} {svs args : List SV} {L : List Place} {m : Option Place} (hp : Pass P s ρ svs args L m) :
    ∀ {vals : List Value}, vals.length = svs.length → (∀ (i : Nat) (v : SV) (x : Value), svs[i]? = some v → vals[i]? = some x → RS P (fun b => E.om b ∨ F b) E w v x) → (∀ p ∈ L, ∀ b, (E.hdr p).ownBlock = some b → Lt b) →
      AF P (fun b => (E.om b ∨ F b) ∧ ¬ Lt b) s E w ρ args vals m := by
  induction hp with
  | nil =>
    intro vals hl _ _
    rw [List.eq_nil_of_length_eq_zero hl]
    exact .nil
  | pv p _ ih =>
    intro vals hl hv hL
    obtain ⟨x, vals, rfl⟩ : ∃ x r, vals = x :: r := by cases vals with | nil => simp at hl | cons x r => exact ⟨x, r, rfl⟩
    have h0 := hv 0 _ x rfl rfl
    have ht := ih (vals := vals) (by simpa using hl) (fun i v x h1 h2 => hv (i + 1) v x (by simpa using h1) (by simpa using h2)) hL
    cases h0 with | pv _ _ h0 => exact .easy rfl (fun _ => rfl) (fun Ec _ => .pv _ _ (h0.sub (fun b hn h1 => hn h1.1))) ht
  | nilsP z _ ih =>
    intro vals hl hv hL
    obtain ⟨x, vals, rfl⟩ : ∃ x r, vals = x :: r := by cases vals with | nil => simp at hl | cons x r => exact ⟨x, r, rfl⟩
    have h0 := hv 0 _ x rfl rfl
    have ht := ih (vals := vals) (by simpa using hl) (fun i v x h1 h2 => hv (i + 1) v x (by simpa using h1) (by simpa using h2)) hL
    cases h0
    exact .easy rfl (fun _ => rfl) (fun Ec _ => .pv _ _ (RO.mkSl (vs := []) (ROs.nil _ _) (by simp) (by simp) (by simp) (by simp))) ht
  | nilsO e _ ih =>
    intro vals hl hv hL
    obtain ⟨x, vals, rfl⟩ : ∃ x r, vals = x :: r := by cases vals with | nil => simp at hl | cons x r => exact ⟨x, r, rfl⟩
    have h0 := hv 0 _ x rfl rfl
    have ht := ih (vals := vals) (by simpa using hl) (fun i v x h1 h2 => hv (i + 1) v x (by simpa using h1) (by simpa using h2)) hL
    cases h0
    exact .nilO e ht
  | nils _ ih =>
    intro vals hl hv hL
    obtain ⟨x, vals, rfl⟩ : ∃ x r, vals = x :: r := by cases vals with | nil => simp at hl | cons x r => exact ⟨x, r, rfl⟩
    have h0 := hv 0 _ x rfl rfl
    have ht := ih (vals := vals) (by simpa using hl) (fun i v x h1 h2 => hv (i + 1) v x (by simpa using h1) (by simpa using h2)) hL
    cases h0
    exact .easy rfl (fun _ => rfl) (fun Ec _ => .nils) ht
  | lend hp hz _ ih =>
    intro vals hl hv hL
    obtain ⟨x, vals, rfl⟩ : ∃ x r, vals = x :: r := by cases vals with | nil => simp at hl | cons x r => exact ⟨x, r, rfl⟩
    have h0 := hv 0 _ x rfl rfl
    have ht := ih (vals := vals) (by simpa using hl) (fun i v x h1 h2 => hv (i + 1) v x (by simpa using h1) (by simpa using h2)) (fun p hp => hL p (by simp [hp]))
    have hx := h0.al_inv
    subst hx
    subst hz
    refine .easy rfl (fun _ => rfl) (fun Ec _ => .pv _ _ (OwnL.toRO ((h.own hp).kept (fun b _ hn => ⟨fun h1 => hn h1.1, rfl⟩) (fun _ _ => rfl)) (fun b hb h1 => h1.2 (hL _ (by simp) b hb)))) ht
  | lendV hp hz hy _ ih =>
    intro vals hl hv hL
    obtain ⟨x, vals, rfl⟩ : ∃ x r, vals = x :: r := by cases vals with | nil => simp at hl | cons x r => exact ⟨x, r, rfl⟩
    have h0 := hv 0 _ x rfl rfl
    have ht := ih (vals := vals) (by simpa using hl) (fun i v x h1 h2 => hv (i + 1) v x (by simpa using h1) (by simpa using h2)) (fun p hp => hL p (by simp [hp]))
    cases h0 with | vw _ _ _ _ _ h0 => ?_
    subst hz
    subst hy
    refine .easy rfl (fun _ => rfl) (fun Ec _ => .pv _ _ ((h.own hp).view h0 (fun b hn h1 => hn h1.1) (fun b hb h1 => h1.2 (hL _ (by simp) b hb)))) ht
  | move hp _ ih =>
    intro vals hl hv hL
    obtain ⟨x, vals, rfl⟩ : ∃ x r, vals = x :: r := by cases vals with | nil => simp at hl | cons x r => exact ⟨x, r, rfl⟩
    have h0 := hv 0 _ x rfl rfl
    have ht := ih (vals := vals) (by simpa using hl) (fun i v x h1 h2 => hv (i + 1) v x (by simpa using h1) (by simpa using h2)) hL
    have hx := h0.al_inv
    subst hx
    exact .move hp ht
  | ptr ho _ ih =>
    intro vals hl hv hL
    obtain ⟨x, vals, rfl⟩ : ∃ x r, vals = x :: r := by cases vals with | nil => simp at hl | cons x r => exact ⟨x, r, rfl⟩
    have h0 := hv 0 _ x rfl rfl
    have ht := ih (vals := vals) (by simpa using hl) (fun i v x h1 h2 => hv (i + 1) v x (by simpa using h1) (by simpa using h2)) hL
    subst ho
    refine .easy rfl (fun _ => rfl) (fun Ec hEc => RS.unren (v := .ptr _ _) (ρ := ρ) h0 (fun b hn h1 => hn h1.1) (fun o _ => (hEc o).symm) (fun _ => rfl)) ht
  | fn hc _ ih =>
    intro vals hl hv hL
    obtain ⟨x, vals, rfl⟩ : ∃ x r, vals = x :: r := by cases vals with | nil => simp at hl | cons x r => exact ⟨x, r, rfl⟩
    have h0 := hv 0 _ x rfl rfl
    have ht := ih (vals := vals) (by simpa using hl) (fun i v x h1 h2 => hv (i + 1) v x (by simpa using h1) (by simpa using h2)) hL
    subst hc
    refine .easy rfl (fun _ => rfl) (fun Ec hEc => RS.unren (v := .fn _ _) (ρ := ρ) h0 (fun b hn h1 => hn h1.1) (fun o _ => (hEc o).symm) (fun _ => rfl)) ht
  | agg ht' _ ih =>
    intro vals hl hv hL
    obtain ⟨x, vals, rfl⟩ : ∃ x r, vals = x :: r := by cases vals with | nil => simp at hl | cons x r => exact ⟨x, r, rfl⟩
    have h0 := hv 0 _ x rfl rfl
    have ht := ih (vals := vals) (by simpa using hl) (fun i v x h1 h2 => hv (i + 1) v x (by simpa using h1) (by simpa using h2)) hL
    cases h0 with | agg _ vs hl' h1 h2 => ?_
    obtain ⟨k1, k2, k3⟩ := thaw_sound hl' h2 ht'
    exact .easy rfl (fun _ => rfl) (fun Ec _ => .pv _ _ (.agg _ _ (by simpa using k1) k2 (fun i c v hc hv => (k3 i c v hc (by simpa using hv)).sub (fun b hn h1 => hn h1.1)))) ht

theorem AF.facts {A : Nat → Prop} {ρ : Nat → Nat} {args : List SV} {vals : List Value} {m : Option Place} (h : AF P A s E w ρ args vals m) : vals.length = args.length ∧
    (∀ (i : Nat) (c : SV) (x : Value), args[i]? = some c → vals[i]? = some x → (∃ e, c = .own e [] ∧ x = .slice none 0 0) ∨ (∃ e ys p, c = .own e ys ∧ m = some p ∧ s.at p = some (.own e ys) ∧ x = E.hdr p) ∨ (c.easy = true ∧ (∀ q, c.on q = false) ∧ ∀ Ec : Env, (∀ o, Ec.obj o = E.obj (ρ o)) → RS P A Ec w c x)) ∧
    (m = none → ∀ (i : Nat) (e : TypeId) (ys : List PV) (x : Value), args[i]? = some (.own e ys) → vals[i]? = some x → x.ownBlock = none) ∧
    ∀ (i j : Nat) (e : TypeId) (xs : List PV) (e' : TypeId) (ys : List PV) (x y : Value) (b b' : Nat), args[i]? = some (.own e xs) → args[j]? = some (.own e' ys) → vals[i]? = some x → vals[j]? = some y → x.ownBlock = some b → y.ownBlock = some b' → i = j := by
  induction h with
  | nil => exact ⟨rfl, by simp, by simp, by simp⟩
  | nilO e h ih =>
    obtain ⟨h1, h2, h3, h4⟩ := ih
    refine ⟨by simp [h1], fun i c x hc hx => ?_, fun hm i e' ys x hc hx => ?_, fun i j e1 xs e2 ys x y b b' hi hj hx hy hb hb' => ?_⟩
    · cases i with
      | zero => simp at hc hx; subst hc; subst hx; exact .inl ⟨e, rfl, rfl⟩
      | succ i => exact h2 i c x (by simpa using hc) (by simpa using hx)
    · cases i with
      | zero => simp at hx; subst hx; rfl
      | succ i => exact h3 hm i e' ys x (by simpa using hc) (by simpa using hx)
    · cases i with
      | zero => simp at hx; subst hx; cases hb
      | succ i =>
        cases j with
        | zero => simp at hy; subst hy; cases hb'
        | succ j => rw [h4 i j e1 xs e2 ys x y b b' (by simpa using hi) (by simpa using hj) (by simpa using hx) (by simpa using hy) hb hb']
  | move hp h ih =>
    obtain ⟨h1, h2, h3, h4⟩ := ih
    refine ⟨by simp [h1], fun i c x hc hx => ?_, fun hm => (by cases hm), fun i j e1 xs e2 ys x y b b' hi hj hx hy hb hb' => ?_⟩
    · cases i with
      | zero => simp at hc hx; subst hc; subst hx; exact .inr (.inl ⟨_, _, _, rfl, rfl, hp, rfl⟩)
      | succ i =>
        rcases h2 i c x (by simpa using hc) (by simpa using hx) with k | ⟨_, _, _, _, k, _⟩ | k
        · exact .inl k
        · cases k
        · exact .inr (.inr k)
    · cases i with
      | zero =>
        cases j with
        | zero => rfl
        | succ j => rw [h3 rfl j e2 ys y (by simpa using hj) (by simpa using hy)] at hb'; cases hb'
      | succ i => rw [h3 rfl i e1 xs x (by simpa using hi) (by simpa using hx)] at hb; cases hb
  | easy he hon hr h ih =>
    obtain ⟨h1, h2, h3, h4⟩ := ih
    refine ⟨by simp [h1], fun i c x hc hx => ?_, fun hm i e' ys x hc hx => ?_, fun i j e1 xs e2 ys x y b b' hi hj hx hy hb hb' => ?_⟩
    · cases i with
      | zero => simp at hc hx; subst hc; subst hx; exact .inr (.inr ⟨he, hon, hr⟩)
      | succ i => exact h2 i c x (by simpa using hc) (by simpa using hx)
    · cases i with
      | zero => simp at hc; subst hc; simp [SV.easy] at he
      | succ i => exact h3 hm i e' ys x (by simpa using hc) (by simpa using hx)
    · cases i with
      | zero => simp at hi; subst hi; simp [SV.easy] at he
      | succ i =>
        cases j with
        | zero => simp at hj; subst hj; simp [SV.easy] at he
        | succ j => rw [h4 i j e1 xs e2 ys x y b b' (by simpa using hi) (by simpa using hj) (by simpa using hx) (by simpa using hy) hb hb']
end
end Go.Ck

set_option linter.unusedVariables false
namespace Go.Ck
open Go.RowKit

def putHp (q : Nat) (h : HO) (hp : List (Nat × HO)) : List (Nat × HO) := match look q hp with
  | some _ => setObj q h hp
  | none => (q, h) :: hp
def updHp (ρ : Nat → Nat) : List (Nat × HO) → List (Nat × HO) → List (Nat × HO)
  | [], hp => hp
  | (o, h) :: r, hp => updHp ρ r (putHp (ρ o) (h.ren ρ) hp)
theorem look_putHp (q : Nat) (h : HO) (hp : List (Nat × HO)) (p : Nat) : look p (putHp q h hp) = if p = q then some h else look p hp := by
  unfold putHp
  split
  · rename_i x hx
    rw [look_setObj]
    split
    · rw [hx]; rfl
    · rfl
  · simp only [look]
    by_cases h1 : q = p
    · subst h1; simp
    · rw [if_neg h1, if_neg (fun h2 => h1 h2.symm)]
def namesOf (H : List (Nat × HO)) : List Nat := H.map (·.1)
theorem look_mem {H : List (Nat × HO)} {o : Nat} {y : HO} (h : look o H = some y) : (o, y) ∈ H := by
  induction H with
  | nil => simp [look] at h
  | cons a r ih =>
    obtain ⟨k, v⟩ := a
    simp only [look] at h
    split at h
    · rename_i e; subst e; cases h; simp
    · exact List.mem_cons_of_mem _ (ih h)
theorem look_some_of_mem {H : List (Nat × HO)} {o : Nat} (h : o ∈ namesOf H) : ∃ y, look o H = some y := by
  induction H with
  | nil => simp [namesOf] at h
  | cons a r ih =>
    obtain ⟨k, v⟩ := a
    simp only [look]
    by_cases e : k = o
    · exact ⟨v, by rw [if_pos e]⟩
    · rw [if_neg e]
      refine ih ?_
      simp only [namesOf, List.map_cons, List.mem_cons] at h
      rcases h with h | h
      · exact absurd h.symm e
      · exact h
theorem updHp_out (ρ : Nat → Nat) : ∀ (H' hp : List (Nat × HO)) (q : Nat), (∀ o ∈ namesOf H', ρ o ≠ q) → look q (updHp ρ H' hp) = look q hp
  | [], hp, q, _ => rfl
  | (o, h) :: r, hp, q, hq => by
    simp only [updHp]
    rw [updHp_out ρ r _ q (fun o' ho' => hq o' (by simp only [namesOf, List.map_cons, List.mem_cons]; exact .inr ho')), look_putHp, if_neg (fun h1 => hq o (by simp [namesOf]) h1.symm)]
theorem updHp_in (ρ : Nat → Nat) : ∀ (H' hp : List (Nat × HO)) (o : Nat) (y : HO), (namesOf H').Nodup → (∀ a ∈ namesOf H', ∀ b ∈ namesOf H', ρ a = ρ b → a = b) → look o H' = some y → look (ρ o) (updHp ρ H' hp) = some (y.ren ρ)
  | [], hp, o, y, _, _, h => by simp [look] at h
  | (k, v) :: r, hp, o, y, hn, hi, h => by
    simp only [namesOf, List.map_cons, List.nodup_cons] at hn
    simp only [updHp]
    simp only [look] at h
    split at h
    · rename_i e; subst e
      cases h
      rw [updHp_out ρ r _ _ (fun a ha he => hn.1 (by
        have := hi a (by simp only [namesOf, List.map_cons, List.mem_cons]; exact .inr ha) k (by simp [namesOf]) he
        subst this; exact ha)), look_putHp, if_pos rfl]
    · exact updHp_in ρ r _ o y hn.2 (fun a ha b hb => hi a (by simp only [namesOf, List.map_cons, List.mem_cons]; exact .inr ha) b (by simp only [namesOf, List.map_cons, List.mem_cons]; exact .inr hb)) h

def resOK : SV → Bool
  | .al _ | .vw _ _ _ _ | .ea _ _ _ _ | .tup _ | .dead => false
  | _ => true
def putTupS (d : Nat) (vs : List SV) (s : St) : St := if d < s.n then setSlot d (.tup vs) (clear d s) else s
/-- The state behind a call. -/
def afterCall (ρ : Nat → Nat) (d : Nat) (rs : List SV) (s : St) : St := match rs with
  | [r] => put d (r.ren ρ) s
  | rs => putTupS d (rs.map (SV.ren ρ)) s
def giveUp (m : Option Place) (s : St) : St := match m with
  | some p => del p s
  | none => s

section
variable {P : Program} {O0 : Base} {F : Nat → Prop} {w0 w : World} {s : St} {E : Env} {tmps : Array Value}

theorem Unused.mono {s' : St} {b : Nat} (h : Unused s E b) (hp : ∀ q y, look q s'.hp = some y → ∃ y', look q s.hp = some y') (ho : ∀ p e xs, s'.at p = some (.own e xs) → s.at p = some (.own e xs)) : Unused s' E b :=
  ⟨fun o y hy => let ⟨y', hy'⟩ := hp o y hy; h.1 o y' hy', fun p e xs hp' => h.2 p e xs (ho p e xs hp')⟩

theorem resOK_facts {r : SV} (h : resOK r = true) : (∃ e xs, r = .own e xs) ∨ (r.easy = true ∧ (∀ q, r.on q = false) ∧ r ≠ .dead) := by
  cases r <;> simp [resOK] at h <;> first | exact .inl ⟨_, _, rfl⟩ | exact .inr ⟨rfl, fun _ => rfl, by simp⟩

theorem ren_easy (ρ : Nat → Nat) (v : SV) : (v.ren ρ).easy = v.easy := by cases v <;> rfl

/-- The results of a call are put away. -/
theorem afterCall_sound (h : Rel P O0 w0 F s E tmps w) {ρ : Nat → Nat} {rs : List SV} {us : List Value} (d : Nat) (hl : us.length = rs.length) (hok : rs.all resOK = true)
    (hr : ∀ (i : Nat) (r : SV) (x : Value), rs[i]? = some r → us[i]? = some x →
      (∀ e xs, r = .own e xs → OwnL P (fun b => E.om b ∨ F b) w e x xs ∧ (∀ b, x.ownBlock = some b → E.om b ∧ Unused s E b) ∧
        ∀ (j : Nat) (e' : TypeId) (ys : List PV) (y : Value) (b : Nat), rs[j]? = some (.own e' ys) → us[j]? = some y → x.ownBlock = some b → y.ownBlock = some b → i = j) ∧
      (r.easy = true → (∀ q, r.on q = false) → r = .dead ∨ RS P (fun b => E.om b ∨ F b) E w (r.ren ρ) x) ∧ ∀ o, r.pts o = true → ∃ z, look (ρ o) s.hp = some z) :
    ∃ E', Rel P O0 w0 F (afterCall ρ d rs s) E' (tmps.setIfInBounds d (pack us)) w := by
  have gen : rs.length ≠ 1 → ∃ E', Rel P O0 w0 F (putTupS d (rs.map (SV.ren ρ)) s) E' (tmps.setIfInBounds d (.tuple us.toArray)) w := by
    intro hne
    unfold putTupS
    split
    · rename_i hd
      obtain ⟨hc, hf⟩ := h.clear d
      refine hc.putTup (by rw [clear_n]; exact hd) hf (by simpa using hl) (fun i v x hv hx => ?_) (fun i j e xs e' ys x y b hi hj hx hy hb hb' => ?_)
      · rw [List.getElem?_map, Option.map_eq_some_iff] at hv
        obtain ⟨r, hri, rfl⟩ := hv
        obtain ⟨k1, k2, k3⟩ := hr i r x hri hx
        rcases resOK_facts (List.all_eq_true.1 hok r (List.mem_of_getElem? hri)) with ⟨e, xs, rfl⟩ | ⟨h1, h2, h3⟩
        · obtain ⟨a1, a2, a3⟩ := k1 e xs rfl
          exact ⟨a1, fun b hb => ⟨(a2 b hb).1, (a2 b hb).2.clear d⟩⟩
        · have hrs := (k2 h1 h2).resolve_left h3
          have hp : ∀ o, (r.ren ρ).pts o = true → ∃ z, look o (Ck.clear d s).hp = some z := by
            intro o ho
            obtain ⟨o', ho', rfl⟩ := ren_pts ho
            rw [clear_hp]; exact k3 o' ho'
          have hon : ∀ q, (r.ren ρ).on q = false := fun q => by rw [ren_on]; exact h2 q
          have he : (r.ren ρ).easy = true := by rw [ren_easy]; exact h1
          generalize r.ren ρ = v at *
          cases v <;> simp [SV.easy] at he <;> exact ⟨hon, .inr hrs, hp⟩
      · rw [List.getElem?_map, Option.map_eq_some_iff] at hi hj
        obtain ⟨r, hri, hre⟩ := hi
        obtain ⟨r', hrj, hre'⟩ := hj
        rw [ren_own] at hre hre'
        subst hre; subst hre'
        exact ((hr i _ x hri hx).1 e xs rfl).2.2 j e' ys y b hrj hy hb hb'
    · rename_i hd
      rw [Array.setIfInBounds_eq_of_size_le (by rw [← h.size]; omega)]
      exact ⟨E, h⟩
  match rs, us, hl with
  | [], [], _ => exact gen (by simp)
  | r :: r2 :: rs, u :: u2 :: us, _ => exact gen (by simp)
  | [r], [u], _ =>
    obtain ⟨k1, k2, k3⟩ := hr 0 r u rfl rfl
    simp only [afterCall, pack]
    rcases resOK_facts (List.all_eq_true.1 hok r (by simp)) with ⟨e, xs, rfl⟩ | ⟨h1, h2, h3⟩
    · obtain ⟨a1, a2, a3⟩ := k1 e xs rfl
      exact h.putOwn d a1 a2
    · have hrs := (k2 h1 h2).resolve_left h3
      refine ⟨E, h.putGood d ⟨(by rw [ren_easy]; exact h1), (fun q hq => by rw [ren_on, h2 q] at hq; cases hq), fun o ho => ?_⟩ hrs⟩
      obtain ⟨o', ho', rfl⟩ := ren_pts ho
      exact k3 o' ho'

theorem del_hp {p : Place} {q : Nat} (hq : ∀ i, p ≠ .cell q i) : look q (del p s).hp = look q s.hp := by
  unfold del
  cases p with
  | slot d => rfl
  | part d i => simp only [setAt]; split <;> rfl
  | cell o i =>
    simp only [setAt]
    split
    · simp only [look_setObj]
      rw [if_neg (by rintro rfl; exact hq i rfl)]
      rfl
    · rfl
theorem del_hp' {p : Place} {q : Nat} {y : HO} (h : look q (del p s).hp = some y) : ∃ y', look q s.hp = some y' := by
  unfold del at h
  rcases setAt_hp p .dead _ q y h with h2 | ⟨e, cs, i, _, h2, _⟩
  · exact ⟨y, h2⟩
  · exact ⟨_, h2⟩
end
end Go.Ck

set_option linter.unusedVariables false
namespace Go.Ck
open Go.RowKit
section
variable {P : Program} {O0 : Base} {F : Nat → Prop} {w0 w : World} {s : St} {E : Env} {a : Act}

/-- The state that a call leaves the caller with, ahead of the results. -/
def handOver (s : St) (ρ : Nat → Nat) (m : Option Place) (H : List (Nat × HO)) : St := killOs ((namesOf H).map ρ) (giveUp m s)

/-- What is asked of a call's objects and places. -/
structure CallOK (s : St) (ρ : Nat → Nat) (H : List (Nat × HO)) (args : List SV) (L : List Place) (m : Option Place) : Prop where
  hH : ∀ o y, look o H = some y → look (ρ o) s.hp = some (y.ren ρ)
  inj : ∀ o o' y y', look o H = some y → look o' H = some y' → ρ o = ρ o' → o = o'
  hp : ∀ o y c o', look o H = some y → c ∈ y.list → c.pts o' = true → ∃ z, look o' H = some z
  pts : ∀ c ∈ args, ∀ o, c.pts o = true → ∃ z, look o H = some z
  lent : ∀ p ∈ L, m ≠ some p ∧ ∀ o y i, look o H = some y → p ≠ .cell (ρ o) i
  moved : ∀ p, m = some p → ∀ o y i, look o H = some y → p ≠ .cell (ρ o) i

theorem call_sound (h : Rel P O0 w0 F s E a.tmps w) (hG : GOK P (fun b => E.om b ∨ F b) w) {ρ : Nat → Nat} {H : List (Nat × HO)} {svs args : List SV} {L : List Place} {m : Option Place} {vals : List Value} {f : FuncId} {Ψ : List SV → List (Nat × HO) → Prop} {d : Nat}
    (hl : vals.length = svs.length) (hv : ∀ (i : Nat) (v : SV) (x : Value), svs[i]? = some v → vals[i]? = some x → RS P (fun b => E.om b ∨ F b) E w v x) (hp : Pass P s ρ svs args L m) (hok : CallOK s ρ H args L m) (hF : Fn P f H args Ψ)
    {K : St → Prop}
    (hk : ∀ rs H', Ψ rs H' → rs.all resOK = true ∧ (namesOf H').Nodup ∧ (∀ o ∈ namesOf H', ∀ o' ∈ namesOf H', ρ o = ρ o' → o = o') ∧ (∀ o ∈ namesOf H', look o H = none → look (ρ o) s.hp = none) ∧ (L = [] ∨ (rs.all SV.clo = true ∧ H'.all (fun y => y.2.clo) = true)) ∧
      K (afterCall ρ d rs ⟨s.n, (handOver s ρ m H).sl, updHp ρ H' (handOver s ρ m H).hp⟩)) :
    Calls P f vals.toArray w (fun
      | .returned v, w' => ∃ s', K s' ∧ ∃ E', Rel P O0 w0 F s' E' (a.tmps.setIfInBounds d v) w'
      | .panicked _, _ => False
      | .outgrown, _ => False) := by
  let Lt : Nat → Prop := fun b => ∃ p ∈ L, (E.hdr p).ownBlock = some b
  have haf := Pass.af h (Lt := Lt) hp hl hv (fun p hp' b hb => ⟨p, hp', hb⟩)
  obtain ⟨f1, f2, f3, f4⟩ := haf.facts
  -- ahead: the list that is given away is taken out
  have hpown : ∀ p, m = some p → ∃ e xs, s.at p = some (.own e xs) := by
    intro p hm
    subst hm
    have key : ∀ {svs args L m}, Pass P s ρ svs args L m → ∀ p, m = some p → ∃ e xs, s.at p = some (.own e xs) := by
      intro svs args L m hp
      induction hp with
      | nil => simp
      | move hp _ _ => intro p h1; cases h1; exact ⟨_, _, hp⟩
      | pv _ _ ih => exact ih
      | nilsP _ _ ih => exact ih
      | nilsO _ _ ih => exact ih
      | nils _ ih => exact ih
      | lend _ _ _ ih => exact ih
      | lendV _ _ _ _ ih => exact ih
      | ptr _ _ ih => exact ih
      | fn _ _ ih => exact ih
      | agg _ _ ih => exact ih
    exact key hp p rfl
  have hgive : Rel P O0 w0 F (giveUp m s) E a.tmps w ∧ (∀ p e xs, (giveUp m s).at p = some (.own e xs) → s.at p = some (.own e xs) ∧ m ≠ some p) ∧ (∀ q y, look q (giveUp m s).hp = some y → ∃ y', look q s.hp = some y') ∧
      (∀ q, (∀ p i, m = some p → p ≠ .cell q i) → look q (giveUp m s).hp = look q s.hp) ∧ (giveUp m s).n = s.n := by
    cases m with
    | none => exact ⟨h, fun p e xs h1 => ⟨h1, by simp⟩, fun q y hy => ⟨y, hy⟩, fun q _ => rfl, rfl⟩
    | some p =>
      obtain ⟨e, xs, hpo⟩ := hpown p rfl
      obtain ⟨_, _, _, h4⟩ := h.take hpo
      refine ⟨h4, fun q e' ys hq => ?_, fun q y hy => del_hp' hy, fun q hq => del_hp (fun i => hq p i rfl), ?_⟩
      · obtain ⟨h5, h6⟩ := del_own (e := e) (xs := xs) hpo rfl hq ⟨_, kill_own p s hpo, rfl⟩
        exact ⟨h6, by simpa using fun h7 => h5 h7.symm⟩
      · show (del p s).n = s.n
        unfold del; rw [setAt_n]; rfl
  obtain ⟨g1, g2, g3, g4, g5⟩ := hgive
  obtain ⟨k1, k2, k3, k4, k4', k5⟩ := killOs_facts ((namesOf H).map ρ) g1
  have hs1 : handOver s ρ m H = killOs ((namesOf H).map ρ) (giveUp m s) := rfl
  have hH1 : ∀ o y, look o H = some y → look (ρ o) (handOver s ρ m H).hp = some (y.ren ρ) := by
    intro o y hy
    rw [hs1, k2, g4 (ρ o) (fun p i hm => hok.moved p hm o y i hy)]
    exact hok.hH o y hy
  have hown1 : ∀ p e xs, (handOver s ρ m H).at p = some (.own e xs) → s.at p = some (.own e xs) ∧ m ≠ some p := fun p e xs hp' => g2 p e xs (k4 p e xs hp')
  -- the arguments
  have hmv : ∀ {i : Nat} {e : TypeId} {xs : List PV} {x : Value}, args[i]? = some (SV.own e xs) → vals[i]? = some x → (xs = [] ∧ x = .slice none 0 0) ∨ ∃ p, m = some p ∧ s.at p = some (.own e xs) ∧ x = E.hdr p := by
    intro i e xs x hi hx
    rcases f2 i _ x hi hx with ⟨e', h1, h2⟩ | ⟨e', ys, p, h1, h2, h3, h4⟩ | ⟨h1, _⟩
    · cases h1; exact .inl ⟨rfl, h2⟩
    · cases h1; exact .inr ⟨p, h2, h3, h4⟩
    · simp [SV.easy] at h1
  have ha : Args P (fun b => E.om b ∨ F b) (handOver s ρ m H) E ρ H Lt w args vals := by
    refine ⟨f1, fun i e xs x hi hx => ?_, fun i c x hi hx => ?_, fun i c o hi ho => hok.pts c (List.mem_of_getElem? hi) o ho, fun i j e xs e' ys x y b hi hj hx hy hb hb' => f4 i j e xs e' ys x y b b hi hj hx hy hb hb'⟩
    · rcases hmv hi hx with ⟨rfl, rfl⟩ | ⟨p, hm, hpo, rfl⟩
      · exact ⟨⟨[], World.ownsRow_nil w 0 _ _, ROs.nil _ _, by simp, by simp⟩, by simp [Value.ownBlock]⟩
      · obtain ⟨_, t2, t3, _⟩ := h.take hpo
        refine ⟨t2, fun b hb => ⟨(t3 b hb).1, ⟨fun o y hy => ?_, fun q e' ys hq hqb => ?_⟩⟩⟩
        · rw [hs1, k2] at hy
          obtain ⟨y', hy'⟩ := g3 o y hy
          exact h.i3 p e xs o y' b hpo hy' hb
        · obtain ⟨h5, h6⟩ := hown1 q e' ys hq
          have := h.i2 q p e' ys e xs b h5 hpo hqb hb
          subst this
          exact h6 hm
    · rcases f2 i c x hi hx with ⟨e', h1, h2⟩ | ⟨e', ys, p, h1, h2, h3, h4⟩ | ⟨h1, h2, h3⟩
      · exact .inl ⟨_, _, h1⟩
      · exact .inl ⟨_, _, h1⟩
      · exact .inr ⟨h1, h2, h3 _ (fun _ => rfl)⟩
  have hLown : ∀ p ∈ L, ∃ e xs, s.at p = some (.own e xs) := by
    have key : ∀ {svs args L m}, Pass P s ρ svs args L m → ∀ p ∈ L, ∃ e xs, s.at p = some (.own e xs) := by
      intro svs args L m hp
      induction hp with
      | nil => simp
      | lend hp _ _ ih => exact fun q hq => (List.mem_cons.1 hq).elim (fun h1 => h1 ▸ ⟨_, _, hp⟩) (ih q)
      | lendV hp _ _ _ ih => exact fun q hq => (List.mem_cons.1 hq).elim (fun h1 => h1 ▸ ⟨_, _, hp⟩) (ih q)
      | move _ _ ih => exact ih
      | pv _ _ ih => exact ih
      | nilsP _ _ ih => exact ih
      | nilsO _ _ ih => exact ih
      | nils _ ih => exact ih
      | ptr _ _ ih => exact ih
      | fn _ _ ih => exact ih
      | agg _ _ ih => exact ih
    exact key hp
  have hLtom : ∀ b, Lt b → E.om b := by
    rintro b ⟨p, hpL, hb⟩
    obtain ⟨e, xs, hpo⟩ := hLown p hpL
    obtain ⟨_, _, _, _, h4⟩ := h.place p _ hpo
    exact h4 b hb
  have hLt : ∀ b, Lt b → ¬ OmC E ρ H args vals b := by
    rintro b ⟨p, hpL, hb⟩ hc
    obtain ⟨e, xs, hpo⟩ := hLown p hpL
    obtain ⟨hl1, hl2⟩ := hok.lent p hpL
    rcases hc with ⟨o, y, h1, h2⟩ | ⟨o, y, i, e', ys, h1, h2, h3⟩ | ⟨i, e', ys, x, h1, h2, h3⟩
    · exact h.i3 p e xs _ _ b hpo (hok.hH o y h1) hb h2
    · have hat : s.at (.cell (ρ o) i) = some (.own e' ys) := by
        rw [at_cell, hok.hH o y h1]
        simp only [HO.ren_list, List.getElem?_map, h2, Option.map_some]; rfl
      exact hl2 o y i h1 (h.i2 _ _ _ _ _ _ b hpo hat hb h3)
    · rcases hmv h1 h2 with ⟨rfl, rfl⟩ | ⟨q, hm, hqo, rfl⟩
      · simp [Value.ownBlock] at h3
      · have := h.i2 _ _ _ _ _ _ b hpo hqo hb h3
        subst this
        exact hl1 hm
  have hent := entry k1 (ρ := ρ) (H := H) (Lt := Lt) (args := args) (vals := vals) hH1 hok.inj hok.hp hLt ha
  have hGc : GOK P (fun b => OmC E ρ H args vals b ∨ ((E.om b ∨ F b) ∧ ¬ OmC E ρ H args vals b ∧ ¬ Lt b)) w := hG.mono (fun b _ hn => ⟨fun hc => hn (hc.elim (fun h1 => .inl (OmC_om k1 ha hH1 h1)) (fun h1 => h1.1)), rfl⟩) (Nat.le_refl _)
  refine (hF.2 _ w _ vals f1 hGc hent).mono (fun e w' he => ?_)
  cases e with
  | panicked c => exact he
  | outgrown => exact he
  | returned v =>
    obtain ⟨rs, H', E', us, hΨ, hul, rfl, hR⟩ := he
    obtain ⟨q1, q2, q3, q4, q5, q6⟩ := hk rs H' hΨ
    have hmem : ∀ {o : Nat} {y : HO} {G : List (Nat × HO)}, look o G = some y → o ∈ namesOf G := fun hy => List.mem_map.2 ⟨_, look_mem hy, rfl⟩
    have hinj' : ∀ o o' y y', look o H' = some y → look o' H' = some y' → ρ o = ρ o' → o = o' := fun o o' y y' hy hy' he => q3 o (hmem hy) o' (hmem hy') he
    have hnone : ∀ q, look q s.hp = none → look q (handOver s ρ m H).hp = none := by
      intro q hq
      cases hc : look q (handOver s ρ m H).hp with
      | none => rfl
      | some y =>
        rw [hs1, k2] at hc
        obtain ⟨y', hy'⟩ := g3 q y hc
        rw [hq] at hy'; cases hy'
    obtain ⟨r1, r2⟩ := leave k1 (ρ := ρ) (H := H) (H' := H') (Lt := Lt) (args := args) (rs := rs) (vals := vals) (us := us) hH1 hLtom ha hinj'
      (fun o y hy hn => hnone _ (q4 o (hmem hy) hn))
      (fun p v q hpv hq o y i hy he => by
        cases hl : look o H with
        | some z => exact k5 p v q hpv hq (ρ o) (List.mem_map.2 ⟨o, hmem hl, rfl⟩) i he
        | none =>
          obtain ⟨_, ⟨e, xs, h7⟩, _⟩ := k1.na p v q hpv hq
          subst he
          rw [at_cell] at h7
          have h8 := hnone _ (q4 o (hmem hy) hl)
          rw [hs1] at h8
          rw [h8] at h7
          cases h7)
      hR (q5.imp (fun hL b ⟨p, hpL, _⟩ => by rw [hL] at hpL; cases hpL) (fun hc => ⟨fun r hr => List.all_eq_true.1 hc.1 r hr, fun o y hy => (by have := List.all_eq_true.1 hc.2 (o, y) (look_mem hy); exact this)⟩))
      (hp := updHp ρ H' (handOver s ρ m H).hp) (fun o y hy => updHp_in ρ H' _ o y q2 q3 hy) (fun q hq => updHp_out ρ H' _ q (fun o ho he => by
        obtain ⟨y, hy⟩ := look_some_of_mem ho
        exact hq o y hy he))
    have hn1 : (killOs ((namesOf H).map ρ) (giveUp m s)).n = s.n := by rw [k3, g5]
    rw [hn1] at r1 r2
    obtain ⟨E2, hE2⟩ := afterCall_sound r1 (ρ := ρ) d hul q1 r2
    exact ⟨_, q6, E2, hE2⟩
end
end Go.Ck

set_option linter.unusedVariables false
namespace Go.Ck
open Go.RowKit

section
variable {P : Program} {R : Option Nat} {Φ : Exit → Cx → St → Prop} {k : List It} {C : Cx} {s : St}

theorem RS.fn_inv {A : Nat → Prop} {E : Env} {w : World} {f : FuncId} {caps : List SV} {x : Value} (h : RS P A E w (.fn f caps) x) :
    ∃ vs : List Value, x = .func (.func f) #[] vs.toArray ∧ vs.length = caps.length ∧ ∀ (i : Nat) (c : SV) (v : Value), caps[i]? = some c → vs[i]? = some v → RS P A E w c v := by
  cases h with | fn _ _ vs hl h1 h => exact ⟨vs, rfl, hl, h⟩

/-- A call of a function with a body. -/
theorem AW.call {all : Array Oper} {o : Oper} {r : List Oper} {c : Call} {fx : Operand} {f : FuncId} {caps svs : List SV} {ρ : Nat → Nat} {H : List (Nat × HO)} {args : List SV} {L : List Place} {m : Option Place} {Ψ : List SV → List (Nat × HO) → Prop} {d : Nat}
    (hg : o.guard = none) (ho : o.op = .call c) (hd : o.dst = some d) (hc : c.callee = .value fx) (hf : ev s fx = some (.fn f caps)) (hx : evs s c.args.toList = some svs)
    (hp : Pass P s ρ (svs ++ caps) args L m) (hok : CallOK s ρ H args L m) (hF : Fn P f H args Ψ)
    (hk : ∀ rs H', Ψ rs H' → rs.all resOK = true ∧ (namesOf H').Nodup ∧ (∀ o ∈ namesOf H', ∀ o' ∈ namesOf H', ρ o = ρ o' → o = o') ∧ (∀ o ∈ namesOf H', look o H = none → look (ρ o) s.hp = none) ∧ (L = [] ∨ (rs.all SV.clo = true ∧ H'.all (fun y => y.2.clo) = true)) ∧
      AW P R Φ .normal (.ops all r :: k) C (afterCall ρ d rs ⟨s.n, (handOver s ρ m H).sl, updHp ρ H' (handOver s ρ m H).hp⟩)) :
    AW P R Φ .normal (.ops all (o :: r) :: k) C s := fun B a w ha => by
  simp only [den]
  refine wpListIn_want (by simp [Region.wanted, hg]) (fun c' hc' => by rw [ho] at hc'; cases hc') ?_
  obtain ⟨fn, hfn, hname, hbody⟩ := hF.1
  obtain ⟨hdf, E, h⟩ := ha
  obtain ⟨cvs, e1, e2, e3⟩ := (ev_rs h hf).fn_inv
  obtain ⟨h1, h2⟩ := evs_sound h hx
  have hrun : (execOp a.eval o).run P w = .ok (.enter f (c.args.toList.map a.eval ++ cvs).toArray) w := by
    have hargs : c.args.map a.eval ++ cvs.toArray = (c.args.toList.map a.eval ++ cvs).toArray := by apply Array.ext'; simp
    have hbody' : ∃ b, fn.body = some b := by cases hb : fn.body with | none => simp [hb] at hbody | some b => exact ⟨b, rfl⟩
    obtain ⟨b, hb⟩ := hbody'
    have hname' : ¬ fn.name = "runtime.NumGoroutine" := by simpa using hname
    simp [execOp, ho, resolve, hc, e1, Deferred.ofValue, invoke, callFunc, hfn, hname', hb, hargs]
  rw [hrun, Oper.uponIn_enter]
  refine ⟨fun h => by simp [fence, Fence.wide] at h, callsIn_fence ?_⟩
  have hcs := call_sound h (Rel.gok hdf.2.2 h) (ρ := ρ) (H := H) (svs := svs ++ caps) (args := args) (L := L) (m := m) (vals := c.args.toList.map a.eval ++ cvs) (f := f) (Ψ := Ψ) (d := d) (by simp [e2, h1]) (fun i v x hi hxi => by
      by_cases hlt : i < svs.length
      · rw [List.getElem?_append_left hlt] at hi
        rw [List.getElem?_append_left (by simp [← h1]; exact hlt), List.getElem?_map, Option.map_eq_some_iff] at hxi
        obtain ⟨x0, hx0, rfl⟩ := hxi
        exact ev_rs h (h2 i x0 v hx0 hi)
      · rw [List.getElem?_append_right (by omega)] at hi
        rw [List.getElem?_append_right (by simp [← h1]; omega)] at hxi
        have : i - (c.args.toList.map a.eval).length = i - svs.length := by simp [← h1]
        rw [this] at hxi
        exact e3 _ v x hi hxi) hp hok hF (K := fun s' => AW P R Φ .normal (.ops all r :: k) C s') hk
  refine hcs.mono (fun e w' he => ?_)
  cases e with
  | panicked ch => exact he.elim
  | outgrown => exact he.elim
  | returned v =>
    obtain ⟨s', hs', E', hE'⟩ := he
    refine hs' B _ w' ⟨by rw [put_defers]; exact hdf, E', ?_⟩
    rw [hd]; exact hE'
end
end Go.Ck

set_option linter.unusedVariables false
namespace Go.Ck
open Go.RowKit
section
variable {P : Program} {O0 : Base} {F : Nat → Prop} {w0 w : World} {s : St} {E : Env} {a : Act}

/-- What is handed over. -/
theorem prep (h : Rel P O0 w0 F s E a.tmps w) {ρ : Nat → Nat} {H : List (Nat × HO)} {svs args : List SV} {L : List Place} {m : Option Place} {vals : List Value}
    (hl : vals.length = svs.length) (hv : ∀ (i : Nat) (v : SV) (x : Value), svs[i]? = some v → vals[i]? = some x → RS P (fun b => E.om b ∨ F b) E w v x) (hp : Pass P s ρ svs args L m) (hok : CallOK s ρ H args L m) :
    ∃ Lt : Nat → Prop, (∀ b, Lt b → E.om b) ∧ (∀ b, Lt b → ¬ OmC E ρ H args vals b) ∧ Args P (fun b => E.om b ∨ F b) (handOver s ρ m H) E ρ H Lt w args vals ∧ Rel P O0 w0 F (handOver s ρ m H) E a.tmps w ∧ (∀ o y, look o H = some y → look (ρ o) (handOver s ρ m H).hp = some (y.ren ρ)) := by
  let Lt : Nat → Prop := fun b => ∃ p ∈ L, (E.hdr p).ownBlock = some b
  have haf := Pass.af h (Lt := Lt) hp hl hv (fun p hp' b hb => ⟨p, hp', hb⟩)
  obtain ⟨f1, f2, f3, f4⟩ := haf.facts
  -- ahead: the list that is given away is taken out
  have hpown : ∀ p, m = some p → ∃ e xs, s.at p = some (.own e xs) := by
    intro p hm
    subst hm
    have key : ∀ {svs args L m}, Pass P s ρ svs args L m → ∀ p, m = some p → ∃ e xs, s.at p = some (.own e xs) := by
      intro svs args L m hp
      induction hp with
      | nil => simp
      | move hp _ _ => intro p h1; cases h1; exact ⟨_, _, hp⟩
      | pv _ _ ih => exact ih
      | nilsP _ _ ih => exact ih
      | nilsO _ _ ih => exact ih
      | nils _ ih => exact ih
      | lend _ _ _ ih => exact ih
      | lendV _ _ _ _ ih => exact ih
      | ptr _ _ ih => exact ih
      | fn _ _ ih => exact ih
      | agg _ _ ih => exact ih
    exact key hp p rfl
  have hgive : Rel P O0 w0 F (giveUp m s) E a.tmps w ∧ (∀ p e xs, (giveUp m s).at p = some (.own e xs) → s.at p = some (.own e xs) ∧ m ≠ some p) ∧ (∀ q y, look q (giveUp m s).hp = some y → ∃ y', look q s.hp = some y') ∧
      (∀ q, (∀ p i, m = some p → p ≠ .cell q i) → look q (giveUp m s).hp = look q s.hp) ∧ (giveUp m s).n = s.n := by
    cases m with
    | none => exact ⟨h, fun p e xs h1 => ⟨h1, by simp⟩, fun q y hy => ⟨y, hy⟩, fun q _ => rfl, rfl⟩
    | some p =>
      obtain ⟨e, xs, hpo⟩ := hpown p rfl
      obtain ⟨_, _, _, h4⟩ := h.take hpo
      refine ⟨h4, fun q e' ys hq => ?_, fun q y hy => del_hp' hy, fun q hq => del_hp (fun i => hq p i rfl), ?_⟩
      · obtain ⟨h5, h6⟩ := del_own (e := e) (xs := xs) hpo rfl hq ⟨_, kill_own p s hpo, rfl⟩
        exact ⟨h6, by simpa using fun h7 => h5 h7.symm⟩
      · show (del p s).n = s.n
        unfold del; rw [setAt_n]; rfl
  obtain ⟨g1, g2, g3, g4, g5⟩ := hgive
  obtain ⟨k1, k2, k3, k4, k4', k5⟩ := killOs_facts ((namesOf H).map ρ) g1
  have hs1 : handOver s ρ m H = killOs ((namesOf H).map ρ) (giveUp m s) := rfl
  have hH1 : ∀ o y, look o H = some y → look (ρ o) (handOver s ρ m H).hp = some (y.ren ρ) := by
    intro o y hy
    rw [hs1, k2, g4 (ρ o) (fun p i hm => hok.moved p hm o y i hy)]
    exact hok.hH o y hy
  have hown1 : ∀ p e xs, (handOver s ρ m H).at p = some (.own e xs) → s.at p = some (.own e xs) ∧ m ≠ some p := fun p e xs hp' => g2 p e xs (k4 p e xs hp')
  -- the arguments
  have hmv : ∀ {i : Nat} {e : TypeId} {xs : List PV} {x : Value}, args[i]? = some (SV.own e xs) → vals[i]? = some x → (xs = [] ∧ x = .slice none 0 0) ∨ ∃ p, m = some p ∧ s.at p = some (.own e xs) ∧ x = E.hdr p := by
    intro i e xs x hi hx
    rcases f2 i _ x hi hx with ⟨e', h1, h2⟩ | ⟨e', ys, p, h1, h2, h3, h4⟩ | ⟨h1, _⟩
    · cases h1; exact .inl ⟨rfl, h2⟩
    · cases h1; exact .inr ⟨p, h2, h3, h4⟩
    · simp [SV.easy] at h1
  have ha : Args P (fun b => E.om b ∨ F b) (handOver s ρ m H) E ρ H Lt w args vals := by
    refine ⟨f1, fun i e xs x hi hx => ?_, fun i c x hi hx => ?_, fun i c o hi ho => hok.pts c (List.mem_of_getElem? hi) o ho, fun i j e xs e' ys x y b hi hj hx hy hb hb' => f4 i j e xs e' ys x y b b hi hj hx hy hb hb'⟩
    · rcases hmv hi hx with ⟨rfl, rfl⟩ | ⟨p, hm, hpo, rfl⟩
      · exact ⟨⟨[], World.ownsRow_nil w 0 _ _, ROs.nil _ _, by simp, by simp⟩, by simp [Value.ownBlock]⟩
      · obtain ⟨_, t2, t3, _⟩ := h.take hpo
        refine ⟨t2, fun b hb => ⟨(t3 b hb).1, ⟨fun o y hy => ?_, fun q e' ys hq hqb => ?_⟩⟩⟩
        · rw [hs1, k2] at hy
          obtain ⟨y', hy'⟩ := g3 o y hy
          exact h.i3 p e xs o y' b hpo hy' hb
        · obtain ⟨h5, h6⟩ := hown1 q e' ys hq
          have := h.i2 q p e' ys e xs b h5 hpo hqb hb
          subst this
          exact h6 hm
    · rcases f2 i c x hi hx with ⟨e', h1, h2⟩ | ⟨e', ys, p, h1, h2, h3, h4⟩ | ⟨h1, h2, h3⟩
      · exact .inl ⟨_, _, h1⟩
      · exact .inl ⟨_, _, h1⟩
      · exact .inr ⟨h1, h2, h3 _ (fun _ => rfl)⟩
  have hLown : ∀ p ∈ L, ∃ e xs, s.at p = some (.own e xs) := by
    have key : ∀ {svs args L m}, Pass P s ρ svs args L m → ∀ p ∈ L, ∃ e xs, s.at p = some (.own e xs) := by
      intro svs args L m hp
      induction hp with
      | nil => simp
      | lend hp _ _ ih => exact fun q hq => (List.mem_cons.1 hq).elim (fun h1 => h1 ▸ ⟨_, _, hp⟩) (ih q)
      | lendV hp _ _ _ ih => exact fun q hq => (List.mem_cons.1 hq).elim (fun h1 => h1 ▸ ⟨_, _, hp⟩) (ih q)
      | move _ _ ih => exact ih
      | pv _ _ ih => exact ih
      | nilsP _ _ ih => exact ih
      | nilsO _ _ ih => exact ih
      | nils _ ih => exact ih
      | ptr _ _ ih => exact ih
      | fn _ _ ih => exact ih
      | agg _ _ ih => exact ih
    exact key hp
  have hLtom : ∀ b, Lt b → E.om b := by
    rintro b ⟨p, hpL, hb⟩
    obtain ⟨e, xs, hpo⟩ := hLown p hpL
    obtain ⟨_, _, _, _, h4⟩ := h.place p _ hpo
    exact h4 b hb
  have hLt : ∀ b, Lt b → ¬ OmC E ρ H args vals b := by
    rintro b ⟨p, hpL, hb⟩ hc
    obtain ⟨e, xs, hpo⟩ := hLown p hpL
    obtain ⟨hl1, hl2⟩ := hok.lent p hpL
    rcases hc with ⟨o, y, h1, h2⟩ | ⟨o, y, i, e', ys, h1, h2, h3⟩ | ⟨i, e', ys, x, h1, h2, h3⟩
    · exact h.i3 p e xs _ _ b hpo (hok.hH o y h1) hb h2
    · have hat : s.at (.cell (ρ o) i) = some (.own e' ys) := by
        rw [at_cell, hok.hH o y h1]
        simp only [HO.ren_list, List.getElem?_map, h2, Option.map_some]; rfl
      exact hl2 o y i h1 (h.i2 _ _ _ _ _ _ b hpo hat hb h3)
    · rcases hmv h1 h2 with ⟨rfl, rfl⟩ | ⟨q, hm, hqo, rfl⟩
      · simp [Value.ownBlock] at h3
      · have := h.i2 _ _ _ _ _ _ b hpo hqo hb h3
        subst this
        exact hl1 hm
  exact ⟨Lt, hLtom, hLt, ha, k1, hH1⟩

theorem ren1_id (v : SV) : v.ren1 id = v := by cases v <;> rfl
theorem ren_id (v : SV) : v.ren id = v := by
  cases v <;> try rfl
  rename_i f caps
  simp only [SV.ren]
  congr 1
  have : SV.ren1 id = id := funext ren1_id
  rw [this, List.map_id]
theorem hren_id (h : HO) : h.ren id = h := by
  cases h with
  | mp es => rfl
  | cells e cs =>
    simp only [HO.ren]
    have : SV.ren id = id := funext ren_id
    rw [this, List.map_id]

/-- The same view from an earlier world. -/
theorem Rel.rebase {B1 : Base} {F1 : Nat → Prop} {w1 : World} {tmps : Array Value} (h : Rel P B1 w1 F1 s E tmps w) (hF : ∀ b, F b → F1 b) (hom : ∀ b, E.om b → O0.blk b ∨ w0.heap.size ≤ b) (hgr : Grow O0.blk w0 w) (hflt : ∀ b, F b → b < w0.heap.size)
    (hob : ∀ o b, O0.ob o = some b → E.obj o = b ∧ ∃ y, look o s.hp = some y) : Rel P O0 w0 F s E tmps w := by
  have hA : ∀ b, b < w.heap.size → ¬ (E.om b ∨ F1 b) → ¬ (E.om b ∨ F b) ∧ w.heap[b]? = w.heap[b]? := fun b _ hn => ⟨fun h1 => hn (h1.imp id (hF b)), rfl⟩
  refine { place := ?_, obj := ?_, size := h.size, i1 := h.i1, i2 := h.i2, i3 := h.i3, om_lt := fun b hb => ⟨(h.om_lt b hb).1, fun h1 => (h.om_lt b hb).2 (hF b h1)⟩, om0 := hom, na := h.na, np := h.np, gr := hgr, flt := hflt, ob := hob }
  · intro p v hp
    obtain ⟨x, hx, hv⟩ := h.place p v hp
    refine ⟨x, hx, ?_⟩
    cases v <;> simp only [PVal] at hv ⊢
    case own e xs => exact ⟨hv.1, hv.2.1.kept hA (fun _ _ => rfl), hv.2.2⟩
    case tup vs => exact hv
    all_goals exact hv.grow hA
  · intro o y hl
    obtain ⟨h1, h2⟩ := h.obj o y hl
    refine ⟨h1, ?_⟩
    cases y with
    | cells e cs => exact h2
    | mp es =>
      obtain ⟨ms, c, h3, h4, h5⟩ := h2
      exact ⟨ms, c, h3, h4, fun i kv m hk hm => ⟨(h5 i kv m hk hm).1.mono hA, (h5 i kv m hk hm).2.mono hA⟩⟩
end
end Go.Ck

set_option linter.unusedVariables false
namespace Go.Ck
open Go.RowKit
section
variable {P : Program} {O0 : Base} {F : Nat → Prop} {w0 w : World} {s : St} {E : Env} {a : Act}

/-- More slots. -/
theorem Rel.extend {k : Nat} {sl : List (Nat × SV)} {hp : List (Nat × HO)} {t u : Array Value} (h : Rel P O0 w0 F ⟨k, sl, hp⟩ E t w) {n : Nat} (hn : n = (t ++ u).size) : Rel P O0 w0 F ⟨n, sl, hp⟩ E (t ++ u) w where
  place p v hp' := by
    obtain ⟨x, hx, hv⟩ := h.place p v (by cases p <;> exact hp')
    refine ⟨x, ?_, hv⟩
    cases p with
    | slot d =>
      simp only [CV] at hx ⊢
      rw [Array.getElem?_append_left (Array.getElem?_eq_some_iff.1 hx).1]; exact hx
    | part d i =>
      simp only [CV] at hx ⊢
      obtain ⟨vs, h1, h2⟩ := hx
      exact ⟨vs, by rw [Array.getElem?_append_left (Array.getElem?_eq_some_iff.1 h1).1]; exact h1, h2⟩
    | cell o i => exact hx
  obj := h.obj
  size := hn
  i1 := h.i1
  i2 p q e xs e' ys b hp hq := h.i2 p q e xs e' ys b (by cases p <;> exact hp) (by cases q <;> exact hq)
  i3 p e xs o y b hp := h.i3 p e xs o y b (by cases p <;> exact hp)
  om_lt := h.om_lt
  om0 := h.om0
  na p v q hp hq := by
    obtain ⟨h1, ⟨e, xs, h2⟩, h3⟩ := h.na p v q (by cases p <;> exact hp) hq
    exact ⟨h1, ⟨e, xs, by cases q <;> exact h2⟩, h3⟩
  np p v o hp ho := h.np p v o (by cases p <;> exact hp) ho
  gr := h.gr
  flt := h.flt
  ob := h.ob

/-- What a body's result variables hold. -/
inductive Rets (P : Program) (s : St) : List ResultVar → List SV → Prop where
  | nil : Rets P s [] []
  | tmp {t : Tmp} {v : SV} {r : List ResultVar} {vs : List SV} (hv : ev s (.tmp t) = some v) (h : Rets P s r vs) : Rets P s (.tmp t :: r) (v :: vs)
  | cell {b : Tmp} {t : TypeId} {o off : Nat} {v : SV} {r : List ResultVar} {vs : List SV} (ha : ev s (.tmp b) = some (.ptr o off)) (hv : aload (tsh P t) s (.ptr o off) = some v) (h : Rets P s r vs) : Rets P s (.cell b t :: r) (v :: vs)

def resOf (tmps : Array Value) : ResultVar → Sem Value
  | .tmp t => pure (tmps.getD t undef)
  | .cell b t => do loadVar t (← asAddr (tmps.getD b undef))

theorem mapM_cons_run {tmps : Array Value} {r : ResultVar} {l : List ResultVar} {x : Value} {us : List Value} (h : (resOf tmps r).run P w = .ok x w) (h1 : (l.mapM (resOf tmps)).run P w = .ok us w) : ((r :: l).mapM (resOf tmps)).run P w = .ok (x :: us) w := by
  simp [List.mapM_cons, h, h1]

theorem Rets.sound (h : Rel P O0 w0 F s E a.tmps w) {l : List ResultVar} {svs : List SV} (hr : Rets P s l svs) :
    ∃ us : List Value, (l.mapM (resOf a.tmps)).run P w = .ok us w ∧ us.length = svs.length ∧ ∀ (i : Nat) (v : SV) (x : Value), svs[i]? = some v → us[i]? = some x → RS P (fun b => E.om b ∨ F b) E w v x := by
  induction hr with
  | nil => exact ⟨[], by simp, rfl, by simp⟩
  | tmp hv _ ih =>
    obtain ⟨us, h1, h2, h3⟩ := ih
    have h0 := h.ev_tmp hv
    refine ⟨_ :: us, mapM_cons_run (Sem.run_pure ..) h1, by simp [h2], fun i v x hi hx => ?_⟩
    cases i with
    | zero => rw [List.getElem?_cons_zero] at hi hx; cases hi; cases hx; exact h0
    | succ i => exact h3 i v x (by simpa using hi) (by simpa using hx)
  | cell ha hv _ ih =>
    obtain ⟨us, h1, h2, h3⟩ := ih
    have h0 := h.ev_tmp ha
    obtain ⟨y, k1, k2⟩ := aload_sound h hv h0
    refine ⟨y :: us, ?_, by simp [h2], fun i v x hi hx => ?_⟩
    · refine mapM_cons_run ?_ h1
      simp only [resOf]
      generalize a.tmps.getD _ undef = p at h0 k1 ⊢
      cases h0
      simp [Instr.loadAt, Instr.sureAddr] at k1
      simp [asAddr, k1]
    · cases i with
      | zero => simp at hi hx; subst hi; subst hx; exact k2
      | succ i => exact h3 i v x (by simpa using hi) (by simpa using hx)

theorem run_results {fn : Func} {tmps : Array Value} {us : List Value} (h : (fn.results.toList.mapM (resOf tmps)).run P w = .ok us w) : (results fn tmps).run P w = .ok (pack us) w := by
  have e : results fn tmps = (do
      let vs ← fn.results.mapM (resOf tmps)
      pure (if h : vs.size = 1 then vs[0] else .tuple vs)) := rfl
  rw [e, Array.mapM_eq_mapM_toList]
  simp only [Sem.run_bind, Sem.run_map, h, Sem.run_pure]
  match us with
  | [] => simp [pack]
  | [u] => simp [pack]
  | u :: v :: r => simp [pack]

end
end Go.Ck

set_option linter.unusedVariables false
namespace Go.Ck
open Go.RowKit
section
variable {P : Program} {O0 : Base} {F : Nat → Prop} {w0 w : World} {s : St} {E : Env} {a : Act}

/-- How a body may end. -/
def Ends (P : Program) (res : List ResultVar) (H : List (Nat × HO)) (Ψ : List SV → List (Nat × HO) → Prop) (C : Cx) (e : Exit) (C' : Cx) (s' : St) : Prop :=
  C' = C ∧ (e = .normal ∨ e = .ret) ∧ ∃ svs rs H' L m, Rets P s' res svs ∧ Pass P s' id svs rs L m ∧ CallOK s' id H' rs L m ∧ (∀ o y, look o H = some y → ∃ z, look o H' = some z) ∧ Ψ rs H'

/-- A contract out of a body. -/
theorem Fn.of_body {f : FuncId} {fn : Func} {c : Code} {H : List (Nat × HO)} {args : List SV} {Ψ : List SV → List (Nat × HO) → Prop} {n : Nat} {res : List ResultVar} (hf : P.funcs[f]? = some fn) (hb : fn.body = some c) (hn : n = args.length + (fn.ntmps - args.length)) (hres : fn.results.toList = res) (hname : (fn.name == "runtime.NumGoroutine") = false) (hH : H.all (fun y => decide (1000 ≤ y.1)) = true)
    (h : ∀ C, AW P none (Ends P res H Ψ C) .normal [.code c] C ⟨n, zslots args 0, H⟩) : Fn P f H args Ψ := ⟨⟨fn, hf, hname, by simp [hb]⟩, fun F w E vals hl hG hR => by
  subst hres
  refine calls_of_wp hf hb ?_
  have h0 := hR.extend (u := Array.replicate (fn.ntmps - vals.toArray.size) undef) (n := n) (by simp [hn, hl])
  let B0 : Bs := ⟨⟨E.om, obOf E H⟩, w, F⟩
  have hw := h (fun B d => B = B0 ∧ d = []) B0 { tmps := vals.toArray ++ Array.replicate (fn.ntmps - vals.toArray.size) undef, defers := [] } w ⟨⟨⟨rfl, rfl⟩, (fun o ho => by
    show obOf E H o = none
    unfold obOf
    split
    · rename_i y hy
      have := List.all_eq_true.1 hH _ (look_mem hy)
      simp at this
      simp only [lim] at ho
      omega
    · rfl), hG⟩, E, h0⟩
  simp only [den] at hw
  refine wp_mono ((wpIn_wide (n := 0)).1 hw) (fun e a w' hq => ?_)
  obtain ⟨C', s', B, ⟨rfl, he, svs, rs, H', L, m, h1, h2, h3, h4, h5⟩, ⟨⟨rfl, hd⟩, _⟩, E', hE⟩ := hq
  obtain ⟨us, k1, k2, k3⟩ := h1.sound hE
  obtain ⟨Lt, p1, p2, p3, p4, p5⟩ := prep hE k2 k3 h2 h3
  have hent := entry p4 (ρ := id) (H := H') (Lt := Lt) (args := rs) (vals := us) p5 h3.inj h3.hp p2 p3
  have hom : ∀ b, OmC E' id H' rs us b → E'.om b := fun b hb => OmC_om p4 p3 p5 hb
  have hfin := hent.rebase (O0 := ⟨E.om, obOf E H⟩) (w0 := w) (F := F) (fun b hb => ⟨.inr hb, fun hc => (hE.om_lt b (hom b hc)).2 hb, fun hc => (hE.om_lt b (p1 b hc)).2 hb⟩) (fun b hb => hE.om0 b (hom b hb)) hE.gr hE.flt (fun o b hb => by
    obtain ⟨q1, _⟩ := hE.ob o b hb
    refine ⟨q1, ?_⟩
    simp only [obOf] at hb
    split at hb
    · rename_i y hy; exact h4 o y hy
    · cases hb)
  have hfin' : a.defers = [] ∧ ∃ v, (results fn a.tmps).run P w' = .ok v w' ∧ ∃ rs H' E' us, Ψ rs H' ∧ us.length = rs.length ∧ v = pack us ∧ Rel P ⟨E.om, obOf E H⟩ w F ⟨us.length, zslots rs 0, H'⟩ E' us.toArray w' :=
    ⟨hd, pack us, run_results k1, rs, H', _, us, h5, p3.len, rfl, hfin⟩
  rcases he with rfl | rfl
  · exact hfin'
  · exact hfin'⟩
end
end Go.Ck

set_option linter.unusedVariables false
namespace Go.Ck

def pickS : List Nat → List (Nat × SV) → List (Nat × SV)
  | [], _ => []
  | d :: r, sl => match look d sl with
    | some v => (d, v) :: pickS r sl
    | none => pickS r sl
/-- Only these slots are kept. -/
def keepS (ds : List Nat) (s : St) : St := ⟨s.n, pickS ds s.sl, s.hp⟩
def hangSlot : SV → Option Nat
  | .al (.slot t) => some t
  | .vw (.slot t) _ _ _ => some t
  | .ea (.slot t) _ _ _ => some t
  | _ => none
def closedB (ds : List Nat) (sl : List (Nat × SV)) : List Nat → Bool
  | [] => true
  | d :: r => (match look d sl with
    | some v => (match hangSlot v with | some t => ds.contains t | none => true)
    | none => true) && closedB ds sl r

theorem look_pickS (d : Nat) (sl : List (Nat × SV)) : ∀ ds : List Nat, look d (pickS ds sl) = if d ∈ ds then look d sl else none
  | [] => by simp [pickS, look]
  | k :: r => by
    simp only [pickS]
    split
    · rename_i v hv
      simp only [look]
      by_cases h : k = d
      · subst h; simp [hv]
      · rw [if_neg h, look_pickS d sl r]; simp [Ne.symm h]
    · rename_i hv
      rw [look_pickS d sl r]
      by_cases h : d = k
      · subst h; simp [hv]
      · simp [h]

theorem closedB_spec {ds : List Nat} {sl : List (Nat × SV)} : ∀ {l : List Nat}, closedB ds sl l = true → ∀ d ∈ l, ∀ v t, look d sl = some v → hangSlot v = some t → t ∈ ds
  | [], _, d, hd, _, _, _, _ => by cases hd
  | k :: r, h, d, hd, v, t, hv, ht => by
    simp only [closedB, Bool.and_eq_true] at h
    rcases List.mem_cons.1 hd with rfl | hd
    · have h1 := h.1
      rw [hv] at h1
      simp only [ht] at h1
      simpa using h1
    · exact closedB_spec h.2 d hd v t hv ht

section
variable {P : Program} {O0 : Base} {F : Nat → Prop} {w0 w : World} {s : St} {E : Env} {a : Act} {tmps : Array Value}

theorem Rel.keep (h : Rel P O0 w0 F s E tmps w) (ds : List Nat) (hc : closedB ds s.sl ds = true) : Rel P O0 w0 F (keepS ds s) E tmps w := by
  have hsl : ∀ d v, look d (keepS ds s).sl = some v → d ∈ ds ∧ look d s.sl = some v := by
    intro d v hv
    simp only [keepS] at hv
    rw [look_pickS] at hv
    split at hv
    · rename_i hm; exact ⟨hm, hv⟩
    · cases hv
  have hat : ∀ p v, (keepS ds s).at p = some v → s.at p = some v := by
    intro p v hp
    cases p with
    | slot d => exact (hsl d v hp).2
    | part d i =>
      simp only [St.at] at hp ⊢
      split at hp
      · rename_i vs hvs; rw [(hsl d _ hvs).2]; exact hp
      · cases hp
    | cell o i => exact hp
  refine h.forget rfl (fun p v hp => .inr (.inl (hat p v hp))) (fun o x hx => hx) (fun p v q hp hq => ?_) (fun p v o hp ho => h.np p v o (hat p v hp) ho) (fun p ⟨v, hp⟩ => ⟨v, hat p v hp⟩) (fun o x hx => ⟨x, hx⟩)
  obtain ⟨⟨d, rfl⟩, ⟨e, xs, h2⟩, h3⟩ := h.na p v q (hat p v hp) hq
  obtain ⟨hd, hl⟩ := hsl d v hp
  refine ⟨e, xs, ?_⟩
  cases q with
  | slot t =>
    have ht : hangSlot v = some t := by cases v <;> simp [SV.on] at hq <;> subst hq <;> rfl
    have := closedB_spec hc d hd v t hl ht
    simp only [St.at, keepS]
    rw [look_pickS, if_pos this]
    exact h2
  | part t i => exact absurd rfl (h3 t i)
  | cell o i => exact h2

end
end Go.Ck

set_option linter.unusedVariables false
namespace Go.Ck

theorem CallOK.none {s : St} {ρ : Nat → Nat} {args : List SV} {L : List Place} {m : Option Place} (h : args.all (fun c => match c with | .ptr _ _ | .mp _ | .fn _ (_ :: _) => false | _ => true) = true) (hm : ∀ p ∈ L, m ≠ some p) : CallOK s ρ [] args L m where
  hH o y h := by simp [look] at h
  inj o o' y y' h := by simp [look] at h
  hp o y c o' h := by simp [look] at h
  pts c hc o ho := by
    have h1 := List.all_eq_true.1 h c hc
    cases c with
    | ptr _ _ => cases h1
    | mp _ => cases h1
    | fn f caps => cases caps with | nil => simp [SV.pts] at ho | cons a r => cases h1
    | _ => simp [SV.pts] at ho
  lent p hp := ⟨hm p hp, fun o y i h => by simp [look] at h⟩
  moved p hp o y i h := by simp [look] at h
end Go.Ck

set_option linter.unusedVariables false
namespace Go.Ck
section
variable {P : Program} {R : Option Nat} {Φ : Exit → Cx → St → Prop} {k : List It} {C : Cx} {s : St}
theorem AS.keep {B : Bs} {a : Act} {w : World} (h : AS P R C B s a w) (ds : List Nat) (hc : closedB ds s.sl ds = true) : AS P R C B (keepS ds s) a w := by
  obtain ⟨hd, E, hE⟩ := h
  exact ⟨hd, E, hE.keep ds hc⟩
theorem AW.keep {e : Exit} {s' : St} (ds : List Nat) (hc : closedB ds s.sl ds = true) (hs : keepS ds s = s') (h : AW P R Φ e k C s') : AW P R Φ e k C s :=
  AW.weak (fun B a w ha => ⟨B, by rw [← hs]; exact ha.keep ds hc⟩) h
theorem AW.xC {id : Nat} {c : Code} (h : AW P R Φ (.exit id) k C s) : AW P R Φ (.exit id) (.code c :: k) C s := AW.passC (by simp) h
theorem AW.xS {id : Nat} {K : Cx → St → Prop} (h : AW P R Φ (.exit id) k C s) : AW P R Φ (.exit id) (.stop K :: k) C s := AW.passS (by simp) h
theorem AW.xB {id id' : Nat} (hne : (id == id') = false) (h : AW P R Φ (.exit id) k C s) : AW P R Φ (.exit id) (.inB id' :: k) C s := AW.passX (by simpa using hne) h
theorem AW.rC {c : Code} (h : AW P R Φ .ret k C s) : AW P R Φ .ret (.code c :: k) C s := AW.passC (by simp) h
theorem AW.rS {K : Cx → St → Prop} (h : AW P R Φ .ret k C s) : AW P R Φ .ret (.stop K :: k) C s := AW.passS (by simp) h
theorem AW.rB {id : Nat} (h : AW P R Φ .ret k C s) : AW P R Φ .ret (.inB id :: k) C s := AW.passB (by simp) h
end
end Go.Ck

set_option linter.unusedVariables false
namespace Go.Ck
section
variable {P : Program} {R : Option Nat} {Φ : Exit → Cx → St → Prop} {k : List It} {C : Cx} {s : St}
/-- An own list is nobody's from here on. -/
theorem AW.freeze {e : Exit} {p : Place} {q : PV} {s' : St} (hf : freeze P s (.al p) = some (q, s')) (h : AW P R Φ e k C s') : AW P R Φ e k C s :=
  AW.weak (fun B a w ha => by
    obtain ⟨hd, E, hE⟩ := ha
    obtain ⟨E', _, hE', _⟩ := freeze_sound hE hf (.al p)
    exact ⟨B, hd, E', hE'⟩) h
/-- An empty list of the caller's own instead of nil. -/
theorem AW.nilsOwn {e : Exit} {d : Nat} {t : TypeId} (hl : look d s.sl = some .nils) (h : AW P R Φ e k C (setSlot d (.own t []) s)) : AW P R Φ e k C s :=
  AW.weak (fun B a w ha => by
    obtain ⟨hd, E, hE⟩ := ha
    obtain ⟨x, hx, hv⟩ := hE.place (.slot d) _ hl
    have hv' : RS P (fun b => E.om b ∨ B.F b) E w .nils x := hv
    cases hv'
    have := hE.recast (p := .slot d) (v := .own t []) (y := .slice none 0 0) (x := .slice none 0 0) hl rfl rfl (hE.free_of (fun e' xs he => by simp only [St.at] at he; rw [hl] at he; cases he)) rfl hx (.inr rfl)
      (by simp only [PVal, Env.setHdr_same]; exact ⟨trivial, ⟨[], World.ownsRow_nil w 0 _ _, ROs.nil _ _, by simp, by simp⟩, by simp [Value.ownBlock]⟩) (by simp [SV.on]) (fun _ b hb => by simp [Value.ownBlock] at hb) (by simp [SV.pts])
    exact ⟨B, hd, _, this⟩) h
/-- Is nil-ness told by the list? Only one way: what is nil is empty. -/
def slLike : SV → Bool
  | .pv (.sl z _) => z != 0
  | .nils | .al _ => true
  | .vw _ _ _ _ => true
  | _ => false

theorem nil_empty {O0 : Base} {F : Nat → Prop} {w0 w : World} {E : Env} {tmps : Array Value} (h : Rel P O0 w0 F s E tmps w) {v : SV} {xs : List PV} {x : Value} (hs : slLike v = true) (hc : cont s v = some xs) (hr : RS P (fun b => E.om b ∨ F b) E w v x) :
    ∃ a len cap, x = .slice a len cap ∧ (a = none → xs = []) := by
  cases v <;> simp [slLike] at hs
  case pv p =>
    cases p <;> simp at hs
    rename_i z ys
    simp only [cont] at hc
    cases hc
    cases hr with | pv _ _ hr => ?_
    obtain ⟨vs, a, cap, rfl, h1, h2, h3, _⟩ := hr.slParts
    refine ⟨a, _, cap, rfl, fun ha => ?_⟩
    cases xs with
    | nil => rfl
    | cons y r =>
      have hl : vs.length = (y :: r).length * z := by rw [h1.1, flat_length h3]
      have : 0 < vs.length := by rw [hl, List.length_cons]; exact Nat.mul_pos (by omega) (by omega)
      obtain ⟨ad, e, _⟩ := h2 0 vs[0] (List.getElem?_eq_getElem this)
      rw [ha] at e; cases e
  case nils =>
    simp only [cont] at hc
    cases hc
    cases hr
    exact ⟨none, 0, 0, rfl, fun _ => rfl⟩
  case al p =>
    simp only [cont] at hc
    split at hc
    · rename_i e ys hp
      cases hc
      rw [hr.al_inv]
      obtain ⟨cs, h1, _⟩ := h.own hp
      rcases h1.2 with ⟨e1, h0⟩ | ⟨g, cap, cur, e1, _⟩
      · exact ⟨none, 0, 0, e1, fun _ => List.eq_nil_of_length_eq_zero h0⟩
      · exact ⟨_, _, cap, e1, fun h2 => by cases h2⟩
    · cases hc
  case vw p e off n =>
    simp only [cont] at hc
    split at hc
    · split at hc <;> cases hc
      cases hr with | vw _ _ _ _ _ hv => ?_
      obtain ⟨_, a, cap, rfl, _, hb⟩ := hv
      refine ⟨a, n, cap, rfl, fun ha => ?_⟩
      rcases Nat.eq_zero_or_pos n with h0 | h0
      · subst h0; simp
      · obtain ⟨b, _, h2⟩ := hb h0
        rw [ha] at h2; cases h2
    · cases hc

/-- x == nil, x != nil on a slice. -/
theorem AW.eqNil {all : Array Oper} {o : Oper} {r : List Oper} {x y : Operand} {t ty e ez eb d : Nat} {ea : Bool} {vx : SV} {xs : List PV} {op : BinOp} (hop : op = .eql ∨ op = .neq) (hg : o.guard = none) (ho : o.op = .binOp op t x y ty) (hd : o.dst = some d) (hT : tk P t = .sl e ez eb ea)
    (hx : ev s x = some vx) (hs : slLike vx = true) (hc : cont s vx = some xs) (hy : ev s y = some .nils)
    (h : ∀ b : Bool, (b = true → xs = []) → AW P R Φ .normal (.ops all r :: k) C (put d (.pv (.bool (if op = .eql then b else !b))) s)) : AW P R Φ .normal (.ops all (o :: r) :: k) C s := fun B a w ha => by
  simp only [den]
  refine wpListIn_want (by simp [Region.wanted, hg]) (fun c' hc' => by rw [ho] at hc'; cases hc') ?_
  obtain ⟨hdf, E, hE⟩ := ha
  obtain ⟨ad, len, cap, e1, e2⟩ := nil_empty hE hs hc (ev_rs hE hx)
  have e3 : a.eval y = .slice none 0 0 := by
    have := ev_rs hE hy
    generalize a.eval y = z at this
    cases this; rfl
  obtain ⟨hu, _, _⟩ := tk_sl hT
  have hrun : (execOp a.eval o).run P w = .ok (.value (.bool (if op = .eql then ad.isNone else !ad.isNone))) w := by
    have hg : ∀ op, (eqGuard op t x y (.slice ad len cap) (.slice none 0 0)).run P w = .ok () w := by
      intro op
      unfold eqGuard
      cases op <;> rfl
    have he := run_equal_slice_nil (P := P) (w := w) t e ad len cap hu
    rcases hop with rfl | rfl
    · have hb : (binOp .eql t (.slice ad len cap) (.slice none 0 0)).run P w = .ok (.bool ad.isNone) w := by
        show (do pure (.bool (← Op.equal t _ _)) : Sem Value).run P w = _
        simp [he]
      simp only [execOp, ho, e1, e3, Sem.run_bind, hg, hb, Result.andThen_ok, Sem.run_pure, if_true]
    · have hb : (binOp .neq t (.slice ad len cap) (.slice none 0 0)).run P w = .ok (.bool (!ad.isNone)) w := by
        show (do pure (.bool (!(← Op.equal t _ _))) : Sem Value).run P w = _
        simp [he]
      simp only [execOp, ho, e1, e3, Sem.run_bind, hg, hb, Result.andThen_ok, Sem.run_pure]
      simp
  rw [hrun, Oper.uponIn_value, hd]
  refine h ad.isNone (fun hb => e2 (by simpa using hb)) B _ w ⟨by rw [put_defers]; exact hdf, E, ?_⟩
  exact hE.putGood d (.pv _ _) (.pv _ _ (.bool _))
end
end Go.Ck

set_option linter.unusedVariables false
/-! As many steps as are told by the state alone. -/
namespace Go.Ck

structure Cfg where
  e : Exit
  k : List It
  s : St

mutual
/-- Steps of a body, as far as they need no choice: a test, a guard, a call, a loop, a region that draws end it. -/
def nrm (P : Program) (fl : Bool) : Nat → Exit → List It → St → Cfg
  | 0, e, k, s => ⟨e, k, s⟩
  | n + 1, .normal, .code .skip :: k, s => nrm P fl n .normal k s
  | n + 1, .normal, .code (.seq x y) :: k, s => nrm P fl n .normal (.code x :: .code y :: k) s
  | n + 1, .normal, .code (.block id c) :: k, s => nrm P fl n .normal (.code c :: .inB id :: k) s
  | n + 1, .normal, .code (.exit id) :: k, s => nrm P fl n (.exit id) k s
  | n + 1, .normal, .code .ret :: k, s => nrm P fl n .ret k s
  | n + 1, .normal, .code (.label _) :: k, s => nrm P fl n .normal k s
  | n + 1, .normal, .code (.goto l) :: k, s => nrm P fl n (.goto l) k s
  | n + 1, .normal, .code (.region _ ops false) :: k, s => nrm P fl n .normal (.ops ops ops.toList :: k) s
  | n + 1, .normal, .inB _ :: k, s => nrm P fl n .normal k s
  | n + 1, .normal, .inS _ _ :: k, s => nrm P fl n .normal k s
  | n + 1, .normal, .ops _ [] :: k, s => nrm P fl n .normal k s
  | n + 1, .normal, .ops all (o :: r) :: k, s => nrmG P fl n all o r k s o.guard
  | n + 1, .exit id, .inB id' :: k, s => if id = id' then nrm P fl n .normal k s else nrm P fl n (.exit id) k s
  | n + 1, .exit id, .code _ :: k, s => nrm P fl n (.exit id) k s
  | n + 1, .exit id, .stop _ :: k, s => nrm P fl n (.exit id) k s
  | n + 1, .exit id, .inS _ _ :: k, s => nrm P fl n (.exit id) k s
  | n + 1, .goto l, .code _ :: k, s => nrm P fl n (.goto l) k s
  | n + 1, .goto l, .inB _ :: k, s => nrm P fl n (.goto l) k s
  | n + 1, .goto l, .stop _ :: k, s => nrm P fl n (.goto l) k s
  | n + 1, .ret, _ :: k, s => nrm P fl n .ret k s
  | _ + 1, e, k, s => ⟨e, k, s⟩
def nrmG (P : Program) (fl : Bool) : Nat → Array Oper → Oper → List Oper → List It → St → Option (Nat × Bool) → Cfg
  | 0, all, o, r, k, s, _ => ⟨.normal, .ops all (o :: r) :: k, s⟩
  | n + 1, all, o, r, k, s, none => nrmK P fl n all o r k s (astep P o s)
  | n + 1, all, o, r, k, s, some (j, want) => if fl = true then nrmB P fl n all o r k s (aguard all s j want) want else ⟨.normal, .ops all (o :: r) :: k, s⟩
def nrmB (P : Program) (fl : Bool) : Nat → Array Oper → Oper → List Oper → List It → St → Option Bool → Bool → Cfg
  | n + 1, all, o, r, k, s, some true, true => nrmK P fl n all o r k s (astep P o s)
  | n + 1, all, o, r, k, s, some false, false => nrmK P fl n all o r k s (astep P o s)
  | n + 1, all, o, r, k, s, some true, false => nrmD P fl n all o r k s o.dst
  | n + 1, all, o, r, k, s, some false, true => nrmD P fl n all o r k s o.dst
  | _, all, o, r, k, s, _, _ => ⟨.normal, .ops all (o :: r) :: k, s⟩
def nrmD (P : Program) (fl : Bool) : Nat → Array Oper → Oper → List Oper → List It → St → Option Nat → Cfg
  | n + 1, all, o, r, k, s, some d => nrm P fl n .normal (.ops all r :: k) (put d (.tup []) s)
  | _, all, o, r, k, s, _ => ⟨.normal, .ops all (o :: r) :: k, s⟩
def nrmK (P : Program) (fl : Bool) : Nat → Array Oper → Oper → List Oper → List It → St → Option St → Cfg
  | 0, all, o, r, k, s, _ => ⟨.normal, .ops all (o :: r) :: k, s⟩
  | n + 1, all, o, r, k, s, some s' => nrm P fl n .normal (.ops all r :: k) s'
  | _ + 1, all, o, r, k, s, none => ⟨.normal, .ops all (o :: r) :: k, s⟩
end

section
variable {P : Program} {fl : Bool} {R : Option Nat} {Φ : Exit → Cx → St → Prop} {C : Cx}

theorem AW.passR {i : It} {k : List It} {s : St} (h : AW P R Φ .ret k C s) : AW P R Φ .ret (i :: k) C s := fun B a w ha => by
  cases i <;> exact h B a w ha

mutual
theorem nrm_sound : ∀ (n : Nat) {e : Exit} {k : List It} {s : St}, AW P R Φ (nrm P fl n e k s).e (nrm P fl n e k s).k C (nrm P fl n e k s).s → AW P R Φ e k C s
  | 0, e, k, s, h => h
  | n + 1, e, k, s, h => by
    unfold nrm at h
    split at h
    · exact h
    · exact AW.skip (nrm_sound _ h)
    · exact AW.seq (nrm_sound _ h)
    · exact AW.block (nrm_sound _ h)
    · exact AW.exit (nrm_sound _ h)
    · exact AW.ret (nrm_sound _ h)
    · exact AW.label (nrm_sound _ h)
    · exact AW.goto (nrm_sound _ h)
    · exact AW.region (nrm_sound _ h)
    · exact AW.inB (nrm_sound _ h)
    · exact AW.inS (nrm_sound _ h)
    · exact AW.opsNil (nrm_sound _ h)
    · exact nrmG_sound _ h
    · split at h
      · rename_i he
        subst he
        exact AW.outX (nrm_sound _ h)
      · rename_i he
        exact AW.passX he (nrm_sound _ h)
    · exact AW.passC (by simp) (nrm_sound _ h)
    · exact AW.passS (by simp) (nrm_sound _ h)
    · exact AW.xI (nrm_sound _ h)
    · exact AW.passC (by simp) (nrm_sound _ h)
    · exact AW.passB (by simp) (nrm_sound _ h)
    · exact AW.passS (by simp) (nrm_sound _ h)
    · exact AW.passR (nrm_sound _ h)
    · exact h
theorem nrmG_sound : ∀ (n : Nat) {all : Array Oper} {o : Oper} {r : List Oper} {k : List It} {s : St}, AW P R Φ (nrmG P fl n all o r k s o.guard).e (nrmG P fl n all o r k s o.guard).k C (nrmG P fl n all o r k s o.guard).s → AW P R Φ .normal (.ops all (o :: r) :: k) C s
  | 0, all, o, r, k, s, h => h
  | n + 1, all, o, r, k, s, h => by
    cases hg : o.guard with
    | none =>
      rw [hg] at h
      simp only [nrmG] at h
      exact nrmK_sound n (fun j want hj => by rw [hg] at hj; cases hj) h
    | some g =>
      obtain ⟨j, want⟩ := g
      rw [hg] at h
      simp only [nrmG] at h
      by_cases hf : fl = true
      · rw [if_pos hf] at h
        exact nrmB_sound n hg h
      · rw [if_neg hf] at h
        exact h
theorem nrmB_sound : ∀ (n : Nat) {all : Array Oper} {o : Oper} {r : List Oper} {k : List It} {s : St} {j : Nat} {want : Bool}, o.guard = some (j, want) → AW P R Φ (nrmB P fl n all o r k s (aguard all s j want) want).e (nrmB P fl n all o r k s (aguard all s j want) want).k C (nrmB P fl n all o r k s (aguard all s j want) want).s → AW P R Φ .normal (.ops all (o :: r) :: k) C s
  | 0, all, o, r, k, s, j, want, hg, h => by
    simp only [nrmB] at h
    exact h
  | n + 1, all, o, r, k, s, j, want, hg, h => by
    cases hb : aguard all s j want with
    | none =>
      rw [hb] at h
      simp only [nrmB] at h
      exact h
    | some b =>
      rw [hb] at h
      cases b <;> cases want <;> simp only [nrmB] at h
      · exact nrmK_sound n (fun j' want' hj => by rw [hg] at hj; cases hj; exact hb) h
      · exact nrmD_sound n hg hb h
      · exact nrmD_sound n hg hb h
      · exact nrmK_sound n (fun j' want' hj => by rw [hg] at hj; cases hj; exact hb) h
theorem nrmD_sound : ∀ (n : Nat) {all : Array Oper} {o : Oper} {r : List Oper} {k : List It} {s : St} {j : Nat} {want : Bool}, o.guard = some (j, want) → aguard all s j want = some (!want) → AW P R Φ (nrmD P fl n all o r k s o.dst).e (nrmD P fl n all o r k s o.dst).k C (nrmD P fl n all o r k s o.dst).s → AW P R Φ .normal (.ops all (o :: r) :: k) C s
  | 0, all, o, r, k, s, j, want, hg, hb, h => by
    simp only [nrmD] at h
    exact h
  | n + 1, all, o, r, k, s, j, want, hg, hb, h => by
    cases hd : o.dst with
    | none =>
      rw [hd] at h
      simp only [nrmD] at h
      exact h
    | some d =>
      rw [hd] at h
      simp only [nrmD] at h
      exact AW.guardF hg hd hb (nrm_sound n h)
theorem nrmK_sound : ∀ (n : Nat) {all : Array Oper} {o : Oper} {r : List Oper} {k : List It} {s : St}, (∀ j want, o.guard = some (j, want) → aguard all s j want = some want) → AW P R Φ (nrmK P fl n all o r k s (astep P o s)).e (nrmK P fl n all o r k s (astep P o s)).k C (nrmK P fl n all o r k s (astep P o s)).s → AW P R Φ .normal (.ops all (o :: r) :: k) C s
  | 0, all, o, r, k, s, hg, h => h
  | n + 1, all, o, r, k, s, hg, h => by
    cases hs : astep P o s with
    | none =>
      rw [hs] at h
      simp only [nrmK] at h
      exact h
    | some s' =>
      rw [hs] at h
      simp only [nrmK] at h
      cases hgd : o.guard with
      | none => exact AW.step hgd hs (nrm_sound n h)
      | some g =>
        obtain ⟨j, want⟩ := g
        exact AW.guardT hgd (hg j want hgd) (AW.step rfl hs (nrm_sound n h))
end


theorem nrm_skip (n : Nat) (k : List It) (s : St) : nrm P fl (n + 1) .normal (.code .skip :: k) s = nrm P fl n .normal k s := rfl
theorem nrm_seq (n : Nat) (x y : Code) (k : List It) (s : St) : nrm P fl (n + 1) .normal (.code (.seq x y) :: k) s = nrm P fl n .normal (.code x :: .code y :: k) s := rfl
theorem nrm_block (n id : Nat) (c : Code) (k : List It) (s : St) : nrm P fl (n + 1) .normal (.code (.block id c) :: k) s = nrm P fl n .normal (.code c :: .inB id :: k) s := rfl
theorem nrm_exit (n id : Nat) (k : List It) (s : St) : nrm P fl (n + 1) .normal (.code (.exit id) :: k) s = nrm P fl n (.exit id) k s := rfl
theorem nrm_ret (n : Nat) (k : List It) (s : St) : nrm P fl (n + 1) .normal (.code .ret :: k) s = nrm P fl n .ret k s := rfl
theorem nrm_region (n id : Nat) (ops : List Oper) (k : List It) (s : St) : nrm P fl (n + 1) .normal (.code (.region id ops.toArray false) :: k) s = nrm P fl n .normal (.ops ops.toArray ops :: k) s := rfl
theorem nrm_inB (n id : Nat) (k : List It) (s : St) : nrm P fl (n + 1) .normal (.inB id :: k) s = nrm P fl n .normal k s := rfl
theorem nrm_nil (n : Nat) (all : Array Oper) (k : List It) (s : St) : nrm P fl (n + 1) .normal (.ops all [] :: k) s = nrm P fl n .normal k s := rfl
theorem nrm_ops (n : Nat) (all : Array Oper) (o : Oper) (r : List Oper) (k : List It) (s : St) : nrm P fl (n + 1) .normal (.ops all (o :: r) :: k) s = nrmG P fl n all o r k s o.guard := rfl
theorem nrm_xB (n id id' : Nat) (k : List It) (s : St) : nrm P fl (n + 1) (.exit id) (.inB id' :: k) s = if id = id' then nrm P fl n .normal k s else nrm P fl n (.exit id) k s := rfl
theorem nrm_xC (n id : Nat) (c : Code) (k : List It) (s : St) : nrm P fl (n + 1) (.exit id) (.code c :: k) s = nrm P fl n (.exit id) k s := rfl
theorem nrm_xS (n id : Nat) (K : Cx → St → Prop) (k : List It) (s : St) : nrm P fl (n + 1) (.exit id) (.stop K :: k) s = nrm P fl n (.exit id) k s := rfl
theorem nrm_r (n : Nat) (i : It) (k : List It) (s : St) : nrm P fl (n + 1) .ret (i :: k) s = nrm P fl n .ret k s := by cases i <;> rfl
theorem nrm_end (n : Nat) (e : Exit) (s : St) : nrm P fl (n + 1) e [] s = ⟨e, [], s⟩ := by cases e <;> rfl
theorem nrm_cond (n : Nat) (c : Operand) (x y : Code) (k : List It) (s : St) : nrm P fl (n + 1) .normal (.code (.cond c x y) :: k) s = ⟨.normal, .code (.cond c x y) :: k, s⟩ := rfl
theorem nrm_loop (n : Nat) (c : Code) (k : List It) (s : St) : nrm P fl (n + 1) .normal (.code (.loop c) :: k) s = ⟨.normal, .code (.loop c) :: k, s⟩ := rfl
theorem nrm_rangeFunc (n : Nat) (g : Operand) (ps : Array Tmp) (x y : Code) (k : List It) (s : St) : nrm P fl (n + 1) .normal (.code (.rangeFunc g ps x y) :: k) s = ⟨.normal, .code (.rangeFunc g ps x y) :: k, s⟩ := rfl
theorem nrm_goto (n l : Nat) (k : List It) (s : St) : nrm P fl (n + 1) .normal (.code (.goto l) :: k) s = nrm P fl n (.goto l) k s := rfl
theorem nrm_label (n l : Nat) (k : List It) (s : St) : nrm P fl (n + 1) .normal (.code (.label l) :: k) s = nrm P fl n .normal k s := rfl
theorem nrm_inS (n l : Nat) (K : Cx → St → Prop) (k : List It) (s : St) : nrm P fl (n + 1) .normal (.inS l K :: k) s = nrm P fl n .normal k s := rfl
theorem nrm_xI (n id l : Nat) (K : Cx → St → Prop) (k : List It) (s : St) : nrm P fl (n + 1) (.exit id) (.inS l K :: k) s = nrm P fl n (.exit id) k s := rfl
theorem nrm_gC (n l : Nat) (c : Code) (k : List It) (s : St) : nrm P fl (n + 1) (.goto l) (.code c :: k) s = nrm P fl n (.goto l) k s := rfl
theorem nrm_gB (n l id : Nat) (k : List It) (s : St) : nrm P fl (n + 1) (.goto l) (.inB id :: k) s = nrm P fl n (.goto l) k s := rfl
theorem nrm_gS (n l : Nat) (K : Cx → St → Prop) (k : List It) (s : St) : nrm P fl (n + 1) (.goto l) (.stop K :: k) s = nrm P fl n (.goto l) k s := rfl
theorem nrm_gI (n l l' : Nat) (K : Cx → St → Prop) (k : List It) (s : St) : nrm P fl (n + 1) (.goto l) (.inS l' K :: k) s = ⟨.goto l, .inS l' K :: k, s⟩ := rfl
theorem nrm_scope (n : Nat) (c : Code) (k : List It) (s : St) : nrm P fl (n + 1) .normal (.code (.scope c) :: k) s = ⟨.normal, .code (.scope c) :: k, s⟩ := rfl
theorem nrm_draw (n id : Nat) (ops : Array Oper) (k : List It) (s : St) : nrm P fl (n + 1) .normal (.code (.region id ops true) :: k) s = ⟨.normal, .code (.region id ops true) :: k, s⟩ := rfl
theorem nrm_stop (n : Nat) (K : Cx → St → Prop) (k : List It) (s : St) : nrm P fl (n + 1) .normal (.stop K :: k) s = ⟨.normal, .stop K :: k, s⟩ := rfl
theorem nrm_any (n : Nat) (all : Array Oper) (f : Nat) (l : Array Bool) (k : List It) (s : St) : nrm P fl (n + 1) .normal (.any all f l :: k) s = ⟨.normal, .any all f l :: k, s⟩ := rfl
theorem nrmG_none (n : Nat) (all : Array Oper) (o : Oper) (r : List Oper) (k : List It) (s : St) : nrmG P fl (n + 1) all o r k s none = nrmK P fl n all o r k s (astep P o s) := rfl
theorem nrmG_some (n : Nat) (all : Array Oper) (o : Oper) (r : List Oper) (k : List It) (s : St) (g : Nat × Bool) : nrmG P false (n + 1) all o r k s (some g) = ⟨.normal, .ops all (o :: r) :: k, s⟩ := rfl
theorem nrmG_told (n : Nat) (all : Array Oper) (o : Oper) (r : List Oper) (k : List It) (s : St) (j : Nat) (want : Bool) : nrmG P true (n + 1) all o r k s (some (j, want)) = nrmB P true n all o r k s (aguard all s j want) want := rfl
theorem nrmB_tt (n : Nat) (all : Array Oper) (o : Oper) (r : List Oper) (k : List It) (s : St) : nrmB P fl (n + 1) all o r k s (some true) true = nrmK P fl n all o r k s (astep P o s) := rfl
theorem nrmB_ff (n : Nat) (all : Array Oper) (o : Oper) (r : List Oper) (k : List It) (s : St) : nrmB P fl (n + 1) all o r k s (some false) false = nrmK P fl n all o r k s (astep P o s) := rfl
theorem nrmB_tf (n : Nat) (all : Array Oper) (o : Oper) (r : List Oper) (k : List It) (s : St) : nrmB P fl (n + 1) all o r k s (some true) false = nrmD P fl n all o r k s o.dst := rfl
theorem nrmB_ft (n : Nat) (all : Array Oper) (o : Oper) (r : List Oper) (k : List It) (s : St) : nrmB P fl (n + 1) all o r k s (some false) true = nrmD P fl n all o r k s o.dst := rfl
theorem nrmD_some (n : Nat) (all : Array Oper) (o : Oper) (r : List Oper) (k : List It) (s : St) (d : Nat) : nrmD P fl (n + 1) all o r k s (some d) = nrm P fl n .normal (.ops all r :: k) (put d (.tup []) s) := rfl
theorem nrmK_none (n : Nat) (all : Array Oper) (o : Oper) (r : List Oper) (k : List It) (s : St) : nrmK P fl (n + 1) all o r k s none = ⟨.normal, .ops all (o :: r) :: k, s⟩ := rfl
theorem nrmK_some (n : Nat) (all : Array Oper) (o : Oper) (r : List Oper) (k : List It) (s s' : St) : nrmK P fl (n + 1) all o r k s (some s') = nrm P fl n .normal (.ops all r :: k) s' := rfl
theorem AW.go {e e' : Exit} {k k' : List It} {s s' : St} (h : AW P R Φ e' k' C s') (hn : nrm P false 1000 e k s = ⟨e', k', s'⟩ := by simp only [go_sem, ↓reduceIte] <;> rfl) : AW P R Φ e k C s := by
  refine nrm_sound (fl := false) 1000 ?_
  rw [hn]
  exact h
/-- The guards, too, are told. -/
theorem AW.gg {e e' : Exit} {k k' : List It} {s s' : St} (h : AW P R Φ e' k' C s') (hn : nrm P true 1000 e k s = ⟨e', k', s'⟩ := by simp only [go_sem, ↓reduceIte] <;> rfl) : AW P R Φ e k C s := by
  refine nrm_sound (fl := true) 1000 ?_
  rw [hn]
  exact h
end
attribute [go_sem] aguard nrmG_told nrmB_tt nrmB_ff nrmB_tf nrmB_ft nrmD_some nrm_skip nrm_seq nrm_block nrm_exit nrm_ret nrm_region nrm_inB nrm_nil nrm_ops nrm_xB nrm_xC nrm_xS nrm_r nrm_end nrm_cond nrm_loop nrm_rangeFunc nrm_goto nrm_label nrm_inS nrm_xI nrm_gC nrm_gB nrm_gS nrm_gI nrm_scope nrm_draw nrm_stop nrm_any nrmG_none nrmG_some nrmK_none nrmK_some
end Go.Ck

set_option linter.unusedVariables false
/-! Short forms: forgetting, calls, returns, loops. -/
namespace Go.Ck

/-! ### forgetting slots and objects -/
def ptsL : SV → List Nat
  | .ptr o _ => [o]
  | .mp o => [o]
  | .fn _ caps => caps.filterMap fun | .ptr o _ => some o | _ => none
  | _ => []
theorem ptsL_spec {v : SV} {o : Nat} (h : v.pts o = true) : o ∈ ptsL v := by
  cases v <;> simp [SV.pts] at h
  · subst h; simp [ptsL]
  · rename_i f caps
    obtain ⟨c, hc, h1⟩ := h
    simp only [ptsL, List.mem_filterMap]
    refine ⟨c, hc, ?_⟩
    cases c <;> simp at h1 ⊢
    exact h1
  · subst h; simp [ptsL]

def hangOn : SV → Option Place
  | .al p => some p
  | .vw p _ _ _ => some p
  | .ea p _ _ _ => some p
  | _ => none
theorem hangOn_spec {v : SV} {p : Place} (h : v.on p = true) : hangOn v = some p := by cases v <;> simp [SV.on] at h <;> subst h <;> rfl

def tupL : SV → List SV
  | .tup vs => vs
  | _ => []
/-- May only this value be kept? -/
def keptV (ds os : List Nat) (v : SV) : Bool := ((ptsL v).all fun o => os.contains o) && (match hangOn v with
  | some (.slot t) => ds.contains t
  | some (.cell o _) => os.contains o
  | _ => true)
def keptS (ds os : List Nat) (sl : List (Nat × SV)) : List Nat → Bool
  | [] => true
  | d :: r => (match look d sl with
    | some v => keptV ds os v && (tupL v).all (keptV ds os)
    | none => true) && keptS ds os sl r
def keptH (ds os : List Nat) (hp : List (Nat × HO)) : List Nat → Bool
  | [] => true
  | o :: r => (match look o hp with
    | some (.cells _ cs) => cs.all (keptV ds os)
    | _ => true) && keptH ds os hp r
def pickH : List Nat → List (Nat × HO) → List (Nat × HO)
  | [], _ => []
  | d :: r, sl => match look d sl with
    | some v => (d, v) :: pickH r sl
    | none => pickH r sl
theorem look_pickH (d : Nat) (sl : List (Nat × HO)) : ∀ ds : List Nat, look d (pickH ds sl) = if d ∈ ds then look d sl else none
  | [] => by simp [pickH, look]
  | k :: r => by
    simp only [pickH]
    split
    · rename_i v hv
      simp only [look]
      by_cases h : k = d
      · subst h; simp [hv]
      · rw [if_neg h, look_pickH d sl r]; simp [Ne.symm h]
    · rename_i hv
      rw [look_pickH d sl r]
      by_cases h : d = k
      · subst h; simp [hv]
      · simp [h]
/-- Only these slots and objects are kept. -/
def keepB (ds os : List Nat) (s : St) : St := ⟨s.n, pickS ds s.sl, pickH os s.hp⟩
def bigIn (m : Nat) (os : List Nat) : List (Nat × HO) → Bool
  | [] => true
  | (o, _) :: r => (decide (o < m) || os.contains o) && bigIn m os r
/-- May the others be forgotten? -/
def keptB (R : Option Nat) (ds os : List Nat) (s : St) : Bool := keptS ds os s.sl ds && keptH ds os s.hp os && bigIn (lim R) os s.hp

theorem keptS_spec {ds os : List Nat} {sl : List (Nat × SV)} : ∀ {l : List Nat}, keptS ds os sl l = true → ∀ d ∈ l, ∀ v, look d sl = some v → keptV ds os v = true ∧ ∀ u ∈ tupL v, keptV ds os u = true
  | [], _, d, hd, _, _ => by cases hd
  | k :: r, h, d, hd, v, hv => by
    simp only [keptS, Bool.and_eq_true] at h
    rcases List.mem_cons.1 hd with rfl | hd
    · have h1 := h.1
      rw [hv] at h1
      simp only [Bool.and_eq_true, List.all_eq_true] at h1
      exact h1
    · exact keptS_spec h.2 d hd v hv
theorem keptH_spec {ds os : List Nat} {hp : List (Nat × HO)} : ∀ {l : List Nat}, keptH ds os hp l = true → ∀ o ∈ l, ∀ e cs, look o hp = some (.cells e cs) → ∀ v ∈ cs, keptV ds os v = true
  | [], _, d, hd, _, _, _, _, _ => by cases hd
  | k :: r, h, d, hd, e, cs, hv, v, hm => by
    simp only [keptH, Bool.and_eq_true] at h
    rcases List.mem_cons.1 hd with rfl | hd
    · have h1 := h.1
      rw [hv] at h1
      simp only [List.all_eq_true] at h1
      exact h1 v hm
    · exact keptH_spec h.2 d hd e cs hv v hm
theorem bigIn_spec {m : Nat} {os : List Nat} : ∀ {hp : List (Nat × HO)}, bigIn m os hp = true → ∀ o y, look o hp = some y → o < m ∨ o ∈ os
  | [], _, o, y, h => by simp [look] at h
  | (k, v) :: r, hb, o, y, h => by
    simp only [bigIn, Bool.and_eq_true, Bool.or_eq_true, decide_eq_true_eq] at hb
    simp only [look] at h
    split at h
    · rename_i e; subst e
      exact hb.1.imp id (by simp)
    · exact bigIn_spec hb.2 o y h

section
variable {P : Program} {O0 : Base} {F : Nat → Prop} {w0 w : World} {s : St} {E : Env} {tmps : Array Value}
theorem Rel.keepG (h : Rel P O0 w0 F s E tmps w) (ds os : List Nat) (hcs : keptS ds os s.sl ds = true) (hch : keptH ds os s.hp os = true) (hob : ∀ o b, O0.ob o = some b → o ∈ os) : Rel P O0 w0 F (Ck.keepB ds os s) E tmps w := by
  have hsl : ∀ d v, look d (Ck.keepB ds os s).sl = some v → d ∈ ds ∧ look d s.sl = some v := by
    intro d v hv
    simp only [Ck.keepB] at hv
    rw [look_pickS] at hv
    split at hv
    · rename_i hm; exact ⟨hm, hv⟩
    · cases hv
  have hhp : ∀ o v, look o (Ck.keepB ds os s).hp = some v → o ∈ os ∧ look o s.hp = some v := by
    intro d v hv
    simp only [Ck.keepB] at hv
    rw [look_pickH] at hv
    split at hv
    · rename_i hm; exact ⟨hm, hv⟩
    · cases hv
  have hat : ∀ p v, (Ck.keepB ds os s).at p = some v → s.at p = some v ∧ (v.isTup = true ∨ keptV ds os v = true) := by
    intro p v hp
    cases p with
    | slot d =>
      obtain ⟨h1, h2⟩ := hsl d v hp
      exact ⟨h2, .inr (keptS_spec hcs d h1 v h2).1⟩
    | part d i =>
      simp only [St.at] at hp ⊢
      split at hp
      · rename_i vs hvs
        obtain ⟨h1, h2⟩ := hsl d _ hvs
        rw [h2]
        exact ⟨hp, .inr ((keptS_spec hcs d h1 _ h2).2 v (List.mem_of_getElem? hp))⟩
      · cases hp
    | cell o i =>
      simp only [St.at] at hp ⊢
      split at hp
      · rename_i e cs hvs
        obtain ⟨h1, h2⟩ := hhp o _ hvs
        rw [h2]
        exact ⟨hp, .inr (keptH_spec hch o h1 e cs h2 v (List.mem_of_getElem? hp))⟩
      · cases hp
  refine { place := fun p v hp => ?_, obj := fun o y hy => h.obj o y (hhp o y hy).2, size := h.size, i1 := fun o o' y y' h1 h2 => h.i1 o o' y y' (hhp _ _ h1).2 (hhp _ _ h2).2, i2 := fun p q e xs e' ys b h1 h2 => h.i2 p q e xs e' ys b (hat p _ h1).1 (hat q _ h2).1, i3 := fun p e xs o y b h1 h2 => h.i3 p e xs o y b (hat p _ h1).1 (hhp _ _ h2).2, om_lt := h.om_lt, om0 := h.om0, na := fun p v q hp hq => ?_, np := fun p v o hp ho => ?_, gr := h.gr, flt := h.flt, ob := fun o b hb => ?_ }
  · exact h.place p v (hat p v hp).1
  · obtain ⟨h1, h2⟩ := hat p v hp
    obtain ⟨k1, ⟨e, xs, k2⟩, k3⟩ := h.na p v q h1 hq
    refine ⟨k1, ⟨e, xs, ?_⟩, k3⟩
    rcases h2 with h2 | h2
    · cases v <;> simp [SV.isTup] at h2; simp [SV.on] at hq
    · have hv := hangOn_spec hq
      simp only [keptV, Bool.and_eq_true, hv] at h2
      cases q with
      | slot t =>
        have : t ∈ ds := by simpa using h2.2
        simp only [St.at, Ck.keepB]
        rw [look_pickS, if_pos this]
        exact k2
      | part t i => exact absurd rfl (k3 t i)
      | cell o i =>
        have : o ∈ os := by simpa using h2.2
        simp only [St.at, Ck.keepB]
        rw [look_pickH, if_pos this]
        exact k2
  · obtain ⟨h1, h2⟩ := hat p v hp
    obtain ⟨y, hy⟩ := h.np p v o h1 ho
    refine ⟨y, ?_⟩
    rcases h2 with h2 | h2
    · cases v <;> simp [SV.isTup] at h2; simp [SV.pts] at ho
    · simp only [keptV, Bool.and_eq_true, List.all_eq_true] at h2
      have : o ∈ os := by simpa using h2.1 o (ptsL_spec ho)
      simp only [Ck.keepB]
      rw [look_pickH, if_pos this]
      exact hy
  · obtain ⟨k1, y, hy⟩ := h.ob o b hb
    refine ⟨k1, y, ?_⟩
    simp only [Ck.keepB]
    rw [look_pickH, if_pos (hob o b hb)]
    exact hy
theorem Rel.keepB {R : Option Nat} (h : Rel P O0 w0 F s E tmps w) (h0 : ∀ o, o < lim R → O0.ob o = none) (ds os : List Nat) (hc : keptB R ds os s = true) : Rel P O0 w0 F (Ck.keepB ds os s) E tmps w := by
  simp only [keptB, Bool.and_eq_true] at hc
  obtain ⟨⟨hcs, hch⟩, hcb⟩ := hc
  refine h.keepG ds os hcs hch (fun o b hb => ?_)
  obtain ⟨_, y, hy⟩ := h.ob o b hb
  rcases bigIn_spec hcb o y hy with h1 | h1
  · rw [h0 o h1] at hb; cases hb
  · exact h1
end

section
variable {P : Program} {R : Option Nat} {Φ : Exit → Cx → St → Prop} {k : List It} {C : Cx} {s : St}
theorem AW.keepB {e : Exit} {s' : St} (ds os : List Nat) (hc : keptB R ds os s = true) (hs : Ck.keepB ds os s = s') (h : AW P R Φ e k C s') : AW P R Φ e k C s :=
  AW.weak (fun B a w ha => by
    obtain ⟨hd, E, hE⟩ := ha
    exact ⟨B, hd, E, by rw [← hs]; exact hE.keepB hd.2.1 ds os hc⟩) h

/-- A loop over states of one shape: S tells the state, J what holds, μ sinks; only these slots and objects are kept from round to round. -/
theorem AW.loopS {α : Type} {c : Code} (S : α → St) (J : α → Prop) (μ : α → Nat) (ds os : List Nat) (a0 : α) (h0 : J a0)
    (round : ∀ a, J a → ∀ K : Cx → St → Prop, (∀ a' s', keptB R ds os s' = true → Ck.keepB ds os s' = S a' → J a' → μ a' < μ a → K C s') → AW P R Φ .normal (.code c :: .stop K :: k) C (S a)) (hc : keptB R ds os s = true := by simp only [go_sem, ↓reduceIte]) (hs : Ck.keepB ds os s = S a0 := by simp only [go_sem, ↓reduceIte] <;> rfl) : AW P R Φ .normal (.code (.loop c) :: k) C s := by
  refine AW.keepB ds os hc hs ?_
  refine AW.loop (n := μ a0) (fun n s => ∃ a, n = μ a ∧ J a ∧ s = S a) ⟨a0, rfl, h0, rfl⟩ ?_
  rintro n s ⟨a, rfl, hJ, rfl⟩
  intro B x w ha
  have := round a hJ (fun C' s' => C' = C ∧ keptB R ds os s' = true ∧ ∃ a', J a' ∧ μ a' < μ a ∧ Ck.keepB ds os s' = S a') (fun a' s' h1 h2 h3 h4 => ⟨rfl, h1, a', h3, h4, h2⟩) B x w ha
  simp only [den] at this ⊢
  refine wpIn_mono this (fun e x w hq => ?_)
  cases e <;> simp only [den] at hq ⊢
  · obtain ⟨C', s', B', ⟨rfl, hk, a', hJ', hlt, hs'⟩, hd, E, hE⟩ := hq
    exact ⟨C', S a', B', ⟨rfl, μ a', hlt, a', rfl, hJ', rfl⟩, hd, E, by rw [← hs']; exact hE.keepB hd.2.1 ds os hk⟩
  all_goals exact hq
/-- A scope with one label that is jumped back to, in states of one shape. -/
theorem AW.scopeS {α : Type} {c rest : Code} (l : Nat) (S : α → St) (J : α → Prop) (μ : α → Nat) (ds os : List Nat) (hf : findLabel c l = some rest)
    (first : ∀ K : Cx → St → Prop, (∀ a' s', keptB R ds os s' = true → Ck.keepB ds os s' = S a' → J a' → K C s') → AW P R Φ .normal (.code c :: .inS l K :: k) C s)
    (pass : ∀ a, J a → ∀ K : Cx → St → Prop, (∀ a' s', keptB R ds os s' = true → Ck.keepB ds os s' = S a' → J a' → μ a' < μ a → K C s') → AW P R Φ .normal (.code rest :: .inS l K :: k) C (S a)) : AW P R Φ .normal (.code (.scope c) :: k) C s := by
  refine AW.scopeC l (fun n C' s' => C' = C ∧ keptB R ds os s' = true ∧ ∃ a, n = μ a ∧ J a ∧ Ck.keepB ds os s' = S a) hf
    (first _ (fun a' s' h1 h2 h3 => ⟨μ a', rfl, h1, a', rfl, h3, h2⟩)) ?_
  rintro n C' s' ⟨rfl, h1, a, rfl, hJ, h2⟩
  refine AW.keepB ds os h1 h2 ?_
  exact pass a hJ _ (fun a' s'' h1 h2 h3 h4 => ⟨μ a', h4, rfl, h1, a', rfl, h3, h2⟩)
theorem AW.leap {α : Type} {S : α → St} {J : α → Prop} {μ : α → Nat} {ds os : List Nat} {K : Cx → St → Prop} {l : Nat} {a : α} (hK : ∀ a' s', keptB R ds os s' = true → Ck.keepB ds os s' = S a' → J a' → μ a' < μ a → K C s') (a' : α) (hJ : J a') (hlt : μ a' < μ a)
    (hc : keptB R ds os s = true := by simp only [go_sem, ↓reduceIte]) (hs : Ck.keepB ds os s = S a' := by simp only [go_sem, ↓reduceIte] <;> rfl) : AW P R Φ (.goto l) (.inS l K :: k) C s := AW.jump (hK a' s hc hs hJ hlt)
theorem AW.leap0 {α : Type} {S : α → St} {J : α → Prop} {ds os : List Nat} {K : Cx → St → Prop} {l : Nat} (hK : ∀ a' s', keptB R ds os s' = true → Ck.keepB ds os s' = S a' → J a' → K C s') (a' : α) (hJ : J a')
    (hc : keptB R ds os s = true := by simp only [go_sem, ↓reduceIte]) (hs : Ck.keepB ds os s = S a' := by simp only [go_sem, ↓reduceIte] <;> rfl) : AW P R Φ (.goto l) (.inS l K :: k) C s := AW.jump (hK a' s hc hs hJ)
/-- Ways that meet again, in a state of one shape. -/
theorem AW.joinS {α : Type} {c : Code} (S : α → St) (J : α → Prop) (ds os : List Nat)
    (h : ∀ K : Cx → St → Prop, (∀ a' s', keptB R ds os s' = true → Ck.keepB ds os s' = S a' → J a' → K C s') → AW P R Φ .normal (.code c :: .stop K :: k) C s)
    (hk : ∀ a, J a → AW P R Φ .normal k C (S a)) : AW P R Φ .normal (.code c :: k) C s := by
  refine AW.join (fun C' s' => C' = C ∧ keptB R ds os s' = true ∧ ∃ a', J a' ∧ Ck.keepB ds os s' = S a') (h _ (fun a' s' h1 h2 h3 => ⟨rfl, h1, a', h3, h2⟩)) ?_
  rintro C' s' ⟨rfl, h1, a', h3, h2⟩
  exact AW.keepB ds os h1 h2 (hk a' h3)
/-- Again. -/
theorem AW.again {α : Type} {S : α → St} {J : α → Prop} {μ : α → Nat} {ds os : List Nat} {K : Cx → St → Prop} {a : α} (hK : ∀ a' s', keptB R ds os s' = true → Ck.keepB ds os s' = S a' → J a' → μ a' < μ a → K C s') (a' : α) (hJ : J a') (hlt : μ a' < μ a)
    (hc : keptB R ds os s = true := by simp only [go_sem, ↓reduceIte]) (hs : Ck.keepB ds os s = S a' := by simp only [go_sem, ↓reduceIte] <;> rfl) : AW P R Φ .normal (.stop K :: k) C s := AW.stop (hK a' s hc hs hJ hlt)
theorem AW.meet {α : Type} {S : α → St} {J : α → Prop} {ds os : List Nat} {K : Cx → St → Prop} (hK : ∀ a' s', keptB R ds os s' = true → Ck.keepB ds os s' = S a' → J a' → K C s') (a' : α) (hJ : J a')
    (hc : keptB R ds os s = true := by simp only [go_sem, ↓reduceIte]) (hs : Ck.keepB ds os s = S a' := by simp only [go_sem, ↓reduceIte] <;> rfl) : AW P R Φ .normal (.stop K :: k) C s := AW.stop (hK a' s hc hs hJ)
end

/-! ### calls -/
def callO (svs : Option (List SV)) : Option SV → Option (FuncId × List SV)
  | some (.fn f caps) => (match svs with
    | some vs => some (f, vs ++ caps)
    | none => none)
  | _ => none
def callOp (s : St) : Op → Option (FuncId × List SV)
  | .call c => (match c.callee with
    | .value fx => callO (evs s c.args.toList) (ev s fx)
    | _ => none)
  | _ => none
def HM (s : St) (ρ : Nat → Nat) : List (Nat × HO) → Prop
  | [] => True
  | (o, y) :: r => look (ρ o) s.hp = some (y.ren ρ) ∧ HM s ρ r
def nodupB : List Nat → Bool
  | [] => true
  | a :: r => !r.contains a && nodupB r
def inL (ns : List Nat) (v : SV) : Bool := (ptsL v).all fun o => ns.contains o
def cellsIn (ns : List Nat) : List (Nat × HO) → Bool
  | [] => true
  | (_, .cells _ cs) :: r => cs.all (inL ns) && cellsIn ns r
  | _ :: r => cellsIn ns r
def offP (ns : List Nat) : Place → Bool
  | .cell o _ => !ns.contains o
  | _ => true
def offM (ns : List Nat) : Option Place → Bool
  | some p => offP ns p
  | none => true
def neM (p : Place) : Option Place → Bool
  | some q => decide (q ≠ p)
  | none => true
def okB (ρ : Nat → Nat) (H : List (Nat × HO)) (args : List SV) (L : List Place) (m : Option Place) : Bool :=
  nodupB ((namesOf H).map ρ) && cellsIn (namesOf H) H && args.all (inL (namesOf H)) && L.all (fun p => neM p m && offP ((namesOf H).map ρ) p) && offM ((namesOf H).map ρ) m

theorem HM_spec {s : St} {ρ : Nat → Nat} : ∀ {H : List (Nat × HO)}, HM s ρ H → ∀ o y, look o H = some y → look (ρ o) s.hp = some (y.ren ρ)
  | [], _, o, y, h => by simp [look] at h
  | (k, v) :: r, hm, o, y, h => by
    simp only [look] at h
    split at h
    · rename_i e; subst e; cases h; exact hm.1
    · exact HM_spec hm.2 o y h
theorem nodupB_inj {ρ : Nat → Nat} : ∀ {l : List Nat}, nodupB (l.map ρ) = true → l.Nodup ∧ ∀ a ∈ l, ∀ b ∈ l, ρ a = ρ b → a = b
  | [], _ => ⟨List.nodup_nil, fun a h => by cases h⟩
  | a :: r, h => by
    simp only [List.map_cons, nodupB, Bool.and_eq_true, Bool.not_eq_true', List.contains_eq_mem, decide_eq_false_iff_not] at h
    obtain ⟨h0, h3⟩ := h
    obtain ⟨h1, h2⟩ := nodupB_inj h3
    refine ⟨List.nodup_cons.2 ⟨fun hm => h0 (List.mem_map.2 ⟨a, hm, rfl⟩), h1⟩, fun x hx y hy hxy => ?_⟩
    rcases List.mem_cons.1 hx with hx | hx <;> rcases List.mem_cons.1 hy with hy | hy
    · rw [hx, hy]
    · rw [hx] at hxy; exact absurd (List.mem_map.2 ⟨y, hy, hxy.symm⟩) h0
    · rw [hy] at hxy; exact absurd (List.mem_map.2 ⟨x, hx, hxy⟩) h0
    · exact h2 x hx y hy hxy
theorem inL_spec {H : List (Nat × HO)} {v : SV} (h : inL (namesOf H) v = true) {o : Nat} (ho : v.pts o = true) : ∃ z, look o H = some z := by
  have := List.all_eq_true.1 h o (ptsL_spec ho)
  exact look_some_of_mem (by simpa using this)
theorem cellsIn_spec {ns : List Nat} : ∀ {H : List (Nat × HO)}, cellsIn ns H = true → ∀ o y, look o H = some y → ∀ c ∈ y.list, inL ns c = true
  | [], _, o, y, h => by simp [look] at h
  | (k, v) :: r, hb, o, y, h => by
    simp only [look] at h
    split at h
    · rename_i e; subst e; cases h
      cases v with
      | cells e cs =>
        simp only [cellsIn, Bool.and_eq_true, List.all_eq_true] at hb
        exact hb.1
      | mp es => intro c hc; simp [HO.list] at hc
    · refine cellsIn_spec (H := r) ?_ o y h
      cases v <;> simp only [cellsIn, Bool.and_eq_true] at hb
      · exact hb.2
      · exact hb
theorem offP_spec {ns : List Nat} {p : Place} (h : offP ns p = true) {o i : Nat} (ho : o ∈ ns) : p ≠ .cell o i := by
  rintro rfl
  simp [offP] at h
  exact h ho
theorem names_of_look {H : List (Nat × HO)} {o : Nat} {y : HO} (h : look o H = some y) : o ∈ namesOf H := List.mem_map.2 ⟨_, look_mem h, rfl⟩

theorem CallOK.ofB {s : St} {ρ : Nat → Nat} {H : List (Nat × HO)} {args : List SV} {L : List Place} {m : Option Place} (hM : HM s ρ H) (hB : okB ρ H args L m = true) : CallOK s ρ H args L m := by
  simp only [okB, Bool.and_eq_true, List.all_eq_true] at hB
  obtain ⟨⟨⟨⟨h1, h2⟩, h3⟩, h4⟩, h5⟩ := hB
  obtain ⟨k1, k2⟩ := nodupB_inj h1
  refine ⟨HM_spec hM, fun o o' y y' hy hy' he => k2 o (names_of_look hy) o' (names_of_look hy') he, fun o y c o' hy hc ho => inL_spec (cellsIn_spec h2 o y hy c hc) ho, fun c hc o ho => inL_spec (h3 c hc) ho, fun p hp => ⟨?_, fun o y i hy => offP_spec (h4 p hp).2 (List.mem_map.2 ⟨o, names_of_look hy, rfl⟩)⟩, fun p hm o y i hy => ?_⟩
  · have := (h4 p hp).1
    cases m with
    | none => simp
    | some q => simp only [neM, decide_eq_true_eq] at this; exact fun h => this (Option.some.inj h)
  · subst hm
    exact offP_spec h5 (List.mem_map.2 ⟨o, names_of_look hy, rfl⟩)

def freshO (s : St) (ρ : Nat → Nat) (H : List (Nat × HO)) : List (Nat × HO) → Bool
  | [] => true
  | (o, _) :: r => (match look o H with
    | some _ => true
    | none => (match look (ρ o) s.hp with | none => true | some _ => false)) && freshO s ρ H r
theorem freshO_spec {s : St} {ρ : Nat → Nat} {H : List (Nat × HO)} : ∀ {H' : List (Nat × HO)}, freshO s ρ H H' = true → ∀ o ∈ namesOf H', look o H = none → look (ρ o) s.hp = none
  | [], _, o, h, _ => by cases h
  | (k, v) :: r, hb, o, h, hn => by
    simp only [freshO, Bool.and_eq_true] at hb
    simp only [namesOf, List.map_cons, List.mem_cons] at h
    rcases h with rfl | h
    · have h1 := hb.1
      rw [hn] at h1
      simp only at h1
      split at h1
      · assumption
      · cases h1
    · exact freshO_spec hb.2 o h hn
def nilL : List Place → Bool
  | [] => true
  | _ => false
/-- What is asked of what a call comes back with. -/
def okA (s : St) (ρ : Nat → Nat) (H : List (Nat × HO)) (L : List Place) (rs : List SV) (H' : List (Nat × HO)) : Bool :=
  rs.all resOK && nodupB ((namesOf H').map ρ) && freshO s ρ H H' && (nilL L || (rs.all SV.clo && H'.all (fun y => y.2.clo)))
/-- The state behind a call. -/
def behind (s : St) (ρ : Nat → Nat) (m : Option Place) (H : List (Nat × HO)) (d : Nat) (rs : List SV) (H' : List (Nat × HO)) : St :=
  afterCall ρ d rs ⟨s.n, (handOver s ρ m H).sl, updHp ρ H' (handOver s ρ m H).hp⟩

section
variable {P : Program} {R : Option Nat} {Φ : Exit → Cx → St → Prop} {k : List It} {C : Cx} {s : St}

theorem AW.callX {all : Array Oper} {o : Oper} {r : List Oper} {f : FuncId} {svs : List SV} {H : List (Nat × HO)} {args : List SV} {L : List Place} {m : Option Place} {Ψ : List SV → List (Nat × HO) → Prop} {d : Nat} (ρ : Nat → Nat)
    (hg : o.guard = none) (hd : o.dst = some d) (hc : callOp s o.op = some (f, svs)) (hF : Fn P f H args Ψ) (hP : Pass P s ρ svs args L m) (hM : HM s ρ H) (hB : okB ρ H args L m = true)
    (hk : ∀ rs H', Ψ rs H' → okA s ρ H L rs H' = true ∧ AW P R Φ .normal (.ops all r :: k) C (behind s ρ m H d rs H')) :
    AW P R Φ .normal (.ops all (o :: r) :: k) C s := by
  cases ho : o.op with
  | call c =>
    rw [ho] at hc
    simp only [callOp] at hc
    split at hc
    · rename_i fx hcal
      unfold callO at hc
      split at hc
      · rename_i g caps hfx
        split at hc
        · rename_i vs hvs
          cases hc
          refine AW.call hg ho hd hcal hfx hvs hP (.ofB hM hB) hF (fun rs H' hΨ => ?_)
          obtain ⟨h1, h2⟩ := hk rs H' hΨ
          simp only [okA, Bool.and_eq_true, Bool.or_eq_true] at h1
          obtain ⟨⟨⟨a1, a2⟩, a3⟩, a4⟩ := h1
          obtain ⟨b1, b2⟩ := nodupB_inj a2
          refine ⟨a1, b1, b2, freshO_spec a3, a4.imp (fun h => ?_) (fun h => h), h2⟩
          cases L with
          | nil => rfl
          | cons p r => cases h
        · cases hc
      · cases hc
    · cases hc
  | _ => rw [ho] at hc; simp [callOp] at hc

/-- A call that comes back in one way. -/
theorem AW.callE {all : Array Oper} {o : Oper} {r : List Oper} {f : FuncId} {svs : List SV} {H H' : List (Nat × HO)} {args rs : List SV} {L : List Place} {m : Option Place} {d : Nat} {s' : St} (ρ : Nat → Nat)
    (hF : Fn P f H args (fun rs' h => rs' = rs ∧ h = H')) (hP : Pass P s ρ svs args L m) (h : AW P R Φ .normal (.ops all r :: k) C s') (hg : o.guard = none := by rfl) (hd : o.dst = some d := by rfl) (hc : callOp s o.op = some (f, svs) := by simp only [go_sem, ↓reduceIte] <;> rfl) (hM : HM s ρ H := by simp only [go_sem, ↓reduceIte]) (hB : okB ρ H args L m = true := by simp only [go_sem, ↓reduceIte])
    (hA : okA s ρ H L rs H' = true := by simp only [go_sem, ↓reduceIte]) (hs : behind s ρ m H d rs H' = s' := by simp only [go_sem, ↓reduceIte] <;> rfl) :
    AW P R Φ .normal (.ops all (o :: r) :: k) C s := AW.callX ρ hg hd hc hF hP hM hB (fun rs' h' ⟨e1, e2⟩ => by subst e1; subst e2; exact ⟨hA, by rw [hs]; exact h⟩)

/-! ### returns -/
def retO (P : Program) (s : St) (t : TypeId) : Option SV → Option SV
  | some (.ptr o off) => aload (tsh P t) s (.ptr o off)
  | _ => none
def retsV (P : Program) (s : St) : List ResultVar → Option (List SV)
  | [] => some []
  | .tmp t :: r => (match ev s (.tmp t), retsV P s r with | some v, some vs => some (v :: vs) | _, _ => none)
  | .cell b t :: r => (match retO P s t (ev s (.tmp b)), retsV P s r with | some v, some vs => some (v :: vs) | _, _ => none)
theorem retsV_spec : ∀ {l : List ResultVar} {svs : List SV}, retsV P s l = some svs → Rets P s l svs
  | [], svs, h => by cases h; exact .nil
  | .tmp t :: r, svs, h => by
    simp only [retsV] at h
    split at h
    · rename_i v vs h1 h2
      cases h
      exact .tmp h1 (retsV_spec h2)
    · cases h
  | .cell b t :: r, svs, h => by
    simp only [retsV] at h
    split at h
    · rename_i v vs h1 h2
      cases h
      unfold retO at h1
      split at h1
      · rename_i o off h3
        exact .cell h3 h1 (retsV_spec h2)
      · cases h1
    · cases h
def allIn (H H' : List (Nat × HO)) : Bool := H.all fun y => match look y.1 H' with | some _ => true | none => false
theorem AW.fin {res : List ResultVar} {H H' : List (Nat × HO)} {Ψ : List SV → List (Nat × HO) → Prop} {e : Exit} {svs rs : List SV} {L : List Place} {m : Option Place} (he : e = .normal ∨ e = .ret) (hv : retsV P s res = some svs) (hP : Pass P s id svs rs L m) (hM : HM s id H') (hB : okB id H' rs L m = true)
    (hn : allIn H H' = true) (hΨ : Ψ rs H') : AW P R (Ends P res H Ψ C) e [] C s :=
  AW.nil ⟨rfl, he, svs, rs, H', L, m, retsV_spec hv, hP, .ofB hM hB, (fun o y hy => by
    have := List.all_eq_true.1 hn (o, y) (look_mem hy)
    simp only at this
    split at this
    · rename_i z hz; exact ⟨z, hz⟩
    · cases this), hΨ⟩
/-- The end of a body that comes back in one way. -/
theorem AW.finE {res : List ResultVar} {H H' : List (Nat × HO)} {e : Exit} {svs rs rs' : List SV} {L : List Place} {m : Option Place} (hP : Pass P s id svs rs' L m) (hr : rs' = rs) (he : e = .normal ∨ e = .ret := by first | exact .inl rfl | exact .inr rfl) (hv : retsV P s res = some svs := by simp only [go_sem, ↓reduceIte] <;> rfl) (hM : HM s id H' := by simp only [go_sem, ↓reduceIte]; try trivial) (hB : okB id H' rs L m = true := by simp only [go_sem, ↓reduceIte])
    (hn : allIn H H' = true := by simp only [go_sem, ↓reduceIte]) : AW P R (Ends P res H (fun r h => r = rs ∧ h = H') C) e [] C s := by
  subst hr
  exact AW.fin he hv hP hM hB hn ⟨rfl, rfl⟩
end
end Go.Ck

set_option linter.unusedVariables false
namespace Go.Ck
attribute [go_sem] List.replicate_zero List.replicate_succ List.singleton_append astep reads putO orElse aeff aval ev look ofConst zslots put clear setSlot SV.on evs evo lenT intO alen cont abinS abin pvO aindexAddr indexT aload raO subP PV.cells
  kill killL setObj setAt del St.at transfer storeCell putCells storeAgg storeO storeElem storeE astore newObj partCells fillParts mkAgg allPV fillElems elemsO elemsOf appendO appendX aappend TK.isSrc TK.isBool TK.isPtr eqSV aun convT aconv aggO cellO elemO ownO objO eaO afieldAddr afield optInt sliceV sliceB sliceN aslice freezeO thaw freezeA freeze setCells plainCells allPlain setElem minI maxI strO bstrO PV.one SV.simple numsOf mlook keyEq
  callOp callO behind afterCall handOver killOs killO killOL SV.onO giveUp updHp putHp namesOf SV.ren SV.ren1 HO.ren putTupS
  retO retsV Ck.keepB pickS pickH keptB keptS keptH keptV bigIn lim ptsL hangOn tupL
  List.map_cons List.map_nil List.all_cons List.all_nil List.append_nil List.nil_append List.cons_append List.getElem?_cons_zero List.getElem?_cons_succ List.getElem?_nil List.set_cons_zero List.set_cons_succ List.set_nil List.length_cons List.length_nil List.take_zero List.drop_zero List.take_succ_cons List.drop_succ_cons List.take_nil List.drop_nil
  Nat.reduceAdd Nat.reduceSub Nat.reduceMul Nat.reduceEqDiff Nat.reduceLT Nat.reduceLeDiff Nat.reduceBEq Nat.reduceBNe reduceCtorEq Bool.false_eq_true Bool.and_true Bool.true_and Bool.or_true Bool.true_or Bool.false_or Bool.or_false Bool.and_false Bool.false_and Bool.not_true Bool.not_false
  Nat.succ_ne_self Nat.one_ne_zero Nat.zero_add Nat.add_zero Nat.zero_le Nat.le_refl Nat.zero_mul Nat.one_mul Nat.mul_one and_self and_true true_and and_false false_and not_false_eq_true not_true_eq_false ne_eq decide_true decide_false if_true if_false Place.slot.injEq Place.part.injEq Place.cell.injEq
  Int.toNat_natCast Int.reduceLT Int.reduceLE Int.reduceToNat Int.reduceAdd Int.reduceSub Int.reduceNeg Int.reduceEq Int.reduceBEq Int.reduceBNe Option.getD_some Option.getD_none Array.toList List.contains_nil List.filterMap_nil List.filterMap_cons List.contains_cons
end Go.Ck

set_option linter.unusedVariables false
/-! Operations with rules of their own: strings' bytes, tables, maps, structs of two integers. -/
namespace Go.Ck
open Go.RowKit Go.MapKept
section
variable {P : Program} {R : Option Nat} {Φ : Exit → Cx → St → Prop} {k : List It} {C : Cx} {s : St}

/-- An operation that reads and hands back a value. -/
theorem AW.opSV {all : Array Oper} {o : Oper} {r : List Oper} {d : Nat} {v : SV} (hg : o.guard = none) (hd : o.dst = some d) (hp : ∀ c, o.op ≠ .defer c) (hgood : Good s v)
    (h : ∀ (B : Bs) (E : Env) (a : Act) (w : World), GOK P (fun b => E.om b ∨ B.F b) w → Rel P B.O B.w B.F s E a.tmps w → ∃ x, (execOp a.eval o).run P w = .ok (.value x) w ∧ RS P (fun b => E.om b ∨ B.F b) E w v x)
    (hk : AW P R Φ .normal (.ops all r :: k) C (put d v s)) : AW P R Φ .normal (.ops all (o :: r) :: k) C s := fun B a w ha => by
  simp only [den]
  refine wpListIn_want (by simp [Region.wanted, hg]) hp ?_
  obtain ⟨hdf, E, hE⟩ := ha
  obtain ⟨x, h1, h2⟩ := h B E a w (Rel.gok hdf.2.2 hE) hE
  rw [h1, Oper.uponIn_value, hd]
  exact hk B _ w ⟨by rw [put_defers]; exact hdf, E, hE.putGood d hgood h2⟩

theorem ev_int {B : Bs} {E : Env} {a : Act} {w : World} (hE : Rel P B.O B.w B.F s E a.tmps w) {x : Operand} {kk : IntKind} {n : Int} (h : ev s x = some (.pv (.int kk n))) : a.eval x = .int kk n := by
  have := ev_rs hE h
  generalize a.eval x = z at this
  cases this with | pv _ _ h => cases h; rfl
theorem ev_str {B : Bs} {E : Env} {a : Act} {w : World} (hE : Rel P B.O B.w B.F s E a.tmps w) {x : Operand} {l : List UInt8} (h : ev s x = some (.pv (.str l))) : a.eval x = .string ⟨l.toArray⟩ := by
  have := ev_rs hE h
  generalize a.eval x = z at this
  cases this with | pv _ _ h => cases h; rfl

/-- A string's byte. -/
theorem AW.indexStr {all : Array Oper} {o : Oper} {r : List Oper} {d t : Nat} {x i : Operand} {l : List UInt8} {n : Nat} {kk : IntKind} (v : UInt8) (hx : ev s x = some (.pv (.str l))) (hi : ev s i = some (.pv (.int kk (n : Int)))) (hv : l[n]? = some v) 
    (hk : AW P R Φ .normal (.ops all r :: k) C (put d (.pv (.int .u8 v.toNat)) s)) (hg : o.guard = none := by rfl) (hd : o.dst = some d := by rfl) (ho : o.op = .index t x i := by rfl) (hT : P.underlying t = some .string := by kernel_rfl) : AW P R Φ .normal (.ops all (o :: r) :: k) C s := by
  refine AW.opSV hg hd (fun c hc => by rw [ho] at hc; cases hc) (.pv _ _) (fun B E a w _ hE => ⟨.int .u8 v.toNat, ?_, .pv _ _ (.int _ _)⟩) hk
  have e1 := ev_str hE hx
  have e2 := ev_int hE hi
  have h0 : (⟨l.toArray⟩ : ByteArray)[n]? = some v := by
    obtain ⟨hlt, h2⟩ := List.getElem?_eq_some_iff.1 hv
    have h3 : n < (⟨l.toArray⟩ : ByteArray).size := by simpa [ByteArray.size] using hlt
    rw [getElem?_pos (⟨l.toArray⟩ : ByteArray) n h3]
    exact congrArg some h2
  simp [execOp, ho, e1, e2, Instr.index, asIntOf, Result.andThen, run_underlying hT, h0]

/-- A table's place. -/
theorem AW.globIdx {all : Array Oper} {o : Oper} {r : List Oper} {d t g m e : Nat} {ea : Bool} {i : Operand} {l : List Nat} {n : Nat} {kk : IntKind} (hgl : (g, l) ∈ gtabs P) (hi : ev s i = some (.pv (.int kk (n : Int)))) (hn : n < m) (hT : tk P t = .arr m e 1 ea)
    (hk : AW P R Φ .normal (.ops all r :: k) C (put d (.ra (.agg (l.map fun (j : Nat) => PV.int .u8 (j : Int))) n) s)) (hg : o.guard = none := by rfl) (hd : o.dst = some d := by rfl) (ho : o.op = .indexAddr t (.global g) i := by rfl) : AW P R Φ .normal (.ops all (o :: r) :: k) C s := by
  refine AW.opSV hg hd (fun c hc => by rw [ho] at hc; cases hc) ⟨rfl, by simp [SV.on], by simp [SV.pts]⟩ (fun B E a w hG hE => ⟨.pointer (some ⟨g, 0 + n, none⟩), ?_, ?_⟩) hk
  · have e2 := ev_int hE hi
    obtain ⟨hu, hez⟩ := tk_arr hT
    obtain ⟨inf, hinf, hsz⟩ := info_of_cells (P := P) (t := e) (by omega)
    have e3 : a.eval (.global g) = .pointer (some ⟨g, 0, none⟩) := rfl
    have : (0 : Int) ≤ (n : Int) ∧ (n : Int) < (m : Int) := by omega
    simp [execOp, ho, e2, e3, Instr.indexAt, asIntOf, run_underlying hu, run_sizeOf w hinf, this, Instr.sureAddr, add_mk, hez, hn]
  · obtain ⟨h1, h2, h3⟩ := hG g l hgl
    refine RS.ra _ n (l.map fun (j : Nat) => Value.int .u8 (j : Int)) ⟨g, 0, none⟩ rfl ⟨by simp [PV.cells], by simp [PV.cells, PV.one], fun i c v hc hv => ?_⟩ (fun i v hv => ⟨h1, ?_⟩)
    · simp only [PV.cells, List.getElem?_map, Option.map_eq_some_iff] at hc hv
      obtain ⟨x, hx, rfl⟩ := hc
      obtain ⟨y, hy, rfl⟩ := hv
      rw [hx] at hy; cases hy
      exact .int _ _
    · simp only [List.getElem?_map, Option.map_eq_some_iff] at hv
      obtain ⟨y, hy, rfl⟩ := hv
      simpa using h3 i y hy

/-! ### maps -/
def keyFits : TK → PV → Bool
  | .int k, .int k' _ => decide (k = k')
  | .str, .str _ => true
  | _, _ => false
/-- A map with another value at a key. -/
def msetO (a u : PV) : Option (List (PV × PV)) → Option (List (PV × PV))
  | some r => some ((a, u) :: r)
  | none => none
def mset (k v : PV) : List (PV × PV) → Option (List (PV × PV))
  | [] => some [(k, v)]
  | (a, u) :: r => (match keyEq k a with
    | some true => some ((k, v) :: r)
    | some false => msetO a u (mset k v r)
    | none => none)

/-- How a map's entries are read. -/
def MRO (A : Nat → Prop) (w : World) (es : List (PV × PV)) (ms : List MapEntry) : Prop := ms.length = es.length ∧ ∀ (i : Nat) (kv : PV × PV) (m : MapEntry), es[i]? = some kv → ms[i]? = some m → RO A w kv.1 m.key ∧ RO A w kv.2 m.val
theorem MRO.cons {A : Nat → Prop} {w : World} {kv : PV × PV} {es : List (PV × PV)} {ms : List MapEntry} (h : MRO A w (kv :: es) ms) : ∃ m r, ms = m :: r ∧ RO A w kv.1 m.key ∧ RO A w kv.2 m.val ∧ MRO A w es r := by
  cases ms with
  | nil => simp [MRO] at h
  | cons m r =>
    obtain ⟨h1, h2⟩ := h
    obtain ⟨k1, k2⟩ := h2 0 kv m rfl rfl
    exact ⟨m, r, rfl, k1, k2, by simpa using h1, fun i kv' m' hk hm => h2 (i + 1) kv' m' (by simpa using hk) (by simpa using hm)⟩
theorem MRO.mk {A : Nat → Prop} {w : World} {kv : PV × PV} {es : List (PV × PV)} {m : MapEntry} {r : List MapEntry} (h1 : RO A w kv.1 m.key) (h2 : RO A w kv.2 m.val) (h : MRO A w es r) : MRO A w (kv :: es) (m :: r) := by
  refine ⟨by simp [h.1], fun i kv' m' hk hm => ?_⟩
  cases i with
  | zero => simp at hk hm; subst hk; subst hm; exact ⟨h1, h2⟩
  | succ i => exact h.2 i kv' m' (by simpa using hk) (by simpa using hm)

theorem bytes_eq_iff (a b : List UInt8) : ((⟨a.toArray⟩ : ByteArray) == ⟨b.toArray⟩) = (a == b) := by
  rw [Bool.eq_iff_iff, bytes_beq, beq_iff_eq]
  constructor
  · intro h
    have := congrArg (fun x : ByteArray => x.data.toList) h
    simpa using this
  · rintro rfl; rfl
theorem sameNow_of {A : Nat → Prop} {w : World} {t : Nat} {d : TypeDesc} {k a : PV} {x y : Value} {b : Bool} (hu : P.underlying t = some d) (hf : keyFits (tk P t) k = true) (h : keyEq k a = some b) (hx : RO A w k x) (hy : RO A w a y) : Instr.sameNow d x y = some b := by
  cases k <;> cases a <;> simp [keyEq] at h
  · rename_i k1 n1 k2 n2
    cases hx; cases hy
    obtain ⟨rfl, rfl⟩ := h
    cases hk : tk P t <;> rw [hk] at hf <;> simp [keyFits] at hf
    have := tk_int hk
    rw [hu] at this; cases this
    simp [Instr.sameNow]
  · cases hx; cases hy
    cases hk : tk P t <;> rw [hk] at hf <;> simp [keyFits] at hf
    have := tk_str hk
    rw [hu] at this; cases this
    simp only [Instr.sameNow]
    rw [bytes_eq_iff, h]
theorem keyFits_isKey {A : Nat → Prop} {w : World} {t : Nat} {d : TypeDesc} {k : PV} {x : Value} (hu : P.underlying t = some d) (hf : keyFits (tk P t) k = true) (hx : RO A w k x) : IsKey d x := by
  cases k <;> cases hk : tk P t <;> rw [hk] at hf <;> simp [keyFits] at hf
  · have := tk_int hk
    rw [hu] at this; cases this
    cases hx; simp [IsKey, hf]
  · have := tk_str hk
    rw [hu] at this; cases this
    cases hx; simp [IsKey]

theorem findNow_of {A : Nat → Prop} {w : World} {t : Nat} {d : TypeDesc} {k : PV} {x : Value} (hu : P.underlying t = some d) (hf : keyFits (tk P t) k = true) (hx : RO A w k x) : ∀ {es : List (PV × PV)} {ms : List MapEntry} (n : Nat) {r : Option PV}, MRO A w es ms → mlook k es = some r →
    (r = none ∧ Instr.findNow d x ms n = some none) ∨ ∃ p i v, r = some p ∧ Instr.findNow d x ms n = some (some (i, v)) ∧ RO A w p v
  | [], ms, n, r, hm, h => by
    have : ms = [] := List.eq_nil_of_length_eq_zero hm.1
    subst this
    simp [mlook] at h
    exact .inl ⟨h.symm, rfl⟩
  | (a, v) :: es, ms, n, r, hm, h => by
    obtain ⟨m, rest, rfl, h1, h2, h3⟩ := hm.cons
    simp only [mlook] at h
    split at h
    · rename_i he
      cases h
      exact .inr ⟨v, n, m.val, rfl, by simp [Instr.findNow, sameNow_of hu hf he hx h1], h2⟩
    · rename_i he
      have := sameNow_of hu hf he hx h1
      simp only [Instr.findNow, this]
      exact findNow_of hu hf hx (n + 1) h3 h
    · cases h

/-- What a look-up comes to. -/
def mval (z : PV) : Option PV → PV × Bool
  | some v => (v, true)
  | none => (z, false)

theorem lookup_run {B : Bs} {E : Env} {a : Act} {w : World} {o : Oper} {t kt et ob : Nat} {x i : Operand} {ok : Bool} {key z : PV} {es : List (PV × PV)} {r : Option PV} (hE : Rel P B.O B.w B.F s E a.tmps w)
    (ho : o.op = .lookup t x i ok) (hT : tk P t = .map kt et) (hf : keyFits (tk P kt) key = true) (hx : ev s x = some (.mp ob)) (hi : ev s i = some (.pv key)) (hes : look ob s.hp = some (.mp es)) (hm : mlook key es = some r) (hz : zeroElem P et = some z) :
    ∃ v, RO (fun b => E.om b ∨ B.F b) w (mval z r).1 v ∧ (execOp a.eval o).run P w = .ok (.value (if ok then .tuple #[v, .bool (mval z r).2] else v)) w := by
  have hu := tk_map hT
  obtain ⟨hom, ms, clock, hb, hsz, hro⟩ := hE.obj ob _ hes
  have e1 : a.eval x = .map (some (E.obj ob)) := by
    have := ev_rs hE hx
    generalize a.eval x = y at this
    cases this; rfl
  have e2 : RO (fun b => E.om b ∨ B.F b) w key (a.eval i) := by
    have := ev_rs hE hi
    cases this with | pv _ _ h => exact h
  obtain ⟨inf, zv, hinf, hzv, _, hzr, _⟩ := zeroElem_sound (P := P) (w := w) (A := fun b => E.om b ∨ B.F b) hz
  have hkd : ∃ d, P.underlying kt = some d := by
    cases hk : tk P kt <;> rw [hk] at hf <;> simp [keyFits] at hf
    · exact ⟨_, tk_int hk⟩
    · exact ⟨_, tk_str hk⟩
  obtain ⟨d, hkd⟩ := hkd
  have hmro : MRO (fun b => E.om b ∨ B.F b) w es ms.toList := ⟨by simpa using hsz, fun i kv m hk hm => hro i kv m hk (by simpa using hm)⟩
  have hck := run_checkKey (w := w) hkd (keyFits_isKey hkd hf e2) ms.isEmpty 9999
  have hzrun : (zeroValue et).run P w = .ok zv w := by simp [zeroValue, typeInfo, hinf, hzv, Result.andThen]
  rcases findNow_of hkd hf e2 0 hmro hm with ⟨rfl, hfn⟩ | ⟨p, j, v, rfl, hfn, hv⟩
  · refine ⟨zv, hzr, ?_⟩
    simp [execOp, ho, e1, Instr.lookup, run_underlying hu, Result.andThen, run_getObj_map hb, hck, run_findKey hkd hfn, hzrun, mval]
  · refine ⟨v, hv, ?_⟩
    simp [execOp, ho, e1, Instr.lookup, run_underlying hu, Result.andThen, run_getObj_map hb, hck, run_findKey hkd hfn, mval]

/-- 'm[k]' -/
theorem AW.lookup {all : Array Oper} {o : Oper} {rr : List Oper} {d t kt et ob : Nat} {x i : Operand} {key z : PV} {es : List (PV × PV)} {r : Option PV}
    (hx : ev s x = some (.mp ob)) (hi : ev s i = some (.pv key)) (hes : look ob s.hp = some (.mp es)) (hm : mlook key es = some r) (hT : tk P t = .map kt et) (hf : keyFits (tk P kt) key = true) (hz : zeroElem P et = some z)
    (hk : AW P R Φ .normal (.ops all rr :: k) C (put d (.pv (mval z r).1) s)) (hg : o.guard = none := by rfl) (hd : o.dst = some d := by rfl) (ho : o.op = .lookup t x i false := by rfl) : AW P R Φ .normal (.ops all (o :: rr) :: k) C s := by
  refine AW.opSV hg hd (fun c hc => by rw [ho] at hc; cases hc) (.pv _ _) (fun B E a w _ hE => ?_) hk
  obtain ⟨v, h1, h2⟩ := lookup_run hE ho hT hf hx hi hes hm hz
  exact ⟨v, by simpa using h2, .pv _ _ h1⟩
/-- 'v, ok := m[k]' -/
theorem AW.lookup2 {all : Array Oper} {o : Oper} {rr : List Oper} {d t kt et ob : Nat} {x i : Operand} {key z : PV} {es : List (PV × PV)} {r : Option PV}
    (hx : ev s x = some (.mp ob)) (hi : ev s i = some (.pv key)) (hes : look ob s.hp = some (.mp es)) (hm : mlook key es = some r) (hT : tk P t = .map kt et) (hf : keyFits (tk P kt) key = true) (hz : zeroElem P et = some z)
    (hk : AW P R Φ .normal (.ops all rr :: k) C (putTupS d [.pv (mval z r).1, .pv (.bool (mval z r).2)] s)) (hg : o.guard = none := by rfl) (hd : o.dst = some d := by rfl) (ho : o.op = .lookup t x i true := by rfl) : AW P R Φ .normal (.ops all (o :: rr) :: k) C s := fun B a w ha => by
  simp only [den]
  refine wpListIn_want (by simp [Region.wanted, hg]) (fun c hc => by rw [ho] at hc; cases hc) ?_
  obtain ⟨hdf, E, hE⟩ := ha
  obtain ⟨v, h1, h2⟩ := lookup_run hE ho hT hf hx hi hes hm hz
  rw [h2, Oper.uponIn_value, hd]
  obtain ⟨E', hE'⟩ := afterCall_sound hE (ρ := id) (rs := [.pv (mval z r).1, .pv (.bool (mval z r).2)]) (us := [v, .bool (mval z r).2]) d rfl rfl (fun i q y hq hy => by
    match i with
    | 0 =>
      simp at hq hy; subst hq; subst hy
      exact ⟨fun e xs he => (by cases he), fun _ _ => .inr (.pv _ _ h1), fun o ho => (by simp [SV.pts] at ho)⟩
    | 1 =>
      simp at hq hy; subst hq; subst hy
      exact ⟨fun e xs he => (by cases he), fun _ _ => .inr (.pv _ _ (.bool _)), fun o ho => (by simp [SV.pts] at ho)⟩
    | i + 2 => simp at hq)
  exact hk B _ w ⟨by rw [put_defers]; exact hdf, E', hE'⟩
end
end Go.Ck

set_option linter.unusedVariables false
/-! 'm[k] = v'; structs of two integers held against each other. -/
namespace Go.Ck
open Go.RowKit Go.MapKept
section
variable {P : Program} {O0 : Base} {F : Nat → Prop} {w0 w : World} {s : St} {E : Env} {tmps : Array Value}

theorem Rel.setMap (h : Rel P O0 w0 F s E tmps w) {o : Nat} {es es' : List (PV × PV)} {ms' : Array MapEntry} {ck : Nat} (hl : look o s.hp = some (.mp es)) (hs : ms'.size = es'.length)
    (hv : ∀ (i : Nat) (kv : PV × PV) (m : MapEntry), es'[i]? = some kv → ms'[i]? = some m → RO (fun b => E.om b ∨ F b) w kv.1 m.key ∧ RO (fun b => E.om b ∨ F b) w kv.2 m.val) :
    Rel P O0 w0 F ⟨s.n, s.sl, setObj o (.mp es') s.hp⟩ E tmps { w with heap := w.heap.setIfInBounds (E.obj o) (.map ms' ck) } := by
  obtain ⟨hom, ms, c0, hb, hsz, hro⟩ := h.obj o _ hl
  obtain ⟨hnew, hblk⟩ := heap_set (o' := .map ms' ck) hb
  let w' : World := { w with heap := w.heap.setIfInBounds (E.obj o) (.map ms' ck) }
  have hblk : ∀ b, b ≠ E.obj o → w'.heap[b]? = w.heap[b]? := hblk
  have hsz' : w'.heap.size = w.heap.size := by simp [w']
  have hA : ∀ b, b < w.heap.size → ¬ (E.om b ∨ F b) → ¬ (E.om b ∨ F b) ∧ w'.heap[b]? = w.heap[b]? := fun b hb' hn => ⟨hn, hblk b (by rintro rfl; exact hn (.inl hom))⟩
  have hhp : ∀ o' z, look o' (setObj o (.mp es') s.hp) = some z → (o' = o ∧ z = .mp es') ∨ (o' ≠ o ∧ look o' s.hp = some z) := by
    intro o' z hz
    rw [look_setObj] at hz
    split at hz
    · rename_i ho; subst ho; simp [hl] at hz; exact .inl ⟨rfl, hz.symm⟩
    · rename_i ho; exact .inr ⟨ho, hz⟩
  have hhp' : ∀ o' z, look o' s.hp = some z → ∃ z', look o' (setObj o (.mp es') s.hp) = some z' := by
    intro o' z hz
    rw [look_setObj]
    split
    · rename_i ho; subst ho; simp [hl]
    · exact ⟨z, hz⟩
  have hlk : ∀ o' z, look o' (setObj o (.mp es') s.hp) = some z → ∃ z', look o' s.hp = some z' := by
    intro o' z hz
    rcases hhp o' z hz with ⟨rfl, _⟩ | ⟨_, h2⟩
    · exact ⟨_, hl⟩
    · exact ⟨_, h2⟩
  have hat : ∀ p, (St.mk s.n s.sl (setObj o (.mp es') s.hp)).at p = s.at p := by
    intro p
    cases p with
    | slot d => rfl
    | part d i => rfl
    | cell o' i =>
      simp only [St.at]
      rw [look_setObj]
      by_cases ho : o' = o
      · subst ho; simp [hl]
      · rw [if_neg ho]
  have hPV : ∀ p u x, PVal P (fun b => E.om b ∨ F b) E w p u x → (∀ e' xs, u = .own e' xs → ∀ b, (E.hdr p).ownBlock = some b → b ≠ E.obj o) → PVal P (fun b => E.om b ∨ F b) E w' p u x := by
    intro p u x hp hne
    cases u <;> simp only [PVal] at hp ⊢
    case own e' xs =>
      obtain ⟨h2, h3, h4⟩ := hp
      exact ⟨h2, h3.kept hA (fun b hb' => hblk b (hne e' xs rfl b hb')), h4⟩
    case tup us => exact hp
    all_goals exact hp.grow hA
  refine { place := fun p u hp => ?_, obj := fun o' z hz => ?_, size := h.size, i1 := fun a b x x' hx hx' he => ?_, i2 := fun p q e xs e' ys b hp hq => h.i2 p q e xs e' ys b (by rw [← hat]; exact hp) (by rw [← hat]; exact hq), i3 := fun p e xs o' z b hp hz hb' => ?_, om_lt := fun b hb' => by have := h.om_lt b hb'; simpa using this, om0 := h.om0, na := fun p v q hp hq => ?_, np := fun p v o' hp ho => ?_, gr := ?_, flt := h.flt, ob := fun o' k hok => ?_ }
  · rw [hat] at hp
    obtain ⟨x, hx, hpv⟩ := h.place p u hp
    refine ⟨x, ?_, hPV p u x hpv (fun e' xs he b hb' => ?_)⟩
    · cases p with
      | slot d => exact hx
      | part d j => exact hx
      | cell o' j =>
        simp only [CV] at hx ⊢
        have : ∃ e cs, look o' s.hp = some (.cells e cs) := by
          simp only [St.at] at hp
          split at hp
          · rename_i e cs he; exact ⟨e, cs, he⟩
          · cases hp
        obtain ⟨e, cs, hz⟩ := this
        have hne' : E.obj o' ≠ E.obj o := fun he => by
          have := h.i1 o' o _ _ hz hl he
          subst this
          rw [hl] at hz; cases hz
        exact (World.cell?_of_block (w := w) (a := ⟨E.obj o', j, none⟩) (hblk _ hne')).trans hx
    · subst he
      exact fun hbo => h.i3 p e' xs o _ b hp hl hb' hbo.symm
  · rcases hhp o' z hz with ⟨rfl, rfl⟩ | ⟨hne, hz'⟩
    · exact ⟨hom, ms', ck, hnew, hs, fun i kv m hk hm => ⟨(hv i kv m hk hm).1.mono hA, (hv i kv m hk hm).2.mono hA⟩⟩
    · obtain ⟨h2, h3⟩ := h.obj o' z hz'
      refine ⟨h2, ?_⟩
      have hne' : E.obj o' ≠ E.obj o := fun he => hne (h.i1 o' o z _ hz' hl he)
      have hb' := hblk (E.obj o') hne'
      cases z with
      | cells e' cs' =>
        obtain ⟨us, h4, h5⟩ := h3
        exact ⟨us, hb'.trans h4, h5⟩
      | mp es2 =>
        obtain ⟨ms2, c, h4, h5, h6⟩ := h3
        exact ⟨ms2, c, hb'.trans h4, h5, fun j kv m hk hm => ⟨(h6 j kv m hk hm).1.mono hA, (h6 j kv m hk hm).2.mono hA⟩⟩
  · obtain ⟨z, hz⟩ := hlk a x hx
    obtain ⟨z', hz'⟩ := hlk b x' hx'
    exact h.i1 a b z z' hz hz' he
  · obtain ⟨z', hz'⟩ := hlk o' z hz
    exact h.i3 p e xs o' z' b (by rw [← hat]; exact hp) hz' hb'
  · obtain ⟨k1, ⟨e, xs, k2⟩, k3⟩ := h.na p v q (by rw [← hat]; exact hp) hq
    exact ⟨k1, ⟨e, xs, by rw [hat]; exact k2⟩, k3⟩
  · obtain ⟨z, hz⟩ := h.np p v o' (by rw [← hat]; exact hp) ho
    exact hhp' o' z hz
  · refine h.gr.trans (M1 := fun b => b = E.obj o) ⟨rfl, rfl, rfl, by simp, fun b _ hb' => hblk b hb'⟩ (fun b hb' => ?_)
    subst hb'
    exact h.om0 _ hom
  · obtain ⟨h1, y, hy⟩ := h.ob o' k hok
    exact ⟨h1, hhp' o' y hy⟩
end

theorem sameBits_of {A : Nat → Prop} {w : World} {k a : PV} {x y : Value} (h : keyEq k a = some true) (hx : RO A w k x) (hy : RO A w a y) : x = y ∧ Instr.sameBits 10000 y x = true := by
  cases k <;> cases a <;> simp [keyEq] at h
  · cases hx; cases hy
    obtain ⟨rfl, rfl⟩ := h
    exact ⟨rfl, by simp [Instr.sameBits]⟩
  · cases hx; cases hy
    subst h
    refine ⟨rfl, ?_⟩
    simp only [Instr.sameBits]
    exact (bytes_beq _ _).2 rfl

/-- Where a key is, and what the map is behind the store. -/
theorem findSet_of {P : Program} {A : Nat → Prop} {w : World} {t : Nat} {d : TypeDesc} {k v : PV} {x y : Value} {ck : Nat} (hu : P.underlying t = some d) (hf : keyFits (tk P t) k = true) (hx : RO A w k x) (hy : RO A w v y) :
    ∀ {es es' : List (PV × PV)} {ms : List MapEntry} (n : Nat), MRO A w es ms → mset k v es = some es' →
    (Instr.findNow d x ms n = some none ∧ MRO A w es' (ms ++ [{ key := x, val := y, born := ck }])) ∨
      ∃ i u m, Instr.findNow d x ms n = some (some (n + i, u)) ∧ ms[i]? = some m ∧ m.key = x ∧ Instr.sameBits 10000 m.key x = true ∧ MRO A w es' (ms.set i { m with key := x, val := y })
  | [], es', ms, n, hm, h => by
    have : ms = [] := List.eq_nil_of_length_eq_zero hm.1
    subst this
    simp [mset] at h
    subst h
    exact .inl ⟨rfl, MRO.mk hx hy hm⟩
  | (a, u) :: es, es', ms, n, hm, h => by
    obtain ⟨m, rest, rfl, h1, h2, h3⟩ := hm.cons
    simp only [mset] at h
    split at h
    · rename_i he
      cases h
      obtain ⟨e1, e2⟩ := sameBits_of he hx h1
      exact .inr ⟨0, m.val, m, by simp [Instr.findNow, sameNow_of hu hf he hx h1], rfl, e1.symm, e2, MRO.mk hx hy h3⟩
    · rename_i he
      have hsn := sameNow_of hu hf he hx h1
      unfold msetO at h
      split at h
      · rename_i r hr
        cases h
        rcases findSet_of hu hf hx hy (n + 1) h3 hr with ⟨k1, k2⟩ | ⟨i, u', m', k1, k2, k3, k4, k5⟩
        · exact .inl ⟨by simp [Instr.findNow, hsn, k1], MRO.mk h1 h2 k2⟩
        · refine .inr ⟨i + 1, u', m', ?_, by simpa using k2, k3, k4, by simpa using MRO.mk h1 h2 k5⟩
          simp only [Instr.findNow, hsn, k1]
          rw [show n + 1 + i = n + (i + 1) by omega]
      · cases h
    · cases h

section
variable {P : Program} {R : Option Nat} {Φ : Exit → Cx → St → Prop} {k : List It} {C : Cx} {s : St}
/-- 'm[k] = v' -/
theorem AW.mapSet {all : Array Oper} {o : Oper} {rr : List Oper} {t kt et ob : Nat} {x i y : Operand} {key v : PV} {es es' : List (PV × PV)}
    (hx : ev s x = some (.mp ob)) (hi : ev s i = some (.pv key)) (hy : ev s y = some (.pv v)) (hes : look ob s.hp = some (.mp es)) (hm : mset key v es = some es') (hT : tk P t = .map kt et) (hf : keyFits (tk P kt) key = true)
    (hk : AW P R Φ .normal (.ops all rr :: k) C ⟨s.n, s.sl, Ck.setObj ob (.mp es') s.hp⟩) (hg : o.guard = none := by rfl) (hd : o.dst = none := by rfl) (ho : o.op = .mapUpdate t x i y := by rfl) : AW P R Φ .normal (.ops all (o :: rr) :: k) C s := fun B a w ha => by
  simp only [den]
  refine wpListIn_want (by simp [Region.wanted, hg]) (fun c hc => by rw [ho] at hc; cases hc) ?_
  obtain ⟨hdf, E, hE⟩ := ha
  have hu := tk_map hT
  obtain ⟨hom, ms, clock, hb, hsz, hro⟩ := hE.obj ob _ hes
  have e1 : a.eval x = .map (some (E.obj ob)) := by
    have := ev_rs hE hx
    generalize a.eval x = y at this
    cases this; rfl
  have e2 : RO (fun b => E.om b ∨ B.F b) w key (a.eval i) := by
    have := ev_rs hE hi
    cases this with | pv _ _ h => exact h
  have e3 : RO (fun b => E.om b ∨ B.F b) w v (a.eval y) := by
    have := ev_rs hE hy
    cases this with | pv _ _ h => exact h
  have hkd : ∃ d, P.underlying kt = some d := by
    cases hk : tk P kt <;> rw [hk] at hf <;> simp [keyFits] at hf
    · exact ⟨_, tk_int hk⟩
    · exact ⟨_, tk_str hk⟩
  obtain ⟨d, hkd⟩ := hkd
  have hmro : MRO (fun b => E.om b ∨ B.F b) w es ms.toList := ⟨by simpa using hsz, fun i kv m hk hm => hro i kv m hk (by simpa using hm)⟩
  have hck := run_checkKey (w := w) hkd (keyFits_isKey hkd hf e2) false 9999
  have fin : ∀ (ms' : Array MapEntry) (ck : Nat), MRO (fun b => E.om b ∨ B.F b) w es' ms'.toList → (execOp a.eval o).run P w = .ok .skip { w with heap := w.heap.setIfInBounds (E.obj ob) (.map ms' ck) } → o.uponIn (fence R) 0 P a (wpListIn (fence R) 0 P all (den P R Φ k) rr) (den P R Φ k) ((execOp a.eval o).run P w) := by
    intro ms' ck h1 h2
    rw [h2, Oper.uponIn_skip, hd]
    exact hk B a _ ⟨hdf, E, hE.setMap hes (by simpa using h1.1) (fun i kv m hk hm => h1.2 i kv m hk (by simpa using hm))⟩
  rcases findSet_of (ck := clock) hkd hf e2 e3 0 hmro hm with ⟨h1, h2⟩ | ⟨j, u, m, h1, h2, h3, h4, h5⟩
  · refine fin (ms.push { key := a.eval i, val := a.eval y, born := clock }) (clock + 1) (by simpa using h2) ?_
    simp [execOp, ho, e1, Instr.mapUpdate, run_underlying hu, Result.andThen, run_getObj_map hb, hck, run_findKey hkd h1, run_setObj_map _ hb]
  · rw [Nat.zero_add] at h1
    have h2' : ms[j]? = some m := by simpa using h2
    have hmod : ms.modify j (fun e => { e with key := a.eval i, val := a.eval y }) = ms.setIfInBounds j { m with key := a.eval i, val := a.eval y } := by
      apply Array.ext_getElem?
      intro q
      rw [Array.getElem?_modify, Array.getElem?_setIfInBounds]
      by_cases hq : j = q
      · subst hq
        have hlt := (Array.getElem?_eq_some_iff.1 h2').1
        rw [if_pos rfl, if_pos rfl, if_pos hlt, h2']; rfl
      · simp [hq]
    refine fin (ms.setIfInBounds j { m with key := a.eval i, val := a.eval y }) clock (by simpa using h5) ?_
    simp [execOp, ho, e1, Instr.mapUpdate, run_underlying hu, Result.andThen, run_getObj_map hb, hck, run_findKey hkd h1, run_setObj_map _ hb, Instr.keyThatStays, h2', h4, hmod]
end
end Go.Ck

set_option linter.unusedVariables false
/-! Regions that draw their order and hold more than operations that leave the world alone: what needs no world first, then every order. -/
namespace Go.Ck
open Go.RowKit

/-- Whatever it comes to, it comes to in whatever world, and leaves the world alone. -/
def WI (P : Program) {α : Type} (m : Sem α) : Prop := ∀ w x w1, m.run P w = .ok x w1 → w1 = w ∧ ∀ w', m.run P w' = .ok x w'
section
variable {P : Program}
theorem WI.pure {α : Type} (x : α) : WI P (Pure.pure x : Sem α) := fun w y w1 h => by
  simp only [Sem.run_pure, Result.ok.injEq] at h
  obtain ⟨rfl, rfl⟩ := h
  exact ⟨rfl, fun w' => Sem.run_pure ..⟩
theorem WI.bind {α β : Type} {m : Sem α} {f : α → Sem β} (h : WI P m) (k : ∀ x, (∃ w, m.run P w = .ok x w) → WI P (f x)) : WI P (m >>= f) := fun w y w1 hr => by
  rw [Sem.run_bind] at hr
  cases hm : m.run P w with
  | ok x w2 =>
    rw [hm] at hr
    obtain ⟨rfl, h2⟩ := h w x w2 hm
    simp only [Result.andThen_ok] at hr
    obtain ⟨rfl, h4⟩ := k x ⟨_, hm⟩ _ y w1 hr
    exact ⟨rfl, fun w' => by rw [Sem.run_bind, h2 w', Result.andThen_ok, h4 w']⟩
  | halt x w2 => rw [hm] at hr; simp [Result.andThen] at hr
theorem WI.never {α : Type} {m : Sem α} (h : ∀ w x w1, m.run P w ≠ .ok x w1) : WI P m := fun w x w1 hr => absurd hr (h w x w1)
theorem WI.stuck {α : Type} (s : String) : WI P (Go.stuck s : Sem α) := WI.never (fun w x w1 h => by simp [Go.stuck] at h)
theorem WI.unsupported {α : Type} (s : Unsupported) : WI P (Go.unsupported s : Sem α) := WI.never (fun w x w1 h => by simp [Go.unsupported] at h)
theorem andThen_ne_ok {α β : Type} {r : Result α} {f : α → World → Result β} (h : ∀ x w y w1, f x w ≠ .ok y w1) (y : β) (w1 : World) : r.andThen f ≠ .ok y w1 := by
  cases r with
  | ok x w => exact h x w y w1
  | halt c w => simp [Result.andThen]
theorem runtimePanic_ne {α : Type} (s : RuntimeError) (w : World) (x : α) (w1 : World) : (Go.runtimePanic s : Sem α).run P w ≠ .ok x w1 := by
  unfold Go.runtimePanic
  cases s <;> simp [goPanic, program]
  all_goals (refine andThen_ne_ok ?_ _ _; intro x w y w1; first | (intro h; cases h; done) | (refine andThen_ne_ok ?_ _ _; intro x w y w1 h; cases h))
theorem WI.runtimePanic {α : Type} (s : RuntimeError) : WI P (Go.runtimePanic s : Sem α) := WI.never (runtimePanic_ne s)
theorem WI.boundsPanic {α : Type} (k : IntKind) (x y : Int) (c : BoundsCode) : WI P (Go.boundsPanic k x y c : Sem α) := WI.never (fun w z w1 => by
  unfold Go.boundsPanic
  dsimp only
  split
  · rw [Sem.run_bind]
    exact andThen_ne_ok (fun x w y w1 => runtimePanic_ne _ _ _ _) _ _
  · rw [Sem.run_bind]
    exact andThen_ne_ok (fun x w y w1 => runtimePanic_ne _ _ _ _) _ _)
theorem WI.underlying (t : TypeId) : WI P (Go.underlying t) := fun w x w1 h => by
  cases hu : P.underlying t with
  | some d => rw [run_underlying hu] at h; cases h; exact ⟨rfl, fun w' => by rw [run_underlying hu]⟩
  | none => simp [Go.underlying, program, Sem.run, hu, Go.stuck] at h
theorem WI.sizeOf (t : TypeId) : WI P (Go.sizeOf t) := fun w x w1 h => by
  cases hu : P.info? t with
  | some d => rw [run_sizeOf w hu] at h; cases h; exact ⟨rfl, fun w' => run_sizeOf w' hu⟩
  | none => simp [Go.sizeOf, typeInfo, program, Sem.run, hu, Go.stuck] at h
theorem WI.asIntOf (v : Value) : WI P (Go.asIntOf v) := by
  unfold Go.asIntOf
  split <;> first | exact .pure _ | exact .unsupported _ | exact .stuck _
theorem WI.sureAddr (v : Value) : WI P (Instr.sureAddr v) := by
  unfold Instr.sureAddr
  split <;> first | exact .pure _ | exact .stuck _
theorem WI.asAddr (v : Value) : WI P (Go.asAddr v) := by
  unfold Go.asAddr
  split <;> first | exact .pure _ | exact .stuck _ | exact .runtimePanic _
theorem WI.ite {α : Type} {c : Prop} [Decidable c] {x y : Sem α} (h : WI P x) (k : WI P y) : WI P (if c then x else y) := by split <;> assumption
theorem WI.sliceBound (x : Value) (y : Nat) (c : BoundsCode) : WI P (Instr.sliceBound x y c) := by
  unfold Instr.sliceBound
  refine .bind (.asIntOf _) (fun p _ => ?_)
  exact .ite (.pure _) (.boundsPanic _ _ _ _)
theorem WI.sliceBounds (b : Bool) (n c : Nat) (l h m : Option Value) : WI P (Instr.sliceBounds b n c l h m) := by
  unfold Instr.sliceBounds
  dsimp only
  cases l <;> cases h <;> cases m <;> dsimp only
  all_goals repeat' (first | exact WI.pure _ | exact WI.stuck _ | exact WI.sliceBound _ _ _ | refine WI.bind ?_ (fun _ _ => ?_))
theorem WI.slice (t : TypeId) (x : Value) (l h m : Option Value) : WI P (Instr.slice t x l h m) := by
  unfold Instr.slice
  dsimp only
  repeat' (first | exact WI.pure _ | exact WI.stuck _ | exact WI.sliceBounds _ _ _ _ _ _ | exact WI.sizeOf _ | exact WI.asAddr _ | exact WI.underlying _ | refine WI.bind ?_ (fun _ _ => ?_) | split)
theorem WI.sliceAt (t : TypeId) (x : Value) (l h m : Option Value) : WI P (Instr.sliceAt t x l h m) := by
  unfold Instr.sliceAt
  dsimp only
  repeat' (first | exact WI.pure _ | exact WI.stuck _ | exact WI.sliceBounds _ _ _ _ _ _ | exact WI.sizeOf _ | exact WI.sureAddr _ | exact WI.underlying _ | exact WI.slice _ _ _ _ _ | refine WI.bind ?_ (fun _ _ => ?_) | split)
theorem WI.indexAt (t : TypeId) (x i : Value) : WI P (Instr.indexAt t x i) := by
  unfold Instr.indexAt
  dsimp only
  repeat' (first | exact WI.pure _ | exact WI.stuck _ | exact WI.unsupported _ | exact WI.asIntOf _ | exact WI.sizeOf _ | exact WI.sureAddr _ | exact WI.underlying _ | exact WI.boundsPanic _ _ _ _ | refine WI.bind ?_ (fun _ _ => ?_) | split)
theorem WI.extract (x : Value) (i : Nat) : WI P (Instr.extract x i) := by
  unfold Instr.extract
  split
  · split <;> first | exact .pure _ | exact .stuck _
  · exact .stuck _
theorem WI.binInt (op : BinOp) (t : TypeId) (k k' : IntKind) (x y : Int) : WI P (binOp op t (.int k x) (.int k' y)) := by
  unfold binOp
  cases op <;> dsimp only [Op.shift, Op.intArith, Op.intDiv, Op.intBits, Op.intCmp]
  all_goals repeat' (first | exact WI.pure _ | exact WI.stuck _ | exact WI.runtimePanic _ | split)
theorem WI.eqGuardInt (op : BinOp) (t : TypeId) (x y : Operand) (k k' : IntKind) (a b : Int) : WI P (eqGuard op t x y (.int k a) (.int k' b)) := by
  unfold eqGuard
  cases op <;> exact .pure _
theorem WI.unInt (op : UnOp) (k : IntKind) (x : Int) : WI P (Op.unary op (.int k x)) := by
  unfold Op.unary
  cases op <;> first | exact .pure _ | exact .stuck _
theorem WI.unBool (op : UnOp) (x : Bool) : WI P (Op.unary op (.bool x)) := by
  unfold Op.unary
  cases op <;> first | exact .pure _ | exact .stuck _
theorem WI.convInt {t u : TypeId} {k j i : IntKind} {n : Int} (ht : P.underlying t = some (.int k)) (hu : P.underlying u = some (.int j)) : WI P (convert t u (.int i n)) := by
  refine fun w x w1 h => ?_
  simp [convert, run_underlying ht, run_underlying hu, Result.andThen, Conv.intToInt] at h ⊢
  obtain ⟨rfl, rfl⟩ := h
  exact ⟨rfl, rfl⟩
theorem WI.lenSlice {t e ty : TypeId} {a : Option Addr} {n c : Nat} (ht : P.underlying t = some (.slice e)) : WI P (Builtin.len_ #[t] ty #[.slice a n c]) := by
  refine fun w x w1 h => ?_
  simp [Builtin.len_, run_underlying ht, Result.andThen] at h ⊢
  obtain ⟨rfl, rfl⟩ := h
  exact ⟨rfl, rfl⟩
end
end Go.Ck

set_option linter.unusedVariables false
namespace Go.Ck
open Go.RowKit

def isIntO : Option SV → Bool
  | some (.pv (.int _ _)) => true
  | _ => false
def isBoolO : Option SV → Bool
  | some (.pv (.bool _)) => true
  | _ => false
def TK.isInt : TK → Bool
  | .int _ => true
  | _ => false
def TK.isSl : TK → Bool
  | .sl _ _ _ _ => true
  | _ => false
/-- Needs it no world? -/
def wiOp (P : Program) (s : St) : Op → Bool
  | .move _ => true
  | .assign _ => true
  | .binOp _ _ x y _ => isIntO (ev s x) && isIntO (ev s y)
  | .unOp _ _ x => isIntO (ev s x) || isBoolO (ev s x)
  | .convert t u x => (tk P t).isInt && (tk P u).isInt && isIntO (ev s x)
  | .fieldAddr _ _ _ => true
  | .indexAddr _ _ _ => true
  | .slice _ _ _ _ _ => true
  | .extract _ _ => true
  | .call c => (match c.callee with
    | .builtin .len => (match c.argTypes.toList with | [t] => (tk P t).isSl | _ => false)
    | _ => false)
  | _ => false

section
variable {P : Program} {O0 : Base} {F : Nat → Prop} {w0 w : World} {s : St} {E : Env} {a : Act}

theorem isIntO_spec (h : Rel P O0 w0 F s E a.tmps w) {x : Operand} (hx : isIntO (ev s x) = true) : ∃ k n, a.eval x = .int k n := by
  unfold isIntO at hx
  split at hx
  · rename_i k n he
    have := ev_rs h he
    generalize a.eval x = z at this
    cases this with | pv _ _ h => cases h; exact ⟨k, n, rfl⟩
  · cases hx
theorem isBoolO_spec (h : Rel P O0 w0 F s E a.tmps w) {x : Operand} (hx : isBoolO (ev s x) = true) : ∃ n, a.eval x = .bool n := by
  unfold isBoolO at hx
  split at hx
  · rename_i n he
    have := ev_rs h he
    generalize a.eval x = z at this
    cases this with | pv _ _ h => cases h; exact ⟨n, rfl⟩
  · cases hx

theorem wi_field (h : Rel P O0 w0 F s E a.tmps w) {t f : Nat} {x : Operand} {v r : SV} (hx : ev s x = some v) (hv : afieldAddr P t v f = some r) : WI P (Instr.fieldAt t (a.eval x) f) := by
  have hr := ev_rs h hx
  generalize a.eval x = z at hr
  unfold afieldAddr at hv
  split at hv
  · rename_i fs hT
    obtain ⟨fl, hu, rfl⟩ := tk_st hT
    split at hv
    · rename_i fo fz fa hf
      rw [List.getElem?_map] at hf
      cases hfl : fl.toList[f]? with
      | none => rw [hfl] at hf; simp at hf
      | some fd =>
        rw [hfl] at hf
        simp only [Option.map_some, Option.some.injEq] at hf
        have hfl' : fl[f]? = some fd := by simpa using hfl
        split at hv
        · simp at hv
        · rename_i hz
          obtain ⟨rfl, hts⟩ := fieldRow_parts hf hz
          obtain ⟨d, i, hud, hi, his, _⟩ := tsh_parts (w := w) hts
          have hgo : ∀ b o w', (Instr.fieldAt t (.pointer (some ⟨b, o, none⟩)) f).run P w' = .ok (.pointer (some ⟨b, o + fd.offset, none⟩)) w' := by
            intro b o w'
            have : P.cellsOf fd.type ≠ 0 := by simp [Program.cellsOf, hi, his, hz]
            simp [Instr.fieldAt, run_underlying hu, hfl', Instr.sureAddr, fieldPlace, run_sizeOf w' hi, this, add_mk]
          have fin : ∀ b o, WI P (Instr.fieldAt t (.pointer (some ⟨b, o, none⟩)) f) := fun b o w1 y w2 hr => by
            rw [hgo] at hr; cases hr; exact ⟨rfl, fun w' => hgo b o w'⟩
          cases hr <;> simp at hv <;> exact fin _ _
    · simp at hv
  · simp at hv

theorem wi_spec (h : Rel P O0 w0 F s E a.tmps w) {o : Oper} {d : Nat} {s' : St} (hd : o.dst = some d) (hw : wiOp P s o.op = true) (hs : astep P o s = some s') : WI P (execOp a.eval o) ∧ ∀ w, o.about P w a.eval = none := by
  have hab : (∀ c, o.op ≠ .call c) → ∀ w, o.about P w a.eval = none := fun hn w => by
    unfold Oper.about
    cases ho : o.op <;> first | rfl | exact absurd ho (hn _)
  have hV : ∀ {m : Sem Value}, WI P m → WI P (do pure (Next.value (← m)) : Sem Next) := fun hm => .bind hm (fun _ _ => .pure _)
  unfold astep at hs
  rw [hd] at hs
  simp only at hs
  cases ho : o.op <;> rw [ho] at hw hs <;> simp only [wiOp, Bool.false_eq_true] at hw
  case move x => exact ⟨by simp only [execOp, ho]; exact .pure _, hab (by simp [ho])⟩
  case assign x => exact ⟨by simp only [execOp, ho]; exact .pure _, hab (by simp [ho])⟩
  case binOp op t x y u =>
    simp only [Bool.and_eq_true] at hw
    obtain ⟨k1, n1, e1⟩ := isIntO_spec h hw.1
    obtain ⟨k2, n2, e2⟩ := isIntO_spec h hw.2
    refine ⟨?_, hab (by simp [ho])⟩
    simp only [execOp, ho, e1, e2]
    exact hV (.bind (.eqGuardInt _ _ _ _ _ _ _ _) (fun _ _ => .binInt _ _ _ _ _ _))
  case unOp op t x =>
    simp only [Bool.or_eq_true] at hw
    refine ⟨?_, hab (by simp [ho])⟩
    simp only [execOp, ho]
    rcases hw with hw | hw
    · obtain ⟨k1, n1, e1⟩ := isIntO_spec h hw
      rw [e1]; exact hV (.unInt _ _ _)
    · obtain ⟨n1, e1⟩ := isBoolO_spec h hw
      rw [e1]; exact hV (.unBool _ _)
  case convert t u x =>
    simp only [Bool.and_eq_true] at hw
    obtain ⟨k1, n1, e1⟩ := isIntO_spec h hw.2
    refine ⟨?_, hab (by simp [ho])⟩
    simp only [execOp, ho, e1]
    have ht : ∃ k, tk P t = .int k := by
      have := hw.1.1
      cases hk : tk P t <;> rw [hk] at this <;> simp [TK.isInt] at this
      exact ⟨_, rfl⟩
    have hu : ∃ k, tk P u = .int k := by
      have := hw.1.2
      cases hk : tk P u <;> rw [hk] at this <;> simp [TK.isInt] at this
      exact ⟨_, rfl⟩
    obtain ⟨k, ht⟩ := ht
    obtain ⟨j, hu⟩ := hu
    exact hV (.convInt (tk_int ht) (tk_int hu))
  case fieldAddr t x f =>
    refine ⟨?_, hab (by simp [ho])⟩
    simp only [reads, if_true, putO, aval] at hs
    simp only [execOp, ho]
    cases hx : ev s x with
    | none => rw [hx] at hs; simp at hs
    | some v =>
      rw [hx] at hs
      simp only at hs
      cases hr : afieldAddr P t v f with
      | none => rw [hr] at hs; simp at hs
      | some r => exact hV (wi_field h hx hr)
  case indexAddr t x i => exact ⟨by simp only [execOp, ho]; exact hV (.indexAt _ _ _), hab (by simp [ho])⟩
  case slice t x l hh m => exact ⟨by simp only [execOp, ho]; exact hV (.sliceAt _ _ _ _ _), hab (by simp [ho])⟩
  case extract x i => exact ⟨by simp only [execOp, ho]; exact hV (.extract _ _), hab (by simp [ho])⟩
  case call c =>
    split at hw
    · rename_i hc
      split at hw
      · rename_i t ht
        have hT : ∃ e ez eb ea, tk P t = .sl e ez eb ea := by
          cases hk : tk P t <;> rw [hk] at hw <;> simp [TK.isSl] at hw
          exact ⟨_, _, _, _, rfl⟩
        obtain ⟨e, ez, eb, ea, hT⟩ := hT
        obtain ⟨hu, _, _⟩ := tk_sl hT
        have hrd : reads (.call c) = true := by simp [reads, hc]
        rw [hrd] at hs
        simp only [if_true] at hs
        cases hv : aval P s o.type (.call c) with
        | none => rw [hv] at hs; simp [putO] at hs
        | some v =>
          obtain ⟨x, h1, h2⟩ := aval_put (o := o) (d := d) h (by rw [ho]; exact hv)
          have hrun : ∀ w', (execOp a.eval o).run P w' = (do pure (Next.value (← Builtin.len_ c.argTypes o.type (c.args.map a.eval))) : Sem Next).run P w' := by
            intro w'
            simp [execOp, ho, resolve, hc, invoke, builtin]
          have hat : c.argTypes = #[t] := by apply Array.ext'; simpa using ht
          refine ⟨fun w1 y w2 hr => ?_, fun w => by unfold Oper.about; rw [ho]; simp [resolve, hc, Target.leads]⟩
          rw [hrun] at hr
          have hwi : WI P (Builtin.len_ c.argTypes o.type (c.args.map a.eval)) := by
            rw [hat]
            cases hargs : c.args.toList with
            | nil =>
              have : c.args = #[] := by apply Array.ext'; simpa using hargs
              simp [aval, hc, ht, evs, this] at hv
            | cons x0 r =>
              cases r with
              | cons y r => 
                simp only [aval, hc, ht, hargs] at hv
                have hl : ∀ l vs, evs s l = some vs → vs.length = l.length := by
                  intro l
                  induction l with
                  | nil => intro vs h; simp [evs] at h; subst h; rfl
                  | cons x l ih =>
                    intro vs h
                    simp only [evs] at h
                    split at h
                    · rename_i u us _ h2
                      cases h
                      simp [ih us h2]
                    · cases h
                split at hv
                · rename_i u t1 he ht1
                  have := hl _ _ he
                  simp at this
                · cases hv
              | nil =>
                have ha : c.args = #[x0] := by apply Array.ext'; simpa using hargs
                simp only [aval, hc, ht, hargs, evs] at hv
                cases hx : ev s x0 with
                | none => rw [hx] at hv; simp at hv
                | some v0 =>
                  rw [hx] at hv
                  simp only at hv
                  have hr0 := ev_rs h hx
                  rw [ha]
                  simp only [List.map_toArray, List.map_cons, List.map_nil]
                  generalize a.eval x0 = z at hr0
                  rw [hT] at hv
                  have : ∃ b n cc, z = .slice b n cc := by
                    cases hr0 <;> simp [lenT, alen, cont, intO] at hv
                    case pv p hp =>
                      cases hp <;> simp [alen, cont] at hv
                      exact ⟨_, _, _, rfl⟩
                    case nils => exact ⟨_, _, _, rfl⟩
                    case al p =>
                      cases hpp : s.at p with
                      | none => simp [hpp] at hv
                      | some u =>
                        cases u <;> simp [hpp] at hv
                        obtain ⟨cs, h5, _⟩ := h.own hpp
                        rcases h5.2 with ⟨e1, _⟩ | ⟨g, cap, cur, e1, _⟩
                        · exact ⟨_, _, _, e1⟩
                        · exact ⟨_, _, _, e1⟩
                    case vw p e' off n hvw =>
                      obtain ⟨_, b, cap, rfl, _⟩ := hvw
                      exact ⟨_, _, _, rfl⟩
                  obtain ⟨b, n, cc, rfl⟩ := this
                  exact .lenSlice hu
          obtain ⟨q1, q2⟩ := hV hwi w1 y w2 hr
          exact ⟨q1, fun w' => by rw [hrun]; exact q2 w'⟩
      · cases hw
    · cases hw
end
end Go.Ck

set_option linter.unusedVariables false
/-! Every order of a region. -/
namespace Go.Ck
open Go.RowKit

def noEnter : Op → Bool
  | .call c => (match c.callee with | .builtin _ => true | _ => false)
  | _ => true
def takeOne (P : Program) (all : Array Oper) (i : Nat) (s : St) : Option St := match all[i]? with
  | some o => (match o.dst with
    | some d => (match o.guard with
      | none => if wiOp P s o.op = true then astep P o s else none
      | some (j, want) => (match aguard all s j want with
        | some b => if b = want then (if wiOp P s o.op = true then astep P o s else none) else if noEnter o.op = true then some (put d (.tup []) s) else none
        | none => none))
    | none => none)
  | none => none
def takes (P : Program) (all : Array Oper) : List Nat → St → Option St
  | [], s => some s
  | i :: r, s => (match takeOne P all i s with
    | some s' => takes P all r s'
    | none => none)
def takeChk (all : Array Oper) : List Nat → Array Bool → Option (Array Bool)
  | [], l => some l
  | i :: r, l => if (Region.ready .any all l).contains i && Region.free .any all l i then takeChk all r (l.setIfInBounds i true) else none
def seqChk (all : Array Oper) : List Nat → Array Bool → Option (Array Bool)
  | [], l => some l
  | i :: r, l => if Region.ready .any all l = [i] then seqChk all r (l.setIfInBounds i true) else none
def pickOps (all : Array Oper) : List Nat → List Oper
  | [] => []
  | i :: r => (match all[i]? with
    | some o => o :: pickOps all r
    | none => pickOps all r)

section
variable {P : Program} {R : Option Nat} {Φ : Exit → Cx → St → Prop} {k : List It} {C : Cx} {s : St} {all : Array Oper}

theorem den_panic (hΦ : ∀ c C s, ¬ Φ (.panic c) C s) : ∀ (k : List It) (c : List PanicEntry) (a : Act) (w : World), ¬ den P R Φ k (.panic c) a w
  | [], c, a, w, h => by obtain ⟨C, s, B, h1, _⟩ := h; exact hΦ c C s h1
  | i :: k, c, a, w, h => by cases i <;> exact den_panic hΦ k c a w h

theorem AW.any0 {id : Nat} (hm : P.follows .mixedOrders = true) (h : AW P R Φ .normal (.any all all.size (Array.replicate all.size false) :: k) C s) : AW P R Φ .normal (.code (.region id all true) :: k) C s := fun B a w ha =>
  wpIn_region_any hm (h B a _ ha.drew)

theorem AW.anyDone {fuel : Nat} {listed : Array Bool} (hr : Region.ready .any all listed = []) (h : AW P R Φ .normal k C s) : AW P R Φ .normal (.any all fuel listed :: k) C s := fun B a w ha =>
  wpAnyIn_done hr (h B a w ha) fuel

theorem take_sound {i fuel : Nat} {listed : Array Bool} {s' : St} (hsel : Region.noSelect all = true) (hr : (Region.ready .any all listed).contains i = true) (hf : Region.free .any all listed i = true) (hs : takeOne P all i s = some s') (hΦ : ∀ c C s, ¬ Φ (.panic c) C s)
    (h : AW P none Φ .normal (.any all fuel (listed.setIfInBounds i true) :: k) C s') : AW P none Φ .normal (.any all (fuel + 1) listed :: k) C s := fun B a w ha => by
  obtain ⟨hd0, E, hE⟩ := ha
  unfold takeOne at hs
  split at hs
  · rename_i o ho
    split at hs
    · rename_i d hd
      have hw : (∀ j want, o.guard = some (j, want) → aguard all s j want = some want) → wiOp P s o.op = true → astep P o s = some s' → den P none Φ (.any all (fuel + 1) listed :: k) .normal a w := by
        intro hg h1 h2
        obtain ⟨hwi, hab⟩ := wi_spec hE hd h1 h2
        obtain ⟨r', x, w', E', k1, k2, k3⟩ := astep_sound hE h2
        obtain ⟨rfl, k4⟩ := hwi w r' w' k1
        have hwant : Region.wanted o (yielded all a.tmps) = true := by
          cases hgd : o.guard with
          | none => simp [Region.wanted, hgd]
          | some g =>
            obtain ⟨j, want⟩ := g
            simp [Region.wanted, hgd, aguard_sound hE (hg j want hgd)]
        rcases k2 with rfl | ⟨rfl, rfl⟩
        · exact wpAnyIn_take (F := fence none) rfl ho hsel hf hr (fun c a w hq => absurd hq (den_panic hΦ k c _ w)) ⟨.inl ⟨hwant, k4⟩, hab⟩ (h B _ _ ⟨by rw [put_defers]; exact hd0, E', k3⟩)
        · -- an operation without a value has no slot
          exfalso
          unfold astep at h2
          rw [hd] at h2
          simp only at h2
          split at h2
          · unfold putO at h2
            split at h2
            · rename_i v hv
              obtain ⟨y, q1, _⟩ := aval_put (o := o) (d := d) hE hv
              rw [q1] at k1; cases k1
            · cases h2
          · unfold orElse at h2
            split at h2
            · rename_i s2 hv
              obtain ⟨y, w2, E2, q1, _⟩ := aeff_sound (o := o) hE hv
              rw [q1] at k1; cases k1
            · split at h2
              · rename_i v hv
                obtain ⟨y, q1, _⟩ := aval_put (o := o) (d := d) hE hv
                rw [q1] at k1; cases k1
              · cases h2
      split at hs
      · rename_i hg
        split at hs
        · rename_i h1
          exact hw (fun j want hgd => by rw [hg] at hgd; cases hgd) h1 hs
        · cases hs
      · rename_i j want hg
        split at hs
        · rename_i b hb
          split at hs
          · rename_i hbw
            subst hbw
            split at hs
            · rename_i h1
              exact hw (fun j' want' hgd => by rw [hg] at hgd; cases hgd; exact hb) h1 hs
            · cases hs
          · rename_i hbw
            split at hs
            case isFalse => cases hs
            rename_i hne
            cases hs
            have hnw : Region.wanted o (yielded all a.tmps) = false := by simp [Region.wanted, hg, aguard_sound hE hb, hbw]
            have hy : Yields P all o undef a := .inr ⟨hnw, rfl⟩
            refine wpAnyIn_first (F := fence none) (v := undef) (oi := o) rfl ho (Region.noSelect_spec hsel) (fun c a w hq => absurd hq (den_panic hΦ k c _ w)) fuel listed a w (Region.free_spec ho hf) (by simpa using hr) ⟨hy, fun w => ?_⟩ ?_
            · unfold Oper.about
              split
              · rename_i c hc
                rw [hc] at hne
                simp only [noEnter] at hne
                split at hne
                · rename_i bb hbb
                  simp [resolve, hbb, Target.leads]
                · cases hne
              · rfl
            · have := h B _ w (AS.unwanted (d := d) ⟨hd0, E, hE⟩)
              rw [hd]; exact this
        · cases hs
    · cases hs
  · cases hs

/-- What needs no world is done first. -/
theorem AW.takes (pl : List Nat) {fuel : Nat} {listed listed' : Array Bool} {s' : St} (h : AW P none Φ .normal (.any all fuel listed' :: k) C s') (hs : Ck.takes P all pl s = some s') (hΦ : ∀ c C s, ¬ Φ (.panic c) C s)
    (hc : takeChk all pl listed = some listed') (hsel : Region.noSelect all = true) : AW P none Φ .normal (.any all (fuel + pl.length) listed :: k) C s := by
  induction pl generalizing listed s with
  | nil =>
    simp only [Ck.takes] at hs
    simp only [takeChk] at hc
    cases hs; cases hc
    exact h
  | cons i r ih =>
    simp only [Ck.takes] at hs
    simp only [takeChk] at hc
    split at hs
    · rename_i s1 h1
      split at hc
      · rename_i hch
        simp only [Bool.and_eq_true] at hch
        rw [List.length_cons, ← Nat.add_assoc]
        exact take_sound hsel hch.1 hch.2 h1 hΦ (ih hs hc)
      · cases hc
    · cases hs

theorem wpIn_congrQ {o : Oper} {a : Act} {w : World} {K K' : Act → World → Prop} {Q Q' : Exit → Act → World → Prop} (hQ : ∀ e a w, e ≠ .normal → Q e a w → Q' e a w) (hK : ∀ a w, K a w → K' a w) (h : o.wpIn (fence R) 0 P a w K Q) : o.wpIn (fence R) 0 P a w K' Q' := by
  refine ⟨h.1, ?_⟩
  have hh := h.2
  generalize (o.semAt (fence R).round a.eval).run P w = r at *
  have hend : ∀ (e : Ending) (w'' : World), (match e with
      | .returned v => K (a.put o.dst v) w''
      | .panicked chain => Q (.panic chain) a w''
      | .outgrown => LetsOut Q : Prop) → (match e with
      | .returned v => K' (a.put o.dst v) w''
      | .panicked chain => Q' (.panic chain) a w''
      | .outgrown => LetsOut Q' : Prop) := by
    intro e w'' he
    cases e with
    | returned v => exact hK _ _ he
    | panicked c => exact hQ _ _ _ (by simp) he
    | outgrown =>
      obtain ⟨a0, w0, hq⟩ := he
      exact ⟨a0, w0, hQ _ _ _ (by simp) hq⟩
  cases r with
  | ok x w' =>
    cases x <;> simp only [Oper.uponIn] at hh ⊢ <;>
      first
        | exact hK _ _ hh
        | exact ⟨hh.1, CallsIn.mono hh.2 (fun e w h => by have := hend e w; cases e <;> exact this h)⟩
        | exact ⟨hh.1, RowsIn.mono hh.2 (fun _ _ he => hK _ _ he)⟩
        | exact ⟨hh.1, RoundIn.mono hh.2 (fun e w h => by have := hend e w; cases e <;> exact this h)⟩
  | halt x w' => cases x <;> simp only [Oper.uponIn] at hh ⊢ <;> exact hQ _ _ _ (by simp) hh

theorem den_any {fuel : Nat} {listed : Array Bool} {e : Exit} {a : Act} {w : World} (he : e ≠ .normal) (h : den P R Φ (.any all fuel listed :: k) e a w) : den P R Φ k e a w := by
  cases e <;> first | exact absurd rfl he | exact h

/-- The next operation, whichever it is. -/
theorem AW.branch {rs : List Nat} {fuel : Nat} {listed : Array Bool} (h : ∀ i ∈ rs, AW P R Φ .normal (.ops all (pickOps all [i]) :: .any all fuel (listed.setIfInBounds i true) :: k) C s) (hr : Region.ready .any all listed = rs) (hne : rs ≠ []) :
    AW P R Φ .normal (.any all (fuel + 1) listed :: k) C s := fun B a w ha => by
  refine wpAnyIn_all hr hne (fun i hi => ?_)
  have := h i hi B a w ha
  have hir : i ∈ Region.ready .any all listed := by rw [hr]; exact hi
  obtain ⟨_, o, ho, _⟩ := mem_ready.1 hir
  simp only [pickOps, ho, den, wpListIn] at this
  unfold wpOpIn
  simp only [ho]
  split
  · rename_i hw
    rw [if_pos hw] at this
    exact wpIn_congrQ (fun e a w he hq => den_any he hq) (fun a w hq => hq) this
  · rename_i hw
    rw [if_neg hw] at this
    exact this

theorem seq_sound (pl : List Nat) {fuel : Nat} {listed listed' : Array Bool} (hc : seqChk all pl listed = some listed') : ∀ {a : Act} {w : World}, wpListIn (fence R) 0 P all (den P R Φ (.any all fuel listed' :: k)) (pickOps all pl) a w → wpAnyIn (fence R) 0 P .any all (den P R Φ k) (fuel + pl.length) listed a w := by
  induction pl generalizing listed with
  | nil =>
    intro a w h
    simp only [seqChk] at hc
    cases hc
    exact h
  | cons i r ih =>
    intro a w h
    simp only [seqChk] at hc
    split at hc
    · rename_i hr
      have hir : i ∈ Region.ready .any all listed := by rw [hr]; simp
      obtain ⟨_, o, ho, _⟩ := mem_ready.1 hir
      rw [List.length_cons, ← Nat.add_assoc]
      refine wpAnyIn_all hr (by simp) (fun j hj => ?_)
      have hj : j = i := by simpa using hj
      subst hj
      simp only [pickOps, ho, wpListIn] at h
      unfold wpOpIn
      simp only [ho]
      split
      · rename_i hw
        rw [if_pos hw] at h
        exact wpIn_congrQ (fun e a w he hq => den_any he hq) (fun a w hq => ih hc hq) h
      · rename_i hw
        rw [if_neg hw] at h
        exact ⟨h.1, ih hc h.2⟩
    · cases hc
/-- Operations whose order is told. -/
theorem AW.seqs (pl : List Nat) {fuel : Nat} {listed listed' : Array Bool} (h : AW P R Φ .normal (.ops all (pickOps all pl) :: .any all fuel listed' :: k) C s) (hc : seqChk all pl listed = some listed') : AW P R Φ .normal (.any all (fuel + pl.length) listed :: k) C s := fun B a w ha =>
  seq_sound pl hc (h B a w ha)
end
end Go.Ck

set_option linter.unusedVariables false
/-! Ranges over functions: the iterator's side. -/
namespace Go.Ck
open Go.RowKit
section
variable {P : Program} {O0 : Base} {F : Nat → Prop} {w0 w : World} {s : St} {E : Env} {tmps : Array Value}

/-- The same view from a later world: others have changed what is theirs. -/
theorem Rel.sleep (h : Rel P O0 w0 F s E tmps w) {w' : World} {F' : Nat → Prop} {ob' : Nat → Option Nat} (hg : Grow F w w') (hF1 : ∀ b, F' b → b < w'.heap.size) (hF2 : ∀ b, b < w.heap.size → F' b → F b)
    (hob : ∀ o b, ob' o = some b → E.obj o = b ∧ ∃ y, look o s.hp = some y) : Rel P ⟨E.om, ob'⟩ w' F' s E tmps w' := by
  have hA : ∀ b, b < w.heap.size → ¬ (E.om b ∨ F b) → ¬ (E.om b ∨ F' b) ∧ w'.heap[b]? = w.heap[b]? := fun b hb hn =>
    ⟨fun h1 => hn (h1.imp id (hF2 b hb)), hg.block b hb (fun h1 => hn (.inr h1))⟩
  have hom : ∀ b, E.om b → w'.heap[b]? = w.heap[b]? := fun b hb => hg.block b (h.om_lt b hb).1 (h.om_lt b hb).2
  refine { place := ?_, obj := ?_, size := h.size, i1 := h.i1, i2 := h.i2, i3 := h.i3, om_lt := fun b hb => ⟨Nat.lt_of_lt_of_le (h.om_lt b hb).1 hg.size, fun h1 => (h.om_lt b hb).2 (hF2 b (h.om_lt b hb).1 h1)⟩, om0 := fun b hb => .inl hb, na := h.na, np := h.np, gr := Grow.refl _ _, flt := hF1, ob := hob }
  · intro p v hp
    obtain ⟨x, hx, hv⟩ := h.place p v hp
    refine ⟨x, ?_, ?_⟩
    · cases p with
      | slot d => exact hx
      | part d i => exact hx
      | cell o i =>
        simp only [CV] at hx ⊢
        have : ∃ y, look o s.hp = some y := by
          simp only [St.at] at hp
          cases hl : look o s.hp with
          | none => simp [hl] at hp
          | some y => exact ⟨y, rfl⟩
        obtain ⟨y, hl⟩ := this
        exact (World.cell?_of_block (w := w) (w' := w') (a := ⟨E.obj o, i, none⟩) (hom _ (h.obj o y hl).1)).trans hx
    · cases v <;> simp only [PVal] at hv ⊢
      case own e xs => exact ⟨hv.1, hv.2.1.kept hA (fun b hb => hom b (hv.2.2 b hb)), hv.2.2⟩
      case tup vs => exact hv
      all_goals exact hv.grow hA
  · intro o y hl
    obtain ⟨h1, h2⟩ := h.obj o y hl
    refine ⟨h1, ?_⟩
    have hb := hom _ h1
    cases y with
    | cells e cs =>
      obtain ⟨vs, h3, h4⟩ := h2
      exact ⟨vs, hb.trans h3, h4⟩
    | mp es =>
      obtain ⟨ms, c, h3, h4, h5⟩ := h2
      exact ⟨ms, c, hb.trans h3, h4, fun i kv m hk hm => ⟨(h5 i kv m hk hm).1.mono hA, (h5 i kv m hk hm).2.mono hA⟩⟩

/-- Blocks that nothing of the state lies in are given up: they are others' from here on. -/
theorem Rel.shrink (h : Rel P O0 w0 F s E tmps w) (M : Nat → Prop) (hM : ∀ b, M b → E.om b) (hobj : ∀ o y, look o s.hp = some y → ¬ M (E.obj o)) (hown : ∀ p e xs b, s.at p = some (.own e xs) → (E.hdr p).ownBlock = some b → ¬ M b)
    {ob' : Nat → Option Nat} (hob : ∀ o b, ob' o = some b → E.obj o = b ∧ ∃ y, look o s.hp = some y) :
    Rel P ⟨fun b => E.om b ∧ ¬ M b, ob'⟩ w (fun b => F b ∨ M b) s { E with om := fun b => E.om b ∧ ¬ M b } tmps w := by
  classical
  have hA : ∀ b, b < w.heap.size → ¬ (E.om b ∨ F b) → ¬ ((E.om b ∧ ¬ M b) ∨ (F b ∨ M b)) ∧ w.heap[b]? = w.heap[b]? := fun b _ hn =>
    ⟨fun h1 => hn (h1.elim (fun h2 => .inl h2.1) (fun h2 => h2.elim .inr (fun h3 => .inl (hM b h3)))), rfl⟩
  have hrs : ∀ {v x}, RS P (fun b => E.om b ∨ F b) E w v x → RS P (fun b => (E.om b ∧ ¬ M b) ∨ (F b ∨ M b)) { E with om := fun b => E.om b ∧ ¬ M b } w v x := by
    intro v x hv
    have h1 := hv.grow hA
    induction h1 with
    | pv p x h => exact .pv p x h
    | nils => exact .nils
    | al p => exact .al (E := { E with om := fun b => E.om b ∧ ¬ M b }) p
    | vw p e off n x h => exact .vw p e off n x h
    | ptr o off => exact .ptr (E := { E with om := fun b => E.om b ∧ ¬ M b }) o off
    | ea p e i j b h => exact .ea p e i j b h
    | ra c j vs ad hs h hm => exact .ra c j vs ad hs h hm
    | fn f caps vs hl h1 h ih => exact .fn f caps vs hl h1 (fun i c v hc hv => by
        have hc1 := List.all_eq_true.1 h1 c (List.mem_of_getElem? hc)
        have h2 := h i c v hc hv
        cases c <;> simp [SV.simple] at hc1
        · cases h2 with | pv _ _ h2 => exact .pv _ _ h2
        · cases h2; exact .ptr (E := { E with om := fun b => E.om b ∧ ¬ M b }) _ _)
    | agg cs vs hl h1 h ih => exact .agg cs vs hl h1 (fun i c v hc hv => by
        have h2 := CP.ofRS h1 (List.mem_of_getElem? hc) (h i c v hc hv)
        exact h2.rs)
    | mp o => exact .mp (E := { E with om := fun b => E.om b ∧ ¬ M b }) o
    | yl l => exact .yl l
  refine { place := ?_, obj := ?_, size := h.size, i1 := h.i1, i2 := h.i2, i3 := h.i3, om_lt := fun b hb => ⟨(h.om_lt b hb.1).1, fun h1 => h1.elim (h.om_lt b hb.1).2 hb.2⟩, om0 := fun b hb => .inl hb, na := h.na, np := h.np, gr := Grow.refl _ _, flt := fun b hb => hb.elim (fun h1 => Nat.lt_of_lt_of_le (h.flt b h1) h.gr.size) (fun h1 => (h.om_lt b (hM b h1)).1), ob := hob }
  · intro p v hp
    obtain ⟨x, hx, hv⟩ := h.place p v hp
    refine ⟨x, hx, ?_⟩
    cases v <;> simp only [PVal] at hv ⊢
    case own e xs => exact ⟨hv.1, hv.2.1.kept hA (fun _ _ => rfl), fun b hb => ⟨hv.2.2 b hb, hown p e xs b hp hb⟩⟩
    case tup vs => exact hv
    all_goals exact hrs hv
  · intro o y hl
    obtain ⟨h1, h2⟩ := h.obj o y hl
    refine ⟨⟨h1, hobj o y hl⟩, ?_⟩
    cases y with
    | cells e cs => exact h2
    | mp es =>
      obtain ⟨ms, c, h3, h4, h5⟩ := h2
      exact ⟨ms, c, h3, h4, fun i kv m hk hm => ⟨(h5 i kv m hk hm).1.mono hA, (h5 i kv m hk hm).2.mono hA⟩⟩
end

/-- Nothing is deferred. -/
def plain (X : Bs → Prop) : Cx := fun B d => d = [] ∧ X B

/-- A call of yield with these values, where the others are as X tells: they are as X1 tells behind it, and it has said 'go on', or as X0 tells, and it has said 'no more'. -/
def YieldOK (P : Program) (l : Nat) (X : Bs → Prop) (ps : List PV) (X1 X0 : Bs → Prop) : Prop :=
  ∀ (B : Bs) (M : Nat → Prop) (w : World) (vals : List Value), X B → (∀ b, M b → (B.O.blk b ∨ B.w.heap.size ≤ b) ∧ b < w.heap.size ∧ ¬ B.F b) → (∀ b, B.F b → b < B.w.heap.size) → Grow B.O.blk B.w w → vals.length = ps.length →
    (∀ (i : Nat) (p : PV) (x : Value), ps[i]? = some p → vals[i]? = some x → RO (fun b => M b ∨ B.F b) w p x) →
    ∃ fn tmps assign body, (Instr.yield l vals.toArray).run P w = .ok (.round l fn tmps assign body) w ∧ RoundIn Fence.wide 0 P l fn tmps assign body w (fun e w' => ∃ (b : Bool) (F' : Nat → Prop), e = .returned (.bool b) ∧
      (if b = true then X1 else X0) ⟨⟨M, fun _ => none⟩, w', F'⟩ ∧ Grow B.F w w' ∧ (∀ b, F' b → b < w'.heap.size) ∧ (∀ b, b < w.heap.size → F' b → B.F b))

section
variable {P : Program} {Φ : Exit → Cx → St → Prop} {k : List It} {s : St}

theorem evs_pv {O0 : Base} {F : Nat → Prop} {w0 w : World} {E : Env} {a : Act} (h : Rel P O0 w0 F s E a.tmps w) : ∀ {l : List Operand} {ps : List PV}, evs s l = some (ps.map .pv) → l.length = ps.length ∧ ∀ (i : Nat) (p : PV) (x : Value), ps[i]? = some p → (l.map a.eval)[i]? = some x → RO (fun b => E.om b ∨ F b) w p x
  | [], ps, he => by
    simp [evs] at he
    subst he
    exact ⟨rfl, by simp⟩
  | x :: l, ps, he => by
    simp only [evs] at he
    split at he
    · rename_i v vs h1 h2
      cases ps with
      | nil => simp at he
      | cons p ps =>
        simp only [List.map_cons, Option.some.injEq, List.cons.injEq] at he
        obtain ⟨rfl, rfl⟩ := he
        obtain ⟨k1, k2⟩ := evs_pv h h2
        refine ⟨by simp [k1], fun i q y hq hy => ?_⟩
        cases i with
        | zero =>
          simp at hq hy
          subst hq; subst hy
          have := ev_rs h h1
          cases this with | pv _ _ h => exact h
        | succ i => exact k2 i q y (by simpa using hq) (by simpa using hy)
    · cases he

/-- A call of yield. -/
theorem AW.yield {all : Array Oper} {o : Oper} {r : List Oper} {d l : Nat} {c : Call} {fx : Operand} {ps : List PV} {X X1 X0 : Bs → Prop} (hY : YieldOK P l X ps X1 X0) (hf : ev s fx = some (.yl l)) (hx : evs s c.args.toList = some (ps.map .pv))
    (k1 : AW P none Φ .normal (.ops all r :: k) (plain X1) (put d (.pv (.bool true)) s)) (k0 : AW P none Φ .normal (.ops all r :: k) (plain X0) (put d (.pv (.bool false)) s))
    (hg : o.guard = none := by rfl) (ho : o.op = .call c := by rfl) (hd : o.dst = some d := by rfl) (hc : c.callee = .value fx := by rfl) : AW P none Φ .normal (.ops all (o :: r) :: k) (plain X) s := fun B a w ha => by
  simp only [den]
  refine wpListIn_want (by simp [Region.wanted, hg]) (fun c' hc' => by rw [ho] at hc'; cases hc') ?_
  obtain ⟨⟨⟨hdf, hX⟩, hob, hG⟩, E, h⟩ := ha
  have hgk := Rel.gok hG h
  obtain ⟨k2, k3⟩ := evs_pv h hx
  have e1 : a.eval fx = .func (.yield l) #[] #[] := by
    have := ev_rs h hf
    generalize a.eval fx = z at this
    cases this; rfl
  obtain ⟨fn, tmps, assign, body, hy, hR⟩ := hY B E.om w (c.args.toList.map a.eval) hX (fun b hb => ⟨h.om0 b hb, h.om_lt b hb⟩) h.flt h.gr (by simpa using k2) k3
  have hrun : (execOp a.eval o).run P w = .ok (.round l fn tmps assign body) w := by
    have hargs : c.args.map a.eval = (c.args.toList.map a.eval).toArray := by apply Array.ext'; simp
    rw [← hargs] at hy
    simp [execOp, ho, resolve, hc, e1, Deferred.ofValue, invoke, callFunc, hy]
  rw [hrun, Oper.uponIn_round]
  refine ⟨fun h => by simp [fence, Fence.wide] at h, RoundIn.mono hR (fun e w' he => ?_)⟩
  obtain ⟨b, F', rfl, hX', hg1, hF1, hF2⟩ := he
  have hs := h.sleep (ob' := fun _ => none) hg1 hF1 hF2 (fun o b hb => by cases hb)
  have hG' : GOK P (fun b => E.om b ∨ F' b) w' := hgk.mono (fun b hb hn => ⟨fun h1 => hn (h1.imp id (hF2 b hb)), hg1.block b hb (fun h1 => hn (.inr h1))⟩) hg1.size
  have hp := hs.putGood (v := .pv (.bool b)) d (.pv _ _) (.pv _ _ (.bool b))
  simp only
  rw [hd]
  cases b with
  | true => exact k1 ⟨⟨E.om, fun _ => none⟩, w', F'⟩ _ w' ⟨⟨⟨by rw [put_defers]; exact hdf, hX'⟩, fun o _ => rfl, hG'⟩, E, hp⟩
  | false => exact k0 ⟨⟨E.om, fun _ => none⟩, w', F'⟩ _ w' ⟨⟨⟨by rw [put_defers]; exact hdf, hX'⟩, fun o _ => rfl, hG'⟩, E, hp⟩
end

/-- An iterator that hands on xs 0, xs 1, ..: N: where it ends, or where it has been told 'no more' at the latest. -/
def Iter (P : Program) (f : FuncId) (caps : List SV) (H : List (Nat × HO)) (xs : Nat → Option (List PV)) : Prop :=
  (∃ fn, P.funcs[f]? = some fn ∧ (fn.name == "runtime.NumGoroutine") = false ∧ fn.body.isNone = false) ∧
  ∀ (l : Nat) (X : Nat → Bs → Prop) (X0 : Bs → Prop) (N : Nat), (∀ i, i < N → ∃ p, xs i = some p ∧ YieldOK P l (X i) p (X (i + 1)) X0) → (xs N = none ∨ ∀ B, ¬ X N B) →
    ∀ (B : Bs) (E : Env) (vals : List Value), vals.length = caps.length + 1 → X 0 B → (∀ o, o < 1000 → B.O.ob o = none) → GOK P (fun b => B.O.blk b ∨ B.F b) B.w →
      Rel P B.O B.w B.F ⟨vals.length, zslots (.yl l :: caps) 0, H⟩ E vals.toArray B.w →
      Calls P f vals.toArray B.w (fun e w' => ∃ v B', e = .returned v ∧ ((xs N = none ∧ X N B') ∨ X0 B') ∧ Grow B'.O.blk B'.w w' ∧ (∀ b, B'.F b → b < B'.w.heap.size))

theorem Iter.of_body {P : Program} {f : FuncId} {fn : Func} {c : Code} {caps : List SV} {H : List (Nat × HO)} {xs : Nat → Option (List PV)} {n : Nat} (hf : P.funcs[f]? = some fn) (hb : fn.body = some c) (hn : n = caps.length + 1 + (fn.ntmps - (caps.length + 1))) (hname : (fn.name == "runtime.NumGoroutine") = false) (hres : fn.results.toList = [])
    (h : ∀ (l : Nat) (X : Nat → Bs → Prop) (X0 : Bs → Prop) (N : Nat), (∀ i, i < N → ∃ p, xs i = some p ∧ YieldOK P l (X i) p (X (i + 1)) X0) → (xs N = none ∨ ∀ B, ¬ X N B) →
      AW P none (fun e C' s' => (e = .normal ∨ e = .ret) ∧ ((xs N = none ∧ C' = plain (X N)) ∨ C' = plain X0)) .normal [.code c] (plain (X 0)) ⟨n, zslots (.yl l :: caps) 0, H⟩) : Iter P f caps H xs := by
  refine ⟨⟨fn, hf, hname, by simp [hb]⟩, fun l X X0 N hY hN B E vals hl hX hob hG hR => ?_⟩
  refine calls_of_wp hf hb ?_
  have h0 := hR.extend (u := Array.replicate (fn.ntmps - vals.toArray.size) undef) (n := n) (by simp [hn, hl])
  have hw := h l X X0 N hY hN B { tmps := vals.toArray ++ Array.replicate (fn.ntmps - vals.toArray.size) undef, defers := [] } B.w ⟨⟨⟨rfl, hX⟩, hob, hG⟩, E, h0⟩
  simp only [den] at hw
  refine wp_mono ((wpIn_wide (n := 0)).1 hw) (fun e a w' hq => ?_)
  obtain ⟨C', s', B', ⟨he, hC⟩, ⟨hC', _⟩, E', hE⟩ := hq
  have hd : a.defers = [] ∧ ((xs N = none ∧ X N B') ∨ X0 B') := by
    rcases hC with ⟨h1, rfl⟩ | rfl
    · exact ⟨hC'.1, .inl ⟨h1, hC'.2⟩⟩
    · exact ⟨hC'.1, .inr hC'.2⟩
  have hrun : (results fn a.tmps).run P w' = .ok (pack []) w' := run_results (us := []) (by rw [hres]; simp)
  have fin : a.defers = [] ∧ ∃ v, (results fn a.tmps).run P w' = .ok v w' ∧ ∃ v' B', Ending.returned v = .returned v' ∧ ((xs N = none ∧ X N B') ∨ X0 B') ∧ Grow B'.O.blk B'.w w' ∧ (∀ b, B'.F b → b < B'.w.heap.size) :=
    ⟨hd.1, _, hrun, _, B', rfl, hd.2, hE.gr, hE.flt⟩
  rcases he with rfl | rfl
  · exact fin
  · exact fin
end Go.Ck
