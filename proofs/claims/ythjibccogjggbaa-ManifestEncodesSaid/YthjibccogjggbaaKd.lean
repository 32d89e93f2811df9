/- What is proved here: parts of the proofs of this seat's statements (a verified evaluator for calls over pure values, its laws, and contracts of functions). No condition. -/
import Derived.Test.YthjibccogjggbaaKc
import Derived.Great.BuildSlice
set_option linter.all false
set_option linter.unusedVariables false
namespace Go.Ck
open Go.RowKit
section
variable {P : Program} {O0 : Base} {F : Nat → Prop} {w0 w : World} {s : St} {E : Env} {tmps : Array Value}
def Env.dropOm (E : Env) (D : Nat → Prop) : Env := { E with om := fun b => E.om b ∧ ¬ D b }

/-- Blocks that nothing lies in are no longer ours. -/
theorem Rel.dropOm (h : Rel P O0 w0 F s E tmps w) (D : Nat → Prop) (hD : ∀ b, D b → Unused s E b) : Rel P O0 w0 F s (E.dropOm D) tmps w := by
  have hA : ∀ b, b < w.heap.size → ¬ (E.om b ∨ F b) → ¬ ((E.dropOm D).om b ∨ F b) ∧ w.heap[b]? = w.heap[b]? :=
    fun b _ hn => ⟨fun h2 => hn (h2.imp (fun h3 => h3.1) id), rfl⟩
  refine { place := ?_, obj := ?_, size := h.size, i1 := h.i1, i2 := h.i2, i3 := h.i3, om_lt := fun b hb => h.om_lt b hb.1, om0 := fun b hb => h.om0 b hb.1, na := h.na, np := h.np, gr := h.gr, flt := h.flt, ob := h.ob }
  · intro p v hp
    obtain ⟨x, hx, hv⟩ := h.place p v hp
    refine ⟨x, by cases p <;> exact hx, ?_⟩
    cases v <;> simp only [PVal] at hv ⊢
    case own e xs =>
      obtain ⟨h1, h2, h3⟩ := hv
      exact ⟨h1, h2.kept hA (fun b _ => rfl), fun b hb => ⟨h3 b hb, fun hd => (hD b hd).2 p e xs hp hb⟩⟩
    case tup vs => exact hv
    all_goals exact RS.env (E := E) rfl rfl (hv.grow hA)
  · intro o y hl
    obtain ⟨h1, h2⟩ := h.obj o y hl
    refine ⟨⟨h1, fun hd => (hD _ hd).1 o y hl rfl⟩, ?_⟩
    cases y with
    | cells e cs => exact h2
    | mp es =>
      obtain ⟨ms, c, h3, h4, h5⟩ := h2
      exact ⟨ms, c, h3, h4, fun i kv m hk hm => ⟨(h5 i kv m hk hm).1.mono hA, (h5 i kv m hk hm).2.mono hA⟩⟩

theorem del_at {p : Place} {u : SV} (hp : s.at p = some u) (hu : u.isTup = false) (ho : ∃ e xs, u = .own e xs) : (del p s).at p = some .dead := by
  obtain ⟨e, xs, rfl⟩ := ho
  exact setAt_same (kill_own p s hp)

theorem Rel.free_del (h : Rel P O0 w0 F s E tmps w) {p : Place} {e : TypeId} {xs : List PV} (hp : s.at p = some (.own e xs)) : Free p (del p s) := by
  obtain ⟨_, _, _, h4⟩ := h.take hp
  exact h4.free_of (fun e' xs' he => by rw [del_at hp rfl ⟨e, xs, rfl⟩] at he; cases he)

theorem OwnL.toRO {A : Nat → Prop} {e : TypeId} {x : Value} {xs : List PV} (h : OwnL P A w e x xs) (hb : ∀ b, x.ownBlock = some b → ¬ A b) : RO A w (.sl (P.cellsOf e) xs) x := by
  obtain ⟨cs, h1, h2, h3, h4⟩ := h
  rcases h1.2 with ⟨rfl, h0⟩ | ⟨g, cap, cur, rfl, _, hg, hle, _⟩
  · have : xs = [] := List.eq_nil_of_length_eq_zero h0
    subst this
    exact RO.mkSl (vs := []) (ROs.nil _ _) (by simp) (by simp) (by simp) (by simp)
  · exact RO.mkSl h2 (fun i v hv => ⟨_, rfl, hb g rfl, h1.cells (g := g) rfl i v hv⟩) h3 h4 hle

theorem RO.sub {A A' : Nat → Prop} (h : ∀ b, ¬ A b → ¬ A' b) {p : PV} {x : Value} (hr : RO A w p x) : RO A' w p x := hr.mono (fun b _ hn => ⟨h b hn, rfl⟩)
theorem ROs.sub {A A' : Nat → Prop} (h : ∀ b, ¬ A b → ¬ A' b) {ps : List PV} {xs : List Value} (hr : ROs A w ps xs) : ROs A' w ps xs := hr.mono (fun b _ hn => ⟨h b hn, rfl⟩)

theorem thaw_sound {A : Nat → Prop} {cs : List SV} {vs : List Value} {ps : List PV} (hl : vs.length = cs.length) (h : ∀ (i : Nat) (c : SV) (v : Value), cs[i]? = some c → vs[i]? = some v → RS P A E w c v) (ht : thaw cs = some ps) : ROs A w ps vs := by
  induction cs generalizing vs ps with
  | nil => cases ht; rw [List.eq_nil_of_length_eq_zero hl]; exact ROs.nil _ _
  | cons c r ih =>
    cases vs with
    | nil => simp at hl
    | cons v vs =>
      have h0 := h 0 c v rfl rfl
      have hr : ∀ (i : Nat) (c : SV) (v : Value), r[i]? = some c → vs[i]? = some v → RS P A E w c v := fun i c' v' hc hv => h (i + 1) c' v' (by simpa using hc) (by simpa using hv)
      have key : ∀ {p ps}, RO A w p v → p.one = true → ROs A w ps vs → ROs A w (p :: ps) (v :: vs) := by
        intro p ps hp h1 hk
        refine ⟨by simp [hk.1], fun c hc => ?_, fun i c' v' hc hv => ?_⟩
        · rcases List.mem_cons.1 hc with rfl | hc
          · exact h1
          · exact hk.2.1 c hc
        · cases i with
          | zero => simp at hc hv; subst hc; subst hv; exact hp
          | succ i => exact hk.2.2 i c' v' (by simpa using hc) (by simpa using hv)
      cases c <;> try (simp [thaw] at ht; done)
      case pv p =>
        simp only [thaw] at ht
        split at ht
        · rename_i h1
          split at ht <;> cases ht
          rename_i ps' hps
          cases h0 with | pv _ _ h0 => exact key h0 h1 (ih (by simpa using hl) hr hps)
        · cases ht
      case nils =>
        simp only [thaw] at ht
        split at ht <;> cases ht
        rename_i ps' hps
        cases h0
        exact key (RO.mkSl (vs := []) (ROs.nil _ _) (by simp) (by simp) (by simp) (by simp)) rfl (ih (by simpa using hl) hr hps)

/-- A value that is put into another one. -/
theorem freeze_sound (h : Rel P O0 w0 F s E tmps w) {v : SV} {x : Value} {p : PV} {s' : St} (hf : freeze P s v = some (p, s')) (hr : RS P (fun b => E.om b ∨ F b) E w v x) :
    ∃ E', (∀ b, E'.om b → E.om b) ∧ Rel P O0 w0 F s' E' tmps w ∧ RO (fun b => E'.om b ∨ F b) w p x := by
  unfold freeze at hf
  split at hf
  · cases hf
    cases hr with | pv _ _ hr => exact ⟨E, fun _ hb => hb, h, hr⟩
  · cases hf
    cases hr
    exact ⟨E, fun _ hb => hb, h, RO.mkSl (vs := []) (ROs.nil _ _) (by simp) (by simp) (by simp) (by simp)⟩
  · rename_i cs
    unfold freezeA at hf
    split at hf
    · rename_i ps hps
      cases hf
      refine ⟨E, fun _ hb => hb, h, ?_⟩
      cases hr with | agg _ vs hl h1 h2 => ?_
      obtain ⟨k1, k2, k3⟩ := thaw_sound hl h2 hps
      exact .agg _ _ (by simpa using k1) k2 (fun i c v hc hv => k3 i c v hc (by simpa using hv))
    · cases hf
  · rename_i q
    unfold freezeO at hf
    split at hf
    · rename_i e xs hp
      cases hf
      cases hr
      obtain ⟨h1, h2, h3, h4⟩ := h.take hp
      have h5 := h4.dropOm (fun b => (E.hdr q).ownBlock = some b) (fun b hb => (h3 b hb).2)
      have hsub : ∀ b, ¬ (E.om b ∨ F b) → ¬ ((E.dropOm fun b => (E.hdr q).ownBlock = some b).om b ∨ F b) := fun b hn h6 => hn (h6.imp (fun h7 => h7.1) id)
      have hro : RO (fun b => (E.dropOm fun b => (E.hdr q).ownBlock = some b).om b ∨ F b) w (.sl (P.cellsOf e) xs) (E.hdr q) := by
        refine OwnL.toRO (h2.kept (fun b _ hn => ⟨hsub b hn, rfl⟩) (fun _ _ => rfl)) (fun b hb => ?_)
        rintro (h6 | h6)
        · exact h6.2 hb
        · exact (h.om_lt b (h3 b hb).1).2 h6
      refine ⟨(E.dropOm fun b => (E.hdr q).ownBlock = some b).setHdr q (E.hdr q), fun b hb => hb.1, h5.recast (v := .pv (.sl (P.cellsOf e) xs)) (y := E.hdr q) (x := E.hdr q) (del_at hp rfl ⟨e, xs, rfl⟩) rfl rfl (h.free_del hp) rfl (by cases q <;> exact h1) (.inr rfl) ?_ (by simp [SV.on]) (by rintro ⟨_, _, h2⟩; cases h2) (by simp [SV.pts]), hro⟩
      exact RS.pv _ _ hro
    · cases hf
  · cases hf

theorem foldl_zipIdx (off : Nat) : ∀ (l : List Value) (k : Nat) (cells : Array Value), off + k + l.length ≤ cells.size →
    ((l.zipIdx k).foldl (fun (cs : Array Value) (x : Value × Nat) => cs.setIfInBounds (off + x.2) x.1) cells).toList = cells.toList.take (off + k) ++ l ++ cells.toList.drop (off + k + l.length)
  | [], k, cells, h => by simp
  | v :: r, k, cells, h => by
    simp only [List.length_cons] at h
    rw [List.zipIdx_cons, List.foldl_cons, foldl_zipIdx off r (k + 1) _ (by simp; omega)]
    simp only [Array.toList_setIfInBounds, List.length_cons]
    have hlt : off + k < cells.toList.length := by simp; omega
    rw [List.drop_set_of_lt (by omega), show off + (k + 1) = (off + k) + 1 by omega, List.take_add_one, List.take_set_of_le (Nat.le_refl _)]
    simp [hlt, show off + k + 1 + r.length = off + k + (r.length + 1) by omega]
    rw [List.getElem?_set_self hlt]; rfl
end
end Go.Ck

set_option linter.unusedVariables false
namespace Go.Ck
open Go.RowKit
section
variable {P : Program} {O0 : Base} {F : Nat → Prop} {w0 w : World} {s : St} {E : Env} {a : Act}
theorem fill_cons {place : Nat → Option (Nat × Nat)} {cells : Array Value} {i off size : Nat} {v : Value} {rest : List (Nat × Value)} (hp : place i = some (off, size)) (h1 : v.cells.size = size) (h2 : off + size ≤ cells.size) :
    ∃ cells' : Array Value, Instr.fill place cells ((i, v) :: rest) = Instr.fill place cells' rest ∧ cells'.toList = cells.toList.take off ++ v.cells.toList ++ cells.toList.drop (off + size) := by
  refine ⟨v.cells.zipIdx.foldl (fun cs (c, j) => cs.setIfInBounds (off + j) c) cells, ?_, ?_⟩
  · rw [Instr.fill]
    simp only [hp]
    rw [if_neg (by simp [h1]; omega)]
  · have := foldl_zipIdx off v.cells.toList 0 cells (by simp [h1]; omega)
    simp only [Nat.add_zero, Array.length_toList, h1] at this
    rw [← this, ← Array.foldl_toList, Array.toList_zipIdx]

theorem fillElems_sound {z : Nat} : ∀ (ps : List (Nat × Operand)) {xs : List PV} {s : St} {E : Env} {cells : Array Value} {xs' : List PV} {s' : St}, Rel P O0 w0 F s E a.tmps w → fillElems P z ps xs s = some (xs', s') →
    ROs (fun b => E.om b ∨ F b) w (flat xs) cells.toList → (∀ x ∈ xs, x.cells.length = z) →
    ∃ E' cells', Instr.fill (fun i => some (i * z, z)) cells (ps.map fun (i, x) => (i, a.eval x)) = some cells' ∧ Rel P O0 w0 F s' E' a.tmps w ∧ ROs (fun b => E'.om b ∨ F b) w (flat xs') cells'.toList ∧ (∀ x ∈ xs', x.cells.length = z) ∧ xs'.length = xs.length
  | [], xs, s, E, cells, xs', s', h, hf, hr, hz => by
    cases hf
    exact ⟨E, cells, rfl, h, hr, hz, rfl⟩
  | (i, x) :: r, xs, s, E, cells, xs', s', h, hf, hr, hz => by
    unfold fillElems at hf
    split at hf
    · rename_i v hv
      split at hf
      · rename_i p s1 hfr
        split at hf
        · rename_i hc
          obtain ⟨E1, hom, h1, hro⟩ := freeze_sound h hfr (ev_rs h hv)
          have hcs := hro.cellsROs
          have hlen : cells.size = xs.length * z := by
            have := hr.1
            rw [flat_length hz] at this
            simpa using this
          have hsub : ∀ b, ¬ (E.om b ∨ F b) → ¬ (E1.om b ∨ F b) := fun b hn h6 => hn (h6.imp (hom b) id)
          have hle : i * z + z ≤ cells.size := by
            rw [hlen, show i * z + z = (i + 1) * z by rw [Nat.add_mul, Nat.one_mul]]
            exact Nat.mul_le_mul_right _ hc.2
          obtain ⟨cells1, e1, e2⟩ := fill_cons (place := fun i => some (i * z, z)) (cells := cells) (i := i) (v := a.eval x) (rest := r.map fun (i, x) => (i, a.eval x)) rfl (by have := hcs.1; simp only [Array.length_toList] at this; rw [this, hc.1]) hle
          have hr1 : ROs (fun b => E1.om b ∨ F b) w (flat (xs.set i p)) cells1.toList := by
            rw [flat_set hz hc.2 hc.1, e2]
            exact (((hr.sub hsub).take _).append hcs).append ((hr.sub hsub).drop _)
          obtain ⟨E2, cells2, f1, f2, f3, f4, f5⟩ := fillElems_sound r h1 hf hr1 (fun y hy => by
            rcases List.mem_or_eq_of_mem_set hy with hy | rfl
            · exact hz y hy
            · exact hc.1)
          exact ⟨E2, cells2, by rw [List.map_cons]; exact e1.trans f1, f2, f3, f4, by rw [f5, List.length_set]⟩
        · cases hf
      · cases hf
    · cases hf

/-- A list literal. -/
theorem buildSlice_sound (h : Rel P O0 w0 F s E a.tmps w) {t e n : Nat} {ez eb : Nat} {ea : Bool} {ps : Array (Nat × Operand)} {z : PV} {xs' : List PV} {s' : St} (d : Nat) (hT : tk P t = .sl e ez eb ea) (hz : zeroElem P e = some z)
    (hn : n * ez ≤ 16777216) (hez : 0 < ez) (hm : n ≤ maxLen) (hf : fillElems P ez ps.toList (List.replicate n z) s = some (xs', s')) :
    ∃ v w' E', (Instr.buildSlice t n (ps.map fun (i, x) => (i, a.eval x))).run P w = .ok v w' ∧ Rel P O0 w0 F (put d (.own e xs') s') E' (a.tmps.setIfInBounds d v) w' := by
  obtain ⟨hu, hce, _⟩ := tk_sl hT
  obtain ⟨ie, zv, hie, hzv, hzs, hro, hzl⟩ := zeroElem_sound (P := P) (w := w) (A := fun b => E.om b ∨ F b) hz
  have hsz : ie.size = ez := by rw [← hce]; simp [Program.cellsOf, hie]
  have h0 := made_ros hro n
  rw [hzl] at h0
  obtain ⟨E1, cells', f1, f2, f3, f4, f5⟩ := fillElems_sound ps.toList h hf h0 (fun x hx => by rw [List.eq_of_mem_replicate hx, hzl, hsz])
  have hl : xs'.length = n := by simpa using f5
  obtain ⟨E', hE⟩ := f2.newRow (e := e) (vs := cells') d f3 (fun x hx => by rw [f4 x hx, hce]) n (by omega) hm #[] (by simp [hl])
  rw [hl] at hE
  simp only [Array.append_empty] at hE
  refine ⟨_, _, E', ?_, hE⟩
  rcases Nat.eq_zero_or_pos n with h1 | h1
  · subst h1
    rw [Nat.zero_mul] at f1
    have hx : xs' = [] := List.eq_nil_of_length_eq_zero hl
    have r0 : Array.range 0 = #[] := rfl
    simp only [madeCells, hsz, r0, Array.map_empty] at f1
    simp [Instr.buildSlice, run_underlying hu, sizeOf, typeInfo, hie, newRow, r0]
    have f1' : Instr.fill (fun i => some (i * ie.size, ie.size)) #[] (List.map (fun x => (x.fst, a.eval x.snd)) ps.toList) = some cells' := by
      rw [hsz]; simpa using f1
    rw [f1']
    simp
  · refine run_buildSlice w t e n _ cells' ie zv hu hie hzv (by rw [hsz]; omega) (by rw [hsz]; have := Nat.mul_pos h1 hez; omega) ?_
    rw [Array.toList_map, hsz]
    rw [hsz] at f1
    exact f1

/-- make([]T, n, m) -/
theorem makeSlice_sound (h : Rel P O0 w0 F s E a.tmps w) {t e : Nat} {ez eb : Nat} {ea : Bool} {z : PV} (d : Nat) {n m : Int} (hT : tk P t = .sl e ez eb ea) (hz : zeroElem P e = some z)
    (hez : 0 < ez) (h0 : 0 ≤ n) (h1 : n ≤ m) (h2 : eb * m ≤ room) (h3 : m ≤ room) :
    ∃ v w' E', (Instr.makeSlice t (.int .i64 n) (.int .i64 m)).run P w = .ok v w' ∧ Rel P O0 w0 F (put d (.own e (List.replicate n.toNat z)) s) E' (a.tmps.setIfInBounds d v) w' := by
  obtain ⟨hu, hce, hbe⟩ := tk_sl hT
  obtain ⟨ie, zv, hie, hzv, hzs, hro, hzl⟩ := zeroElem_sound (P := P) (w := w) (A := fun b => E.om b ∨ F b) hz
  have hsz : ie.size = ez := by rw [← hce]; simp [Program.cellsOf, hie]
  have hby : ie.bytes = eb := by rw [← hbe]; simp [Program.bytesOf, hie]
  have hr := run_make (P := P) w t e ie zv hu hie hzv .i64 .i64 n m h0 h1 (by rw [hby]; unfold room at h2; omega) (by unfold room at h3; omega)
  have hros := made_ros hro n.toNat
  rw [hzl, hsz] at hros
  have hmm : madeCells zv.cells (m.toNat * ez) = madeCells zv.cells (n.toNat * ez) ++ (madeCells zv.cells (m.toNat * ez)).extract (n.toNat * ez) (m.toNat * ez) := by
    have hle : n.toNat * ez ≤ m.toNat * ez := Nat.mul_le_mul_right _ (by omega)
    apply Array.ext
    · simp [size_madeCells]; omega
    · intro i hi1 hi2
      simp only [madeCells, Array.getElem_append, Array.size_map, Array.size_range, Array.getElem_map, Array.getElem_range, Array.getElem_extract]
      split
      · rfl
      · simp only [size_madeCells] at *
        congr 2
        omega
  obtain ⟨E', hE⟩ := h.newRow (e := e) (xs := List.replicate n.toNat z) (vs := madeCells zv.cells (n.toNat * ez)) d hros (fun x hx => by rw [List.eq_of_mem_replicate hx, hzl, hsz, hce]) m.toNat (by simp; omega) (by unfold room at h3; simp only [maxLen]; omega)
    ((madeCells zv.cells (m.toNat * ez)).extract (n.toNat * ez) (m.toNat * ez)) (by simp [size_madeCells, hce, Nat.sub_mul])
  refine ⟨_, _, E', hr, ?_⟩
  rw [hsz, hmm]
  simpa using hE
end
end Go.Ck

set_option linter.unusedVariables false
namespace Go.Ck
open Go.RowKit
def Env.addObj (E : Env) (o b : Nat) : Env := { E with obj := fun o' => if o' = o then b else E.obj o', om := fun k => E.om k ∨ k = b }
theorem Env.addObj_same (E : Env) (o b : Nat) : (E.addObj o b).obj o = b := by simp [Env.addObj]
theorem Env.addObj_ne (E : Env) {o o' : Nat} (b : Nat) (h : o' ≠ o) : (E.addObj o b).obj o' = E.obj o' := by simp [Env.addObj, h]

theorem allPlain_pts : ∀ {l : List SV}, allPlain l = true → ∀ c ∈ l, (∀ o, c.pts o = false) ∧ (∀ q, c.on q = false) ∧ c.easy = true ∧ oneSV c = true
  | [], _, _, h => by cases h
  | d :: r, hl, c, hc => by
    cases d <;> simp [allPlain] at hl
    · rcases List.mem_cons.1 hc with rfl | hc
      · exact ⟨fun _ => rfl, fun _ => rfl, rfl, hl.1⟩
      · exact allPlain_pts hl.2 c hc
    · rcases List.mem_cons.1 hc with rfl | hc
      · exact ⟨fun _ => rfl, fun _ => rfl, rfl, rfl⟩
      · exact allPlain_pts hl c hc

section
variable {P : Program} {O0 : Base} {F : Nat → Prop} {w0 w : World} {s : St} {E : Env} {tmps : Array Value}
theorem RS.addObj {A A' : Nat → Prop} {w w' : World} {v : SV} {y : Value} {o b : Nat} (hg : ∀ b, b < w.heap.size → ¬ A b → ¬ A' b ∧ w'.heap[b]? = w.heap[b]?) (h : RS P A E w v y) (hp : v.pts o = false) : RS P A' (E.addObj o b) w' v y := by
  induction h with
  | pv q y h => exact .pv q y (h.mono hg)
  | nils => exact .nils
  | al q => exact .al (E := E.addObj o b) q
  | vw q e off n y h => exact .vw q e off n y h
  | ptr o' off =>
    have hne : o' ≠ o := by simpa [SV.pts] using hp
    have := RS.ptr (P := P) (A := A') (E := E.addObj o b) (w := w') o' off
    rwa [Env.addObj_ne _ _ hne] at this
  | ea q e i j b' h => exact .ea q e i j b' h
  | ra c j vs ad hs h hm =>
    refine .ra c j vs ad hs (h.mono hg) (fun i v hv => ?_)
    obtain ⟨hA, hc⟩ := hm i v hv
    have hlt := World.block_lt_of_cell? w _ hc
    obtain ⟨hA', hb⟩ := hg _ hlt hA
    refine ⟨hA', ?_⟩
    rw [World.cell?_of_block (w := w) hb]
    exact hc
  | fn f caps vs hl h1 h ih =>
    refine .fn f caps vs hl h1 (fun i c v hc hv => ih i c v hc hv ?_)
    have h2 := List.all_eq_true.1 h1 c (List.mem_of_getElem? hc)
    simp only [SV.pts, List.any_eq_false] at hp
    have h3 := hp c (List.mem_of_getElem? hc)
    cases c <;> simp [SV.simple] at h2
    · rfl
    · simpa [SV.pts] using h3
  | agg cs vs hl h1 h ih => exact .agg cs vs hl h1 (fun i c v hc hv => ih i c v hc hv ((allPlain_pts h1 c (List.mem_of_getElem? hc)).1 o))
  | yl l => exact .yl l
  | lit xs g cur e fr h1 h2 h3 =>
    have hlt := (Array.getElem?_eq_some_iff.1 h2).1
    obtain ⟨a1, a2⟩ := hg _ hlt h1
    exact .lit xs g cur e fr a1 (by rw [a2]; exact h2) (h3.mono hg)
  | os o' off n cap hc =>
    have hne : o' ≠ o := by simpa [SV.pts] using hp
    have := RS.os (P := P) (A := A') (E := E.addObj o b) (w := w') o' off n cap hc
    rwa [Env.addObj_ne _ _ hne] at this
  | mp o' =>
    have hne : o' ≠ o := by simpa [SV.pts] using hp
    have := RS.mp (P := P) (A := A') (E := E.addObj o b) (w := w') o'
    rwa [Env.addObj_ne _ _ hne] at this

def HO.list : HO → List SV
  | .cells _ cs => cs
  | .mp _ => []
theorem at_cell (s : St) (o i : Nat) : s.at (.cell o i) = match look o s.hp with | some h => h.list[i]? | none => none := by
  simp only [St.at]
  cases look o s.hp with
  | none => rfl
  | some h => cases h <;> simp [HO.list]

theorem RS.pvalEasy {A : Nat → Prop} {p : Place} {v : SV} {x : Value} (he : v.easy = true) (h : v = .dead ∨ RS P A E w v x) : PVal P A E w p v x := by
  rcases h with rfl | h
  · trivial
  · cases v <;> first | exact h | exact trivial | (simp [SV.easy] at he; done)

/-- A new object. -/
theorem Rel.newObj (h : Rel P O0 w0 F s E tmps w) {d : Nat} (hl : look d s.hp = none) (hh : HO) (ob : Obj) (hok : HOK P (fun b => (E.om b ∨ b = w.heap.size) ∨ F b) (E.addObj d w.heap.size) (w.alloc ob) d hh)
    (hc : ∀ (i : Nat) (c : SV), hh.list[i]? = some c → c.easy = true ∧ (∃ v, (w.alloc ob).cell? ⟨w.heap.size, i, none⟩ = some v ∧ (c = .dead ∨ RS P (fun b => E.om b ∨ F b) E w c v)) ∧ (∀ q, c.on q = false) ∧ ∀ o, c.pts o = true → ∃ y, look o s.hp = some y) :
    Rel P O0 w0 F ⟨s.n, s.sl, (d, hh) :: s.hp⟩ (E.addObj d w.heap.size) tmps (w.alloc ob) := by
  have hA : ∀ b, b < w.heap.size → ¬ (E.om b ∨ F b) → ¬ ((E.om b ∨ b = w.heap.size) ∨ F b) ∧ (w.alloc ob).heap[b]? = w.heap[b]? := by
    intro b hb hn
    refine ⟨?_, heap_alloc_old w ob hb⟩
    rintro ((h3 | h3) | h3)
    · exact hn (.inl h3)
    · omega
    · exact hn (.inr h3)
  have hnew : ∀ v : SV, (∀ o, v.pts o = true → ∃ y, look o s.hp = some y) → v.pts d = false := by
    intro v hv
    cases hp : v.pts d with
    | false => rfl
    | true =>
      obtain ⟨y, hy⟩ := hv d hp
      rw [hl] at hy
      cases hy
  have hat : ∀ p u, (St.mk s.n s.sl ((d, hh) :: s.hp)).at p = some u → (∃ i, p = .cell d i ∧ hh.list[i]? = some u) ∨ ((∀ i, p ≠ .cell d i) ∧ s.at p = some u) := by
    intro p u hp
    cases p with
    | slot d' => exact .inr ⟨by simp, hp⟩
    | part d' i => exact .inr ⟨by simp, hp⟩
    | cell o i =>
      rw [at_cell] at hp
      simp only [look] at hp
      split at hp
      · rename_i h' he
        split at he
        · rename_i e; subst e; cases he; exact .inl ⟨i, rfl, hp⟩
        · rename_i e; exact .inr ⟨by simpa using fun h => absurd h.symm e, by rw [at_cell, he]; exact hp⟩
      · cases hp
  have hlk : ∀ o y, look o ((d, hh) :: s.hp) = some y → (o = d ∧ y = hh) ∨ (o ≠ d ∧ look o s.hp = some y) := by
    intro o y hy
    simp only [look] at hy
    split at hy
    · rename_i e; subst e; cases hy; exact .inl ⟨rfl, rfl⟩
    · rename_i e; exact .inr ⟨fun h => e h.symm, hy⟩
  have hlk' : ∀ o y, look o s.hp = some y → look o ((d, hh) :: s.hp) = some y := by
    intro o y hy
    simp only [look]
    rw [if_neg (by rintro rfl; rw [hl] at hy; cases hy)]
    exact hy
  have hkeep : ∀ p u, s.at p = some u → (St.mk s.n s.sl ((d, hh) :: s.hp)).at p = some u := by
    intro p u hp
    cases p with
    | slot d' => exact hp
    | part d' i => exact hp
    | cell o i =>
      rw [at_cell] at hp ⊢
      split at hp
      · rename_i h' he
        rw [show look o (St.mk s.n s.sl ((d, hh) :: s.hp)).hp = some h' from hlk' o h' he]
        exact hp
      · cases hp
  have hsz : (w.alloc ob).heap.size = w.heap.size + 1 := by simp
  refine { place := ?_, obj := ?_, size := h.size, i1 := ?_, i2 := ?_, i3 := ?_, om_lt := ?_, om0 := ?_, na := ?_, np := ?_, gr := ?_, flt := h.flt, ob := ?_ }
  · intro p v hp
    rcases hat p v hp with ⟨i, rfl, hi⟩ | ⟨hne, hp'⟩
    · obtain ⟨h1, ⟨x, h2, h3⟩, h4, h5⟩ := hc i v hi
      refine ⟨x, by simp only [CV, Env.addObj_same]; exact h2, RS.pvalEasy h1 (h3.imp id fun h6 => h6.addObj hA (hnew v h5))⟩
    · obtain ⟨x, hx, hv⟩ := h.place p v hp'
      refine ⟨x, ?_, ?_⟩
      · cases p with
        | slot d' => exact hx
        | part d' i => exact hx
        | cell o i =>
          have hod : o ≠ d := by rintro rfl; exact hne i rfl
          simp only [CV, Env.addObj_ne _ _ hod] at hx ⊢
          have hlt := World.block_lt_of_cell? w _ hx
          exact (World.cell?_of_block (w := w) (a := ⟨E.obj o, i, none⟩) (heap_alloc_old w ob hlt)).trans hx
      · cases v <;> simp only [PVal] at hv ⊢
        case own e xs =>
          obtain ⟨h1, h2, h3⟩ := hv
          exact ⟨h1, h2.kept hA (fun b hb => heap_alloc_old w ob (h.om_lt b (h3 b hb)).1), fun b hb => .inl (h3 b hb)⟩
        case tup vs => exact hv
        all_goals exact hv.addObj hA (hnew _ (fun o ho => h.np p _ o hp' ho))
  · intro o y hy
    rcases hlk o y hy with ⟨rfl, rfl⟩ | ⟨hne, hy'⟩
    · refine ⟨.inr (Env.addObj_same _ _ _), hok⟩
    · obtain ⟨h1, h2⟩ := h.obj o y hy'
      refine ⟨?_, ?_⟩
      · rw [Env.addObj_ne _ _ hne]; exact .inl h1
      · have hb := heap_alloc_old w ob (h.om_lt _ h1).1
        cases y with
        | cells e cs =>
          obtain ⟨vs, h3, h4⟩ := h2
          exact ⟨vs, by rw [Env.addObj_ne _ _ hne]; exact hb.trans h3, h4⟩
        | mp es =>
          obtain ⟨ms, c, h3, h4, h5⟩ := h2
          exact ⟨ms, c, by rw [Env.addObj_ne _ _ hne]; exact hb.trans h3, h4, fun i kv m hk hm => ⟨(h5 i kv m hk hm).1.mono hA, (h5 i kv m hk hm).2.mono hA⟩⟩
  · intro o o' y y' hy hy' he
    rcases hlk o y hy with ⟨rfl, rfl⟩ | ⟨hne, h1⟩
    · rcases hlk o' y' hy' with ⟨rfl, _⟩ | ⟨hne', h2⟩
      · rfl
      · rw [Env.addObj_same, Env.addObj_ne _ _ hne'] at he
        have := (h.om_lt _ (h.obj o' y' h2).1).1
        omega
    · rcases hlk o' y' hy' with ⟨rfl, _⟩ | ⟨hne', h2⟩
      · rw [Env.addObj_same, Env.addObj_ne _ _ hne] at he
        have := (h.om_lt _ (h.obj o y h1).1).1
        omega
      · rw [Env.addObj_ne _ _ hne, Env.addObj_ne _ _ hne'] at he
        exact h.i1 o o' y y' h1 h2 he
  · intro p q e xs e' ys b hp hq hpb hqb
    rcases hat p _ hp with ⟨i, rfl, hi⟩ | ⟨_, hp'⟩
    · have := (hc i _ hi).1; simp [SV.easy] at this
    · rcases hat q _ hq with ⟨i, rfl, hi⟩ | ⟨_, hq'⟩
      · have := (hc i _ hi).1; simp [SV.easy] at this
      · exact h.i2 p q e xs e' ys b hp' hq' hpb hqb
  · intro p e xs o y b hp hy hpb
    rcases hat p _ hp with ⟨i, rfl, hi⟩ | ⟨_, hp'⟩
    · have := (hc i _ hi).1; simp [SV.easy] at this
    · rcases hlk o y hy with ⟨rfl, rfl⟩ | ⟨hne, h1⟩
      · rw [Env.addObj_same]
        obtain ⟨_, _, _, _, h3⟩ := h.place p _ hp'
        have := (h.om_lt b (h3 b hpb)).1
        omega
      · rw [Env.addObj_ne _ _ hne]
        exact h.i3 p e xs o y b hp' h1 hpb
  · rintro b (hb | hb)
    · have := h.om_lt b hb
      exact ⟨by rw [hsz]; omega, this.2⟩
    · subst hb
      exact ⟨by rw [hsz]; omega, fun hf => by have h1 := h.flt _ hf; have h2 := h.gr.size; omega⟩
  · rintro b (hb | hb)
    · exact h.om0 b hb
    · subst hb; exact .inr h.gr.size
  · intro p v q hp hq
    rcases hat p _ hp with ⟨i, rfl, hi⟩ | ⟨_, hp'⟩
    · rw [(hc i v hi).2.2.1 q] at hq; cases hq
    · obtain ⟨h1, ⟨e, xs, h2⟩, h3⟩ := h.na p v q hp' hq
      exact ⟨h1, ⟨e, xs, hkeep q _ h2⟩, h3⟩
  · intro p v o hp ho
    rcases hat p _ hp with ⟨i, rfl, hi⟩ | ⟨_, hp'⟩
    · obtain ⟨y, hy⟩ := (hc i v hi).2.2.2 o ho
      exact ⟨y, hlk' o y hy⟩
    · obtain ⟨y, hy⟩ := h.np p v o hp' ho
      exact ⟨y, hlk' o y hy⟩
  · exact h.gr.trans (Grow.alloc w ob) (by simp)
  · intro o k hok
    obtain ⟨h1, y, hy⟩ := h.ob o k hok
    have hne : o ≠ d := by rintro rfl; rw [hl] at hy; cases hy
    exact ⟨by rw [Env.addObj_ne _ _ hne]; exact h1, y, hlk' o y hy⟩
end
end Go.Ck

set_option linter.unusedVariables false
namespace Go.Ck
open Go.RowKit
section
variable {P : Program} {O0 : Base} {F : Nat → Prop} {w0 w : World} {s : St} {E : Env} {tmps : Array Value}
theorem del_own {p q : Place} {e e' : TypeId} {xs ys : List PV} {u : SV} (hp : s.at p = some u) (hu : u.isTup = false) (h : (del p s).at q = some (.own e' ys)) (hpk : ∃ u', (kill p s).at p = some u' ∧ u'.isTup = false) : q ≠ p ∧ s.at q = some (.own e' ys) := by
  obtain ⟨u', h1, h2⟩ := hpk
  unfold del at h
  rcases setAt_inv h1 h2 rfl h with ⟨_, h3⟩ | ⟨hne, h3⟩ | ⟨_, _, _, _, _, _, h3⟩
  · cases h3
  · exact ⟨hne, kill_own' p s h3⟩
  · cases h3

/-- The own list at p goes to q, where its header lies already. -/
theorem transfer_sound (h : Rel P O0 w0 F s E tmps w) {p q : Place} {e : TypeId} {xs : List PV} {u : SV} (hp : s.at p = some (.own e xs)) (hq : s.at q = some u) (hu : u = .dead) (hne : q ≠ p) (hcv : CV E tmps w q (E.hdr p)) (hqp : ∀ d i, q ≠ .part d i) :
    ∃ E', Rel P O0 w0 F (transfer p q e xs s) E' tmps w := by
  subst hu
  obtain ⟨h1, h2, h3, h4⟩ := h.take hp
  have hdq : (del p s).at q = some .dead := by
    unfold del
    refine setAt_keep (u := .own e xs) (kill_own p s hp) rfl ?_ hne rfl
    cases q with
    | slot d => simp only [St.at, Ck.kill, look_killL] at hq ⊢; simp [hq, SV.on]
    | part d i => exact absurd rfl (hqp d i)
    | cell o i => exact hq
  have hkq : (Ck.kill q (del p s)).at q = some .dead := by
    cases q with
    | slot d => simp only [St.at, Ck.kill, look_killL] at hdq ⊢; simp [hdq, SV.on]
    | part d i => exact absurd rfl (hqp d i)
    | cell o i => exact hdq
  have h5 := h4.kill q
  have h6 := h5.recast (v := .own e xs) (y := E.hdr p) (x := E.hdr p) hkq rfl rfl (h4.free_kill q) rfl (by cases q <;> exact hcv) (.inr rfl)
    (by simp only [PVal, Env.setHdr_same]; exact ⟨trivial, h2, fun b hb => (h3 b hb).1⟩) (by simp [SV.on])
    (fun _ b hb => ⟨(h3 b hb).1, fun o y hl => (h3 b hb).2.1 o y hl, fun r e' ys hr hrs => (h3 b hb).2.2 r e' ys (kill_own' q _ hrs)⟩) (by simp [SV.pts])
  unfold transfer
  simp only
  cases p with
  | part d i => exact ⟨_, h6⟩
  | cell o i => exact ⟨_, h6⟩
  | slot d =>
    simp only
    have hq6 : (setAt q (.own e xs) (Ck.kill q (del (.slot d) s))).at q = some (.own e xs) := setAt_same hkq
    have hdd : d < s.n := by
      rw [h.size]
      exact (Array.getElem?_eq_some_iff.1 h1).1
    have hn : (setAt q (.own e xs) (Ck.kill q (del (.slot d) s))).n = s.n := by
      rw [setAt_n]; show (del (.slot d) s).n = s.n; unfold del; rw [setAt_n]; rfl
    have hds : ∀ e' ys, (setAt q (.own e xs) (Ck.kill q (del (.slot d) s))).at (.slot d) ≠ some (.own e' ys) := by
      intro e' ys he
      rcases setAt_inv hkq rfl rfl he with ⟨h7, _⟩ | ⟨_, h7⟩ | ⟨_, _, _, _, _, _, h7⟩
      · exact hne h7.symm
      · have h8 := kill_own' q _ h7
        rw [del_at hp rfl ⟨e, xs, rfl⟩] at h8
        cases h8
      · cases h7
    have hx : tmps[d]? = some (E.hdr (.slot d)) := h1
    have hsame : tmps.setIfInBounds d (E.hdr (.slot d)) = tmps := by
      apply Array.ext_getElem?
      intro i
      rw [Array.getElem?_setIfInBounds]
      split
      · rename_i e; subst e
        split
        · exact hx.symm
        · rw [Array.getElem?_eq_none (by omega)]
      · rfl
    have hrs : RS P (fun b => (E.setHdr q (E.hdr (.slot d))).om b ∨ F b) (E.setHdr q (E.hdr (.slot d))) w (.al q) (E.hdr (.slot d)) := by
      have := RS.al (P := P) (A := fun b => (E.setHdr q (E.hdr (.slot d))).om b ∨ F b) (E := E.setHdr q (E.hdr (.slot d))) (w := w) q
      rwa [Env.setHdr_same] at this
    have h9 := h6.easySlot (d := d) (v := .al q) (x := E.hdr (.slot d)) (by rw [hn]; exact hdd) (h6.free_of hds) rfl (.inr hrs)
      (fun r hr => by
        have : q = r := by simpa [SV.on] using hr
        subst this
        exact ⟨hne, ⟨e, xs, hq6⟩, hqp⟩) (by simp [SV.pts])
    rw [hsame] at h9
    exact ⟨_, h9⟩
end
end Go.Ck

set_option linter.unusedVariables false
namespace Go.Ck
open Go.RowKit
section
variable {P : Program} {O0 : Base} {F : Nat → Prop} {w0 w : World} {s : St} {E : Env} {tmps : Array Value}
theorem RS.congr {A : Nat → Prop} {E' : Env} {v : SV} {y : Value} (ho : E'.obj = E.obj) (h : RS P A E w v y) (hh : ∀ q, v.on q = true → E'.hdr q = E.hdr q) : RS P A E' w v y := by
  induction h with
  | pv q y h => exact .pv q y h
  | nils => exact .nils
  | al q => rw [← hh q (by simp [SV.on])]; exact .al q
  | vw q e off n y h => exact .vw q e off n y (by rw [hh q (by simp [SV.on])]; exact h)
  | ptr o off => rw [← ho]; exact .ptr o off
  | ea q e i j b h => exact .ea q e i j b (by rw [hh q (by simp [SV.on])]; exact h)
  | ra c j vs ad hs h hm => exact .ra c j vs ad hs h hm
  | fn f caps vs hl h1 h ih =>
    refine .fn f caps vs hl h1 (fun i c v hc hv => ih i c v hc hv (fun q hq => ?_))
    have h2 := List.all_eq_true.1 h1 c (List.mem_of_getElem? hc)
    cases c <;> simp [SV.simple] at h2 <;> simp [SV.on] at hq
  | agg cs vs hl h1 h ih =>
    refine .agg cs vs hl h1 (fun i c v hc hv => ih i c v hc hv (fun q hq => ?_))
    rw [(allPlain_pts h1 c (List.mem_of_getElem? hc)).2.1 q] at hq; cases hq
  | mp o => rw [← ho]; exact .mp o
  | yl l => exact .yl l
  | os o off n cap hc => rw [← ho]; exact .os o off n cap hc
  | lit xs g cur e fr h1 h2 h3 => exact .lit xs g cur e fr h1 h2 h3

theorem PVal.congr {A : Nat → Prop} {E' : Env} {p : Place} {v : SV} {y : Value} (ho : E'.obj = E.obj) (hom : E'.om = E.om) (h : PVal P A E w p v y) (hh : ∀ q, v.on q = true → E'.hdr q = E.hdr q) (hp : E'.hdr p = E.hdr p) : PVal P A E' w p v y := by
  cases v <;> simp only [PVal] at h ⊢
  case own e xs => rw [hp, hom]; exact h
  case tup vs => exact h
  all_goals exact h.congr ho hh

/-- A tuple goes from one slot to another. -/
theorem Rel.moveTup (h : Rel P O0 w0 F s E tmps w) {t d : Nat} {vs : List SV} {x : Value} (hl : look t s.sl = some (.tup vs)) (hne : t ≠ d) (hd : d < s.n) (hf : Free (.slot d) s) (hx : tmps[t]? = some x) :
    ∃ E', Rel P O0 w0 F (setSlot d (.tup vs) (setSlot t .dead s)) E' (tmps.setIfInBounds d x) w := by
  have hsz : d < tmps.size := by rw [← h.size]; exact hd
  let H : Place → Value := fun q => match q with | .part d' i => if d' = d then E.hdr (.part t i) else E.hdr q | q => E.hdr q
  have hHs : ∀ d', H (.slot d') = E.hdr (.slot d') := fun _ => rfl
  have hHp : ∀ i, H (.part d i) = E.hdr (.part t i) := fun i => by simp [H]
  have hHq : ∀ d' i, d' ≠ d → H (.part d' i) = E.hdr (.part d' i) := fun d' i hn => by simp [H, hn]
  have hHc : ∀ o i, H (.cell o i) = E.hdr (.cell o i) := fun _ _ => rfl
  have hHn : ∀ q, (∀ i j, q ≠ .part i j) → H q = E.hdr q := by
    intro q hq
    cases q with
    | slot d' => rfl
    | part d' i => exact absurd rfl (hq d' i)
    | cell o i => rfl
  have hat : ∀ p u, (setSlot d (.tup vs) (setSlot t .dead s)).at p = some u → (p = .slot d ∧ u = .tup vs) ∨ (p = .slot t ∧ u = .dead) ∨ (∃ i, p = .part d i ∧ vs[i]? = some u) ∨ (p ≠ .slot d ∧ p ≠ .slot t ∧ (∀ i, p ≠ .part d i) ∧ (∀ i, p ≠ .part t i) ∧ s.at p = some u) := by
    intro p u hp
    rw [at_setSlot] at hp
    cases p with
    | slot d' =>
      simp only at hp
      split at hp
      · rename_i e; subst e; simp at hp; exact .inl ⟨rfl, hp.symm⟩
      · rename_i e
        rw [at_setSlot] at hp
        simp only at hp
        split at hp
        · rename_i e'; subst e'; simp at hp; exact .inr (.inl ⟨rfl, hp.symm⟩)
        · rename_i e'; exact .inr (.inr (.inr ⟨by simpa using fun h => e h.symm, by simpa using fun h => e' h.symm, by simp, by simp, hp⟩))
    | part d' i =>
      simp only at hp
      split at hp
      · rename_i e; subst e; exact .inr (.inr (.inl ⟨i, rfl, hp⟩))
      · rename_i e
        rw [at_setSlot] at hp
        simp only at hp
        split at hp
        · cases hp
        · rename_i e'; exact .inr (.inr (.inr ⟨by simp, by simp, fun i => by simpa using fun h => absurd h.symm e, fun i => by simpa using fun h => absurd h.symm e', hp⟩))
    | cell o i =>
      rw [at_setSlot] at hp
      exact .inr (.inr (.inr ⟨by simp, by simp, by simp, by simp, hp⟩))
  have hpt : ∀ {i u}, vs[i]? = some u → s.at (.part t i) = some u := by
    intro i u hu; simp [St.at, hl, hu]
  have hkeep : ∀ q e xs, q ≠ .slot d → (∀ i j, q ≠ .part i j) → s.at q = some (.own e xs) → (setSlot d (.tup vs) (setSlot t .dead s)).at q = some (.own e xs) := by
    intro q e xs h1 h2 h3
    rw [at_setSlot]
    cases q with
    | slot d' =>
      simp only
      rw [if_neg (by rintro rfl; exact h1 rfl), at_setSlot]
      simp only
      split
      · rename_i e'; subst e'
        simp only [St.at] at h3
        rw [hl] at h3; cases h3
      · exact h3
    | part d' i => exact absurd rfl (h2 d' i)
    | cell o i => simp only; rw [at_setSlot]; exact h3
  have hown : ∀ p e xs, (setSlot d (.tup vs) (setSlot t .dead s)).at p = some (.own e xs) → ∃ p', s.at p' = some (.own e xs) ∧ H p = E.hdr p' ∧ ((p = p' ∧ (∀ i, p ≠ .part d i) ∧ ∀ i, p ≠ .part t i) ∨ ∃ i, p = .part d i ∧ p' = .part t i) := by
    intro p e xs hp
    rcases hat p _ hp with ⟨_, h1⟩ | ⟨_, h1⟩ | ⟨i, rfl, h1⟩ | ⟨h1, h2, h3, h4, h5⟩
    · cases h1
    · cases h1
    · exact ⟨_, hpt h1, hHp i, .inr ⟨i, rfl, rfl⟩⟩
    · refine ⟨p, h5, ?_, .inl ⟨rfl, h3, h4⟩⟩
      cases p with
      | slot d' => rfl
      | part d' i => exact hHq d' i (by rintro rfl; exact h3 i rfl)
      | cell o i => rfl
  refine ⟨{ E with hdr := H }, { place := ?_, obj := ?_, size := by simp [Ck.setSlot, h.size], i1 := h.i1, i2 := ?_, i3 := ?_, om_lt := h.om_lt, om0 := h.om0, na := ?_, np := ?_, gr := h.gr, flt := h.flt, ob := h.ob }⟩
  · intro p v hp
    rcases hat p v hp with ⟨rfl, rfl⟩ | ⟨rfl, rfl⟩ | ⟨i, rfl, h1⟩ | ⟨h1, h2, h3, h4, h5⟩
    · obtain ⟨x', hx', hv⟩ := h.place (.slot t) _ hl
      refine ⟨x, by simp [CV, hsz], ?_⟩
      have : x' = x := by simp only [CV] at hx'; rw [hx] at hx'; exact (Option.some.inj hx').symm
      subst this
      exact hv
    · obtain ⟨x', hx', hv⟩ := h.place (.slot t) _ hl
      exact ⟨x', by simp only [CV] at hx' ⊢; rw [Array.getElem?_setIfInBounds_ne (Ne.symm hne)]; exact hx', trivial⟩
    · obtain ⟨x', hx', hv⟩ := h.place _ _ (hpt h1)
      refine ⟨x', ?_, ?_⟩
      · simp only [CV] at hx' ⊢
        obtain ⟨us, h6, h7⟩ := hx'
        rw [hx] at h6
        cases h6
        exact ⟨us, by simp [hsz], h7⟩
      · have hon : ∀ q, v.on q = true → H q = E.hdr q := fun q hq => hHn q (h.na _ v q (hpt h1) hq).2.2
        cases v <;> simp only [PVal] at hv ⊢
        case own e xs => rw [hHp]; exact hv
        case tup us => exact hv
        all_goals exact RS.congr (E := E) rfl hv hon
    · obtain ⟨x', hx', hv⟩ := h.place p v h5
      refine ⟨x', ?_, ?_⟩
      · cases p with
        | slot d' => simp only [CV] at hx' ⊢; rw [Array.getElem?_setIfInBounds_ne (by rintro rfl; exact h1 rfl)]; exact hx'
        | part d' i =>
          simp only [CV] at hx' ⊢
          obtain ⟨us, h6, h7⟩ := hx'
          exact ⟨us, by rw [Array.getElem?_setIfInBounds_ne (by rintro rfl; exact h3 i rfl)]; exact h6, h7⟩
        | cell o i => exact hx'
      · refine PVal.congr (E := E) (E' := { E with hdr := H }) rfl rfl hv (fun q hq => hHn q (h.na _ v q h5 hq).2.2) ?_
        cases p with
        | slot d' => rfl
        | part d' i => exact hHq d' i (by rintro rfl; exact h3 i rfl)
        | cell o i => rfl
  · intro o y hy
    obtain ⟨h1, h2⟩ := h.obj o y hy
    refine ⟨h1, ?_⟩
    cases y <;> exact h2
  · intro p q e xs e' ys b hp hq hpb hqb
    obtain ⟨p', h1, h2, h3⟩ := hown p e xs hp
    obtain ⟨q', h4, h5, h6⟩ := hown q e' ys hq
    simp only at hpb hqb
    rw [h2] at hpb
    rw [h5] at hqb
    have heq := h.i2 p' q' e xs e' ys b h1 h4 hpb hqb
    subst heq
    rcases h3 with ⟨rfl, k1, k2⟩ | ⟨i, rfl, rfl⟩
    · rcases h6 with ⟨rfl, _⟩ | ⟨j, rfl, k3⟩
      · rfl
      · exact absurd k3 (k2 j)
    · rcases h6 with ⟨k3, _, k4⟩ | ⟨j, rfl, k3⟩
      · exact absurd k3 (k4 i)
      · cases k3; rfl
  · intro p e xs o y b hp hy hpb
    obtain ⟨p', h1, h2, h3⟩ := hown p e xs hp
    simp only at hpb
    rw [h2] at hpb
    exact h.i3 p' e xs o y b h1 hy hpb
  · intro p v q hp hq
    have key : ∀ p', s.at p' = some v → ((∃ d, p' = .slot d) ∧ (∃ e xs, (setSlot d (.tup vs) (setSlot t .dead s)).at q = some (.own e xs)) ∧ ∀ d i, q ≠ .part d i) := by
      intro p' hp'
      obtain ⟨h6, ⟨e, xs, h7⟩, h8⟩ := h.na p' v q hp' hq
      refine ⟨h6, ⟨e, xs, hkeep q e xs ?_ h8 h7⟩, h8⟩
      rintro rfl
      rw [hf p' v hp'] at hq
      cases hq
    rcases hat p v hp with ⟨rfl, rfl⟩ | ⟨rfl, rfl⟩ | ⟨i, rfl, h1⟩ | ⟨h1, h2, h3, h4, h5⟩
    · simp [SV.on] at hq
    · simp [SV.on] at hq
    · obtain ⟨⟨d', h6⟩, _⟩ := key _ (hpt h1)
      cases h6
    · exact key p h5
  · intro p v o hp ho
    rcases hat p v hp with ⟨rfl, rfl⟩ | ⟨rfl, rfl⟩ | ⟨i, rfl, h1⟩ | ⟨h1, h2, h3, h4, h5⟩
    · simp [SV.pts] at ho
    · simp [SV.pts] at ho
    · exact h.np _ v o (hpt h1) ho
    · exact h.np p v o h5 ho
end
end Go.Ck

set_option linter.unusedVariables false
namespace Go.Ck
open Go.RowKit
section
variable {P : Program} {O0 : Base} {F : Nat → Prop} {w0 w : World} {s : St} {E : Env} {tmps : Array Value}
theorem put_hp (d : Nat) (v : SV) (s : St) : (put d v s).hp = s.hp := by
  unfold put; split
  · show (Ck.clear d s).hp = s.hp; exact clear_hp d s
  · rfl
theorem put_own {d : Nat} {v : SV} {p : Place} {e : TypeId} {xs : List PV} (hne : p ≠ .slot d) (hnp : ∀ i, p ≠ .part d i) (h : s.at p = some (.own e xs)) : (put d v s).at p = some (.own e xs) := by
  unfold put; split
  · rw [at_setSlot]
    have := clear_own d s h
    cases p with
    | slot d' => simp only; rw [if_neg (by rintro rfl; exact hne rfl)]; exact this
    | part d' i => simp only; rw [if_neg (by rintro rfl; exact hnp i rfl)]; exact this
    | cell o i => exact this
  · exact h

theorem Rel.putDead (h : Rel P O0 w0 F s E tmps w) (d : Nat) (x : Value) : Rel P O0 w0 F (put d .dead s) E (tmps.setIfInBounds d x) w := by
  unfold put
  split
  · rename_i hd
    obtain ⟨hc, hf⟩ := h.clear d
    simp only [SV.on, Bool.false_eq_true, if_false]
    exact hc.setDead x (by rw [clear_n]; exact hd) hf
  · rename_i hd
    rw [Array.setIfInBounds_eq_of_size_le (by rw [← h.size]; omega)]
    exact h

theorem newObj_sound (h : Rel P O0 w0 F s E tmps w) {d : Nat} {t : TypeId} {cs : List SV} {s' : St} (hn : newObj d (.cells t cs) s = some s') (vs : Array Value) (hsz : vs.size = cs.length)
    (hc : ∀ (i : Nat) (c : SV), cs[i]? = some c → c.easy = true ∧ oneSV c = true ∧ (∀ v, vs[i]? = some v → c = .dead ∨ RS P (fun b => E.om b ∨ F b) E w c v) ∧ (∀ q, c.on q = false) ∧ ∀ o, c.pts o = true → ∃ y, look o s.hp = some y) :
    ∃ E', E'.hdr = E.hdr ∧ E'.obj d = w.heap.size ∧ s' = put d (.ptr d 0) ⟨s.n, s.sl, (d, .cells t cs) :: s.hp⟩ ∧ Rel P O0 w0 F s' E' (tmps.setIfInBounds d (.pointer (some ⟨w.heap.size, 0, none⟩))) (w.alloc (.cells vs t)) := by
  unfold newObj at hn
  split at hn <;> cases hn
  rename_i hl
  have h1 := h.newObj hl (.cells t cs) (.cells vs t) ⟨vs, by rw [Env.addObj_same]; exact heap_alloc_new w _, hsz, fun c hc' => by
      obtain ⟨i, hi, he⟩ := List.mem_iff_getElem.1 hc'
      exact (hc i c (by rw [← he]; exact List.getElem?_eq_getElem hi)).2.1⟩
    (fun i c hic => by
      obtain ⟨k1, k2, k3, k4, k5⟩ := hc i c hic
      have hi : i < vs.size := by rw [hsz]; exact (List.getElem?_eq_some_iff.1 hic).1
      refine ⟨k1, ⟨vs[i], ?_, k3 _ (Array.getElem?_eq_getElem hi)⟩, k4, k5⟩
      have := World.cell?_alloc_new w vs t i
      rw [this]; exact Array.getElem?_eq_getElem hi)
  refine ⟨_, ?_, ?_, rfl, h1.putGood d ⟨rfl, by simp [SV.on], fun o ho => ?_⟩ ?_⟩
  · rfl
  · exact Env.addObj_same _ _ _
  · have : d = o := by simpa [SV.pts] using ho
    subst this
    exact ⟨.cells t cs, by simp [look]⟩
  · have := RS.ptr (P := P) (A := fun b => (E.addObj d w.heap.size).om b ∨ F b) (E := E.addObj d w.heap.size) (w := w.alloc (.cells vs t)) d 0
    rwa [Env.addObj_same] at this

theorem ofConsts_get {vs : List Value} {cs : List SV} (h : ofConsts vs = some cs) : vs.length = cs.length ∧ ∀ (i : Nat) (c : SV) (v : Value), cs[i]? = some c → vs[i]? = some v → ofConst v = some c := by
  induction vs generalizing cs with
  | nil => cases h; simp
  | cons v r ih =>
    unfold ofConsts at h
    split at h
    · rename_i x xs hx hxs
      cases h
      obtain ⟨h1, h2⟩ := ih hxs
      refine ⟨by simp [h1], fun i c v' hc hv => ?_⟩
      cases i with
      | zero => simp at hc hv; subst hc; subst hv; exact hx
      | succ i => exact h2 i c v' (by simpa using hc) (by simpa using hv)
    · cases h
theorem zcs_sound {t : TypeId} {cs : List SV} (h : zcs P t = some cs) : ∃ i z, P.info? t = some i ∧ i.zero = some z ∧ z.cells.size = i.size ∧ z.cells.size = cs.length ∧ ∀ (j : Nat) (c : SV) (v : Value), cs[j]? = some c → z.cells[j]? = some v → ofConst v = some c := by
  unfold zcs at h
  split at h
  · rename_i i hi
    split at h
    · rename_i z hz
      split at h
      · rename_i hs
        obtain ⟨h1, h2⟩ := ofConsts_get h
        exact ⟨i, z, hi, hz, hs, by simpa using h1, fun j c v hc hv => h2 j c v hc (by simpa using hv)⟩
      · cases h
    · cases h
  · cases h

theorem run_newVar (w : World) (t : TypeId) (v : Value) : (newVar t v).run P w = .ok ⟨w.heap.size, 0, none⟩ (w.alloc (.cells v.cells t)) := by
  simp [newVar, newRow]

/-- new(T) -/
theorem alloc_sound (h : Rel P O0 w0 F s E tmps w) {d : Nat} {t : TypeId} {cs : List SV} {s' : St} (hz : zcs P t = some cs) (hn : newObj d (.cells t cs) s = some s') :
    ∃ v w' E', (Instr.alloc t true (.tuple #[])).run P w = .ok v w' ∧ Rel P O0 w0 F s' E' (tmps.setIfInBounds d v) w' := by
  obtain ⟨i, z, hi, hiz, hs, hl, hc⟩ := zcs_sound hz
  obtain ⟨E', _, _, _, hE⟩ := newObj_sound h hn z.cells hl (fun j c hj => by
    have hlt : j < z.cells.size := by rw [hl]; exact (List.getElem?_eq_some_iff.1 hj).1
    have h1 := hc j c _ hj (Array.getElem?_eq_getElem hlt)
    obtain ⟨g1, g2, g3, g4, g5⟩ := ofConst_good (s := s) h1
    exact ⟨g1.1, g3, fun v hv => .inr (RS.ofConst (hc j c v hj hv)), g4, fun o ho => by rw [g5 o] at ho; cases ho⟩)
  refine ⟨_, _, E', ?_, hE⟩
  simp [Instr.alloc, zeroValue, typeInfo, hi, hiz, run_newVar]

/-- A variable with a first value. -/
theorem box_sound (h : Rel P O0 w0 F s E tmps w) {d : Nat} {t : TypeId} {cs : List SV} {s' : St} (x : Value) (hn : newObj d (.cells t cs) s = some s') (hsz : x.cells.size = cs.length)
    (hc : ∀ (i : Nat) (c : SV), cs[i]? = some c → c.easy = true ∧ oneSV c = true ∧ (∀ v, x.cells[i]? = some v → c = .dead ∨ RS P (fun b => E.om b ∨ F b) E w c v) ∧ (∀ q, c.on q = false) ∧ ∀ o, c.pts o = true → ∃ y, look o s.hp = some y) :
    ∃ v w' E', (Instr.box t x).run P w = .ok v w' ∧ Rel P O0 w0 F s' E' (tmps.setIfInBounds d v) w' := by
  obtain ⟨E', _, _, _, hE⟩ := newObj_sound h hn x.cells hsz hc
  exact ⟨_, _, E', by simp [Instr.box, run_newVar], hE⟩
theorem box_one (h : Rel P O0 w0 F s E tmps w) {d : Nat} {t : TypeId} {c : SV} {s' : St} (x : Value) (hn : newObj d (.cells t [c]) s = some s') (hx : x.cells = #[x]) (hg : Good s c) (h1 : oneSV c = true) (hon : ∀ q, c.on q = false) (hr : RS P (fun b => E.om b ∨ F b) E w c x) :
    ∃ v w' E', (Instr.box t x).run P w = .ok v w' ∧ Rel P O0 w0 F s' E' (tmps.setIfInBounds d v) w' := by
  refine box_sound h x hn (by rw [hx]; rfl) (fun i c' hi => ?_)
  cases i with
  | zero =>
    simp at hi
    subst hi
    exact ⟨hg.1, h1, fun v hv => by rw [hx] at hv; simp at hv; subst hv; exact .inr hr, hon, hg.2.2⟩
  | succ i => simp at hi
theorem box_own (h : Rel P O0 w0 F s E tmps w) {d : Nat} {t : TypeId} {p : Place} {e : TypeId} {xs : List PV} {s' : St} (hp : s.at p = some (.own e xs)) (hpn : ∀ d i, p ≠ .part d i) (hd : p ≠ .slot d) (hn : newObj d (.cells t [.dead]) s = some s') :
    ∃ v w' E', (Instr.box t (E.hdr p)).run P w = .ok v w' ∧ Rel P O0 w0 F (transfer p (.cell d 0) e xs s') E' (tmps.setIfInBounds d v) w' := by
  obtain ⟨a, cap, hx, _⟩ := (h.own hp).form
  have hx1 : (E.hdr p).cells = #[E.hdr p] := by rw [hx]; rfl
  obtain ⟨E', h1, h2, h3, hE⟩ := newObj_sound h hn (E.hdr p).cells (by rw [hx1]; rfl) (fun i c' hi => by
    cases i with
    | zero => simp at hi; subst hi; exact ⟨rfl, rfl, fun _ _ => .inl rfl, fun _ => rfl, fun o ho => by simp [SV.pts] at ho⟩
    | succ i => simp at hi)
  have hl : look d s.hp = none := by
    unfold Ck.newObj at hn
    split at hn
    · assumption
    · cases hn
  have hpc : ∀ i, p ≠ .cell d i := by
    rintro i rfl
    rw [at_cell, hl] at hp
    cases hp
  have hp' : s'.at p = some (.own e xs) := by
    rw [h3]
    refine put_own hd (fun i => hpn d i) ?_
    cases p with
    | slot d' => exact hp
    | part d' i => exact hp
    | cell o i =>
      rw [at_cell] at hp ⊢
      simp only [look]
      rw [if_neg (by rintro rfl; exact hpc i rfl)]
      exact hp
  have hq : s'.at (.cell d 0) = some .dead := by
    rw [h3, at_cell, put_hp]
    simp [look, HO.list]
  obtain ⟨E2, hE2⟩ := transfer_sound hE (q := .cell d 0) hp' hq rfl (fun h4 => hpc 0 h4.symm) (by
    simp only [CV, h2, h1]
    rw [hx1]
    have := World.cell?_alloc_new w #[E.hdr p] t 0
    rw [this]; rfl) (by simp)
  exact ⟨_, _, E2, by simp [Instr.box, run_newVar], hE2⟩
end
end Go.Ck

set_option linter.unusedVariables false
namespace Go.Ck
open Go.RowKit
def CP (A : Nat → Prop) (w : World) (c : SV) (v : Value) : Prop := match c with
  | .pv p => p.one = true ∧ RO A w p v
  | .nils => v = .slice none 0 0
  | _ => False
def CPs (A : Nat → Prop) (w : World) (cs : List SV) (vs : List Value) : Prop :=
  vs.length = cs.length ∧ ∀ (i : Nat) (c : SV) (v : Value), cs[i]? = some c → vs[i]? = some v → CP A w c v

section
variable {A A' : Nat → Prop} {w : World}
theorem CP.sub (h : ∀ b, ¬ A b → ¬ A' b) {c : SV} {v : Value} (hr : CP A w c v) : CP A' w c v := by
  cases c <;> simp only [CP] at hr ⊢
  · exact ⟨hr.1, hr.2.sub h⟩
  · exact hr
theorem CPs.sub (h : ∀ b, ¬ A b → ¬ A' b) {cs : List SV} {vs : List Value} (hr : CPs A w cs vs) : CPs A' w cs vs :=
  ⟨hr.1, fun i c v hc hv => (hr.2 i c v hc hv).sub h⟩
theorem CPs.append {cs ds : List SV} {vs us : List Value} (h : CPs A w cs vs) (k : CPs A w ds us) : CPs A w (cs ++ ds) (vs ++ us) := by
  refine ⟨by simp [h.1, k.1], fun i c v hc hv => ?_⟩
  by_cases hi : i < cs.length
  · rw [List.getElem?_append_left hi] at hc
    rw [List.getElem?_append_left (by rw [h.1]; exact hi)] at hv
    exact h.2 i c v hc hv
  · rw [List.getElem?_append_right (by omega)] at hc
    rw [List.getElem?_append_right (by rw [h.1]; omega), h.1] at hv
    exact k.2 _ c v hc hv
theorem CPs.drop {cs : List SV} {vs : List Value} (h : CPs A w cs vs) (n : Nat) : CPs A w (cs.drop n) (vs.drop n) := by
  refine ⟨by simp [h.1], fun i c v hc hv => ?_⟩
  rw [List.getElem?_drop] at hc hv
  exact h.2 _ c v hc hv
theorem CPs.take {cs : List SV} {vs : List Value} (h : CPs A w cs vs) (n : Nat) : CPs A w (cs.take n) (vs.take n) := by
  refine ⟨by simp [h.1], fun i c v hc hv => ?_⟩
  rw [List.getElem?_take] at hc hv
  split at hc
  · rename_i hi
    rw [if_pos hi] at hv
    exact h.2 _ c v hc hv
  · cases hc
theorem CPs.ofROs {ps : List PV} {vs : List Value} (h : ROs A w ps vs) : CPs A w (ps.map .pv) vs := by
  refine ⟨by simp [h.1], fun i c v hc hv => ?_⟩
  rw [List.getElem?_map, Option.map_eq_some_iff] at hc
  obtain ⟨p, hp, rfl⟩ := hc
  exact ⟨h.2.1 p (List.mem_of_getElem? hp), h.2.2 i p v hp hv⟩
theorem CPs.plain {cs : List SV} {vs : List Value} (h : CPs A w cs vs) : allPlain cs = true := by
  induction cs generalizing vs with
  | nil => rfl
  | cons c r ih =>
    cases vs with
    | nil => have := h.1; simp at this
    | cons v vs =>
      have h0 := h.2 0 c v rfl rfl
      have h1 := ih (vs := vs) ⟨by have := h.1; simpa using this, fun i c' v' hc hv => h.2 (i + 1) c' v' (by simpa using hc) (by simpa using hv)⟩
      cases c <;> simp only [CP] at h0
      · simp [allPlain, h0.1, h1]
      · simp [allPlain, h1]
theorem CP.rs {P : Program} {E : Env} {c : SV} {v : Value} (h : CP A w c v) : RS P A E w c v := by
  cases c <;> simp only [CP] at h
  · exact .pv _ _ h.2
  · subst h; exact .nils
theorem CP.ofRS {P : Program} {E : Env} {cs : List SV} (hp : allPlain cs = true) {c : SV} (hc : c ∈ cs) {v : Value} (h : RS P A E w c v) : CP A w c v := by
  induction cs with
  | nil => cases hc
  | cons d r ih =>
    cases d <;> simp [allPlain] at hp
    · rcases List.mem_cons.1 hc with rfl | hc
      · cases h with | pv _ _ h => exact ⟨hp.1, h⟩
      · exact ih hp.2 hc
    · rcases List.mem_cons.1 hc with rfl | hc
      · cases h; rfl
      · exact ih hp hc

section
variable {P : Program} {O0 : Base} {F : Nat → Prop} {w0 : World} {s : St} {E : Env} {a : Act}
theorem ofConst_cp {c : Value} {v : SV} (h : ofConst c = some v) : CP A w v c := by
  unfold ofConst at h
  split at h <;> cases h
  · exact ⟨rfl, .int _ _⟩
  · exact ⟨rfl, .bool _⟩
  · rename_i l
    have : (⟨l.data.toList.toArray⟩ : ByteArray) = l := by simp
    exact ⟨rfl, by rw [← this]; simpa using RO.str (A := A) (w := w) l.data.toList⟩
  · rfl
  · exact ⟨rfl, .nilp⟩
  · exact ⟨rfl, .nilf⟩
  · exact ⟨rfl, .nili⟩

theorem partCells_sound (h : Rel P O0 w0 F s E a.tmps w) {v : SV} {x : Value} {new : List SV} {s' : St} (hf : partCells P s v = some (new, s')) (hr : RS P (fun b => E.om b ∨ F b) E w v x) :
    ∃ E', (∀ b, E'.om b → E.om b) ∧ Rel P O0 w0 F s' E' a.tmps w ∧ CPs (fun b => E'.om b ∨ F b) w new x.cells.toList := by
  unfold partCells at hf
  split at hf
  · rename_i cs
    cases hf
    cases hr with | agg _ vs hl h1 h2 => ?_
    refine ⟨E, fun _ hb => hb, h, by simpa [Value.cells] using hl, fun i c v hc hv => CP.ofRS h1 (List.mem_of_getElem? hc) (h2 i c v hc (by simpa [Value.cells] using hv))⟩
  · cases hf
    cases hr
    refine ⟨E, fun _ hb => hb, h, rfl, fun i c v hc hv => ?_⟩
    cases i with
    | zero => simp [Value.cells] at hc hv; subst hc; subst hv; rfl
    | succ i => simp at hc
  · split at hf
    · rename_i p s1 hfr
      cases hf
      obtain ⟨E1, h1, h2, h3⟩ := freeze_sound h hfr hr
      exact ⟨E1, h1, h2, CPs.ofROs h3.cellsROs⟩
    · cases hf

theorem fillParts_sound {fs : List (Nat × Nat × Bool)} {place : Nat → Option (Nat × Nat)} (hpl : ∀ i f, fs[i]? = some f → place i = some (f.1, f.2.1)) : ∀ (ps : List (Nat × Operand)) {cs : List SV} {s : St} {E : Env} {cells : Array Value} {cs' : List SV} {s' : St}, Rel P O0 w0 F s E a.tmps w → fillParts P fs ps cs s = some (cs', s') →
    CPs (fun b => E.om b ∨ F b) w cs cells.toList →
    ∃ E' cells', Instr.fill place cells (ps.map fun (i, x) => (i, a.eval x)) = some cells' ∧ Rel P O0 w0 F s' E' a.tmps w ∧ CPs (fun b => E'.om b ∨ F b) w cs' cells'.toList
  | [], cs, s, E, cells, cs', s', h, hf, hr => by
    cases hf
    exact ⟨E, cells, rfl, h, hr⟩
  | (i, x) :: r, cs, s, E, cells, cs', s', h, hf, hr => by
    unfold fillParts at hf
    split at hf
    · rename_i fo fz fa v hfs hv
      split at hf
      · rename_i new s1 hfr
        split at hf
        · rename_i hc
          obtain ⟨E1, hom, h1, hro⟩ := partCells_sound h hfr (ev_rs h hv)
          have hlen : cells.size = cs.length := by simpa using hr.1
          have hsub : ∀ b, ¬ (E.om b ∨ F b) → ¬ (E1.om b ∨ F b) := fun b hn h6 => hn (h6.imp (hom b) id)
          have hxl : (a.eval x).cells.size = fz := by have := hro.1; simp only [Array.length_toList] at this; rw [this, hc.1]
          obtain ⟨cells1, e1, e2⟩ := fill_cons (place := place) (cells := cells) (i := i) (off := fo) (size := fz) (v := a.eval x) (rest := r.map fun (i, x) => (i, a.eval x))
            (hpl _ _ hfs) hxl (by rw [hlen]; exact hc.2)
          have hr1 : CPs (fun b => E1.om b ∨ F b) w (setCells cs new fo) cells1.toList := by
            rw [e2, setCells, hc.1]
            exact (((hr.sub hsub).take _).append hro).append ((hr.sub hsub).drop _)
          obtain ⟨E2, cells2, f1, f2, f3⟩ := fillParts_sound hpl r h1 hf hr1
          exact ⟨E2, cells2, by rw [List.map_cons]; exact e1.trans f1, f2, f3⟩
        · cases hf
      · cases hf
    · cases hf

theorem places_of {fl : List Field} (h : ∀ f ∈ fl.map (fieldRow P), f.2.1 ≠ 0) : fl.mapM (fun f => (P.info? f.type).map fun i => (f.offset, i.size)) = some ((fl.map (fieldRow P)).map fun f => (f.1, f.2.1)) := by
  induction fl with
  | nil => rfl
  | cons f r ih =>
    have h0 := h (fieldRow P f) (by simp)
    have hr := ih (fun g hg => h g (by simp at hg ⊢; exact .inr hg))
    obtain ⟨⟨fo, fz, fa⟩, hfr⟩ : ∃ y, fieldRow P f = y := ⟨_, rfl⟩
    rw [hfr] at h0
    obtain ⟨rfl, ht⟩ := fieldRow_parts hfr h0
    obtain ⟨d, i, hu, hi, hs, _⟩ := tsh_parts (w := default) ht
    simp [List.mapM_cons, hi, hr, hfr, hs]

/-- A struct made of parts. -/
theorem build_sound (h : Rel P O0 w0 F s E a.tmps w) {t : TypeId} {fs : List (Nat × Nat × Bool)} {z cs : List SV} {ps : Array (Nat × Operand)} {s' : St} (d : Nat) (hT : tk P t = .st fs) (hz : zcs P t = some z) (hfs : fs.all (fun f => f.2.1 != 0) = true) (hf : fillParts P fs ps.toList z s = some (cs, s')) :
    ∃ v w' E', (Instr.build t (ps.map fun (i, x) => (i, a.eval x))).run P w = .ok v w' ∧ Rel P O0 w0 F (put d (mkAgg cs) s') E' (a.tmps.setIfInBounds d v) w' := by
  obtain ⟨fl, hu, rfl⟩ := tk_st hT
  obtain ⟨i, zv, hi, hiz, hs, hl, hc⟩ := zcs_sound hz
  obtain ⟨E', cells', f1, f2, f3⟩ := fillParts_sound (place := (((fl.toList.map (fieldRow P)).map fun f => (f.1, f.2.1)).toArray[·]?)) (fun i f hf => by simp only [List.getElem?_toArray, List.getElem?_map] at hf ⊢; rw [hf]; rfl) ps.toList h hf (cells := zv.cells) ⟨by simpa using hl, fun j c v hj hv => ofConst_cp (hc j c v hj (by simpa using hv))⟩
  have hpl := places_of (P := P) (fl := fl.toList) (fun f hf' => by have := List.all_eq_true.1 hfs f hf'; simpa using this)
  refine ⟨_, _, E', run_build w t _ cells' ?_, ?_⟩
  · unfold Program.built
    rw [hi, hu]
    simp only [hiz, hpl]
    rw [Array.toList_map]
    exact f1
  · unfold mkAgg
    split
    · rename_i qs hqs
      obtain ⟨g1, g2⟩ := allPV_get hqs
      refine f2.putGood d (.pv _ _) (.pv _ _ (.agg qs cells' (by have := f3.1; simp at this; omega) (fun c hc => ?_) (fun j c v hj hv => ?_)))
      · obtain ⟨j, hj, he⟩ := List.mem_iff_getElem.1 hc
        have h1 := g2 j c (by rw [← he]; exact List.getElem?_eq_getElem hj)
        have hj' : j < cells'.toList.length := by rw [f3.1, ← g1]; exact hj
        have := f3.2 j _ _ h1 (List.getElem?_eq_getElem hj')
        exact this.1
      · exact (f3.2 j _ v (g2 j c hj) (by simpa using hv)).2
    · refine f2.putGood d ⟨rfl, by simp [SV.on], by simp [SV.pts]⟩ ?_
      have := RS.agg (P := P) (E := E') cs cells'.toList f3.1 f3.plain (fun j c v hj hv => (f3.2 j c v hj hv).rs)
      simpa using this
/-- An array made of parts. -/
theorem buildArr_sound (h : Rel P O0 w0 F s E a.tmps w) {t n e ez : Nat} {ea : Bool} {z cs : List SV} {ps : Array (Nat × Operand)} {s' : St} (d : Nat) (hT : tk P t = .arr n e ez ea) (hez : ez ≠ 0) (hz : zcs P t = some z) (hf : fillParts P (arrFs ez n) ps.toList z s = some (cs, s')) :
    ∃ v w' E', (Instr.build t (ps.map fun (i, x) => (i, a.eval x))).run P w = .ok v w' ∧ Rel P O0 w0 F (put d (mkAgg cs) s') E' (a.tmps.setIfInBounds d v) w' := by
  obtain ⟨hu, hce⟩ := tk_arr hT
  obtain ⟨i, zv, hi, hiz, hs, hl, hc⟩ := zcs_sound hz
  obtain ⟨ie, hie, hies⟩ : ∃ ie, P.info? e = some ie ∧ ie.size = ez := by
    cases hie : P.info? e with
    | none => simp [Program.cellsOf, hie] at hce; exact absurd hce.symm hez
    | some ie => exact ⟨ie, rfl, by simpa [Program.cellsOf, hie] using hce⟩
  obtain ⟨E', cells', f1, f2, f3⟩ := fillParts_sound (place := fun i => some (i * ie.size, ie.size)) (fun i f hf => by
      rw [arrFs_get] at hf
      split at hf
      · cases hf; rw [hies]
      · cases hf) ps.toList h hf (cells := zv.cells) ⟨by simpa using hl, fun j c v hj hv => ofConst_cp (hc j c v hj (by simpa using hv))⟩
  refine ⟨_, _, E', run_build w t _ cells' ?_, ?_⟩
  · unfold Program.built
    rw [hi, hu]
    simp only [hiz, hie]
    rw [Array.toList_map]
    exact f1
  · unfold mkAgg
    split
    · rename_i qs hqs
      obtain ⟨g1, g2⟩ := allPV_get hqs
      refine f2.putGood d (.pv _ _) (.pv _ _ (.agg qs cells' (by have := f3.1; simp at this; omega) (fun c hc => ?_) (fun j c v hj hv => ?_)))
      · obtain ⟨j, hj, he⟩ := List.mem_iff_getElem.1 hc
        have h1 := g2 j c (by rw [← he]; exact List.getElem?_eq_getElem hj)
        have hj' : j < cells'.toList.length := by rw [f3.1, ← g1]; exact hj
        have := f3.2 j _ _ h1 (List.getElem?_eq_getElem hj')
        exact this.1
      · exact (f3.2 j _ v (g2 j c hj) (by simpa using hv)).2
    · refine f2.putGood d ⟨rfl, by simp [SV.on], by simp [SV.pts]⟩ ?_
      have := RS.agg (P := P) (E := E') cs cells'.toList f3.1 f3.plain (fun j c v hj hv => (f3.2 j c v hj hv).rs)
      simpa using this
end
end
end Go.Ck

set_option linter.unusedVariables false
namespace Go.Ck
open Go.RowKit
section
variable {P : Program} {O0 : Base} {F : Nat → Prop} {w0 w : World} {s : St} {E : Env} {a : Act}
theorem getD_of {tmps : Array Value} {t : Nat} {x : Value} (h : tmps[t]? = some x) : tmps.getD t undef = x := by simp [Array.getD_eq_getD_getElem?, h]

/-- An operation with a result that does more than read. -/
theorem aeff_sound (h : Rel P O0 w0 F s E a.tmps w) {o : Oper} {d : Nat} {s' : St} (hv : aeff P s d o.type o.op = some s') :
    ∃ x w' E', (execOp a.eval o).run P w = .ok (.value x) w' ∧ Rel P O0 w0 F s' E' (a.tmps.setIfInBounds d x) w' := by
  unfold execOp
  unfold aeff at hv
  split at hv
  · -- move
    rename_i x he
    rw [he]
    split at hv
    · rename_i t
      split at hv
      · rename_i vs hl
        split at hv <;> cases hv
        rename_i hc
        obtain ⟨x, hx, _⟩ := h.place (.slot t) _ hl
        obtain ⟨h1, h2⟩ := h.clear d
        have hl' : look t (Ck.clear d s).sl = some (.tup vs) := by
          unfold Ck.clear
          split
          · simp only [Ck.kill, look_killL, hl]; rfl
          · exact hl
        obtain ⟨E', hE⟩ := h1.moveTup hl' hc.1 (by rw [clear_n]; exact hc.2) h2 hx
        exact ⟨x, w, E', by simp [Act.eval, getD_of hx], hE⟩
      · cases hv
    · cases hv
  · -- assign
    rename_i x he
    rw [he]
    split at hv
    · rename_i hx
      split at hv
      · rename_i e _ _ _ _
        cases hv
        have hr := ev_rs h hx
        obtain ⟨E', hE⟩ := h.putOwn (e := e) (xs := []) (x := .slice none 0 0) d ⟨[], World.ownsRow_nil w 0 _ _, ROs.nil _ _, by simp, by simp⟩ (by simp [Value.ownBlock])
        refine ⟨_, w, E', rfl, ?_⟩
        generalize a.eval x = xv at hr
        cases hr
        exact hE
      · cases hv
    · rename_i t hx
      split at hv
      · rename_i t'
        split at hv
        · rename_i hc
          obtain ⟨rfl, hne, hd⟩ := hc
          split at hv
          · rename_i e xs hl
            cases hv
            obtain ⟨x, hx', hx2, _⟩ := h.place (.slot t') _ hl
            subst hx2
            have h1 := h.putDead d (E.hdr (.slot t'))
            have hsz : d < a.tmps.size := by rw [← h.size]; exact hd
            have hds : (put d .dead s).at (.slot d) = some .dead := by
              unfold put
              rw [if_pos hd]
              simp [SV.on, at_setSlot]
            have hts : (put d .dead s).at (.slot t') = some (.own e xs) := put_own (by simpa using hne) (by simp) hl
            obtain ⟨E', hE⟩ := transfer_sound h1 (q := .slot d) hts hds rfl (by simpa using Ne.symm hne) (by simp [CV, hsz]) (by simp)
            exact ⟨_, w, E', by simp [Act.eval, getD_of hx'], hE⟩
          · cases hv
        · cases hv
      · cases hv
    · cases hv
  · -- extract
    rename_i x i he
    rw [he]
    split at hv
    · rename_i t
      split at hv
      · rename_i e xs hp
        split at hv <;> cases hv
        obtain ⟨h1, h2, h3, h4⟩ := h.take hp
        obtain ⟨vs, h5, h6⟩ := h1
        obtain ⟨E', hE⟩ := h4.putOwn d h2 h3
        refine ⟨_, w, E', ?_, hE⟩
        simp [Act.eval, getD_of h5, Instr.extract, h6]
      · cases hv
    · cases hv
  · -- alloc
    rename_i t he
    rw [he]
    split at hv
    · rename_i cs hz
      obtain ⟨v, w', E', h1, h2⟩ := alloc_sound h hz hv
      exact ⟨v, w', E', by simp [h1], h2⟩
    · cases hv
  · -- box
    rename_i t x he
    rw [he]
    have key : (∃ v w' E', (Instr.box t (a.eval x)).run P w = .ok v w' ∧ Rel P O0 w0 F s' E' (a.tmps.setIfInBounds d v) w') → ∃ x_1 w' E', Sem.run P (do let y ← Instr.box t (a.eval x); pure (Next.value y)) w = .ok (.value x_1) w' ∧ Rel P O0 w0 F s' E' (a.tmps.setIfInBounds d x_1) w' := by
      rintro ⟨v, w', E', h1, h2⟩
      exact ⟨v, w', E', by simp [h1], h2⟩
    refine key ?_
    split at hv
    · rename_i p hx
      have hr := ev_rs h hx
      have hg := h.ev_good hx
      split at hv
      · rename_i e xs hp
        split at hv
        · cases hv
        · rename_i hpd
          split at hv <;> cases hv
          rename_i s1 hn
          have := box_own h hp (hg.2.1 p (by simp [SV.on])).2 hpd hn
          rwa [hr.al_inv]
      · cases hv
    · rename_i p hx
      have hr := ev_pv h hx
      have hc := hr.cellsROs
      refine box_sound h _ hv (by have := hc.1; simpa using this) (fun i c hi => ?_)
      rw [List.getElem?_map, Option.map_eq_some_iff] at hi
      obtain ⟨q, hq, rfl⟩ := hi
      exact ⟨rfl, hc.2.1 q (List.mem_of_getElem? hq), fun v hv => .inr (.pv _ _ (hc.2.2 i q v hq (by simpa using hv))), fun _ => rfl, fun o ho => by simp [SV.pts] at ho⟩
    · rename_i cs hx
      have hr := ev_rs h hx
      generalize hxv : a.eval x = xv at hr
      cases hr with | agg _ vs hl h1 h2 => ?_
      refine box_sound h _ hv (by simp [Value.cells, hl]) (fun i c hi => ?_)
      obtain ⟨k1, k2, k3, k4⟩ := allPlain_pts h1 c (List.mem_of_getElem? hi)
      exact ⟨k3, k4, fun v hv => .inr (h2 i c v hi (by simpa [Value.cells] using hv)), k2, fun o ho => by rw [k1 o] at ho; cases ho⟩
    · rename_i hx
      have hr := ev_rs h hx
      have hg := h.ev_good hx
      refine box_one h _ hv ?_ hg rfl (fun _ => rfl) hr
      generalize a.eval x = xv at hr
      cases hr; rfl
    · rename_i o off hx
      have hr := ev_rs h hx
      have hg := h.ev_good hx
      refine box_one h _ hv ?_ hg rfl (fun _ => rfl) hr
      generalize a.eval x = xv at hr
      cases hr; rfl
    · rename_i f caps hx
      have hr := ev_rs h hx
      have hg := h.ev_good hx
      refine box_one h _ hv ?_ hg rfl (fun _ => rfl) hr
      generalize a.eval x = xv at hr
      cases hr; rfl
    · cases hv
  · -- build
    rename_i t ps he
    rw [he]
    split at hv
    · rename_i fs z hT hz
      split at hv
      · rename_i hfs
        split at hv <;> cases hv
        rename_i cs s1 hf
        obtain ⟨v, w', E', h1, h2⟩ := build_sound h d hT hz hfs hf
        exact ⟨v, w', E', by simp only [Sem.run_bind]; rw [h1]; rfl, h2⟩
      · cases hv
    · rename_i n e ez ea z hT hz
      split at hv
      · rename_i hez
        split at hv <;> cases hv
        rename_i cs s1 hf
        obtain ⟨v, w', E', h1, h2⟩ := buildArr_sound h d hT hez hz hf
        exact ⟨v, w', E', by simp only [Sem.run_bind]; rw [h1]; rfl, h2⟩
      · cases hv
    · cases hv
  · -- buildSlice
    rename_i t n ps he
    rw [he]
    split at hv
    · rename_i e ez eb ea hT
      split at hv
      · rename_i z hz
        split at hv
        · rename_i hc
          split at hv <;> cases hv
          rename_i xs s1 hf
          obtain ⟨v, w', E', h1, h2⟩ := buildSlice_sound h d hT hz hc.1 hc.2.1 hc.2.2 hf
          exact ⟨v, w', E', by simp only [Sem.run_bind]; rw [h1]; rfl, h2⟩
        · cases hv
      · cases hv
    · cases hv
  · -- makeSlice
    rename_i t l c he
    rw [he]
    split at hv
    · rename_i n m e ez eb ea hl hc hT
      split at hv
      · rename_i z hz
        split at hv <;> cases hv
        rename_i hh
        obtain ⟨v, w', E', h1, h2⟩ := makeSlice_sound h d hT hz hh.1 hh.2.1 hh.2.2.1 hh.2.2.2.1 hh.2.2.2.2
        have e1 := (ev_pv h hl).int_eq
        have e2 := (ev_pv h hc).int_eq
        exact ⟨v, w', E', by simp [e1, e2, h1], h2⟩
      · cases hv
    · cases hv
  · -- makeFunc
    rename_i f first caps he
    rw [he]
    split at hv
    · rename_i g vs hfi hcs
      split at hv <;> cases hv
      rename_i hh
      obtain ⟨h1, h2⟩ := evs_sound h hcs
      have hf0 : first = #[] := by apply Array.ext'; rw [hfi]
      subst hf0
      refine ⟨.func (.func g) #[] (caps.map a.eval), w, E, by simp [Instr.makeFunc], h.putGood d ⟨rfl, by simp [SV.on], fun o' ho => ?_⟩ ?_⟩
      · simp only [SV.pts, List.any_eq_true] at ho
        obtain ⟨c, hc, hco⟩ := ho
        obtain ⟨i, hi, he⟩ := List.mem_iff_getElem.1 hc
        have hi' : i < caps.toList.length := by rw [← h1]; exact hi
        have hev := h2 i _ c (List.getElem?_eq_getElem hi') (by rw [← he]; exact List.getElem?_eq_getElem hi)
        have hg := h.ev_good hev
        cases c <;> simp at hco
        subst hco
        exact hg.2.2 _ (by simp [SV.pts])
      · have := RS.fn (P := P) (A := fun b => E.om b ∨ F b) (E := E) (w := w) g vs (caps.toList.map a.eval) (by simpa using h1.symm) hh (fun i c v hc hv' => by
          rw [List.getElem?_map, Option.map_eq_some_iff] at hv'
          obtain ⟨x, hx, rfl⟩ := hv'
          exact ev_rs h (h2 i x c hx hc))
        have e : caps.map a.eval = (caps.toList.map a.eval).toArray := by apply Array.ext'; simp
        rw [e]
        exact this
    · cases hv
  · -- makeMap
    rename_i t he
    rw [he]
    split at hv
    · rename_i hl
      cases hv
      have h1 := h.newObj hl (.mp []) (.map #[] 0) ⟨#[], 0, by rw [Env.addObj_same]; exact heap_alloc_new w _, rfl, by simp⟩ (by simp [HO.list])
      have hrs := RS.mp (P := P) (A := fun b => (E.addObj d w.heap.size).om b ∨ F b) (E := E.addObj d w.heap.size) (w := w.alloc (.map #[] 0)) d
      rw [Env.addObj_same] at hrs
      refine ⟨_, _, _, ?_, h1.putGood d ⟨rfl, by simp [SV.on], fun o ho => ?_⟩ hrs⟩
      · simp [Instr.makeMap]
      · have : d = o := by simpa [SV.pts] using ho
        subst this
        exact ⟨.mp [], by simp [look]⟩
    · cases hv
  · -- append
    rename_i c he
    rw [he]
    split at hv
    · rename_i hc
      split at hv
      · rename_i x y t tx hvs hts
        split at hv
        · rename_i hsrc
          obtain ⟨h1, h2⟩ := evs_sound h hvs
          match hcl : c.args.toList, h1 with
          | [x0, y0], _ =>
            have e0 := ev_rs h (h2 0 x0 _ (by rw [hcl]; rfl) rfl)
            have e1 := ev_rs h (h2 1 y0 _ (by rw [hcl]; rfl) rfl)
            have hal : c.args = #[x0, y0] := by apply Array.ext'; rw [hcl]
            have hat : c.argTypes = #[t, tx] := by apply Array.ext'; rw [hts]
            obtain ⟨v, w', E', h3, h4⟩ := aappend_sound (ty := o.type) h hsrc hv e0 e1
            refine ⟨v, w', E', ?_, h4⟩
            simp [resolve, hc, invoke, builtin, hal, hat, h3]
        · cases hv
      · cases hv
    · cases hv
  · cases hv
end
end Go.Ck
