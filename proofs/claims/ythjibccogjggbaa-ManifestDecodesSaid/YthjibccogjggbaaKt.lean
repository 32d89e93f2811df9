/- What is proved here: parts of the proofs of this seat's statements (a verified evaluator for calls over pure values, its laws, and contracts of functions). No condition. -/
import Derived.Test.YthjibccogjggbaaKs
import Derived.Test.YthjibccogjggbaaKo
import Derived.Sort.Walk0
set_option linter.all false
set_option linter.unusedVariables false
namespace Go.Ck
def szB (k : Nat) : Nat := 64 * 4 ^ k
theorem szB_succ (k : Nat) : szB (k + 1) = szB k * 4 := by simp [szB, Nat.pow_succ, Nat.mul_assoc]
theorem szB_le : ∀ k, k ≤ 9 → szB k ≤ 16777216 := by decide
theorem szB_in : ∀ k, k ≤ 9 → (szB k ≤ 4194304 ↔ k ≤ 8) := by decide
theorem szB_pos (k : Nat) : 0 < szB k := by simp [szB]; exact Nat.pow_pos (by decide)
def szs (i : Nat) : Option (List PV) := if i < 9 then some [.int .i64 (i : Int), .int .i64 (szB i : Int)] else none
/-- The bucket's size. -/
def padSz (k : Int) : Nat := if 0 ≤ k ∧ k ≤ 8 then szB k.toNat else 0
def padAcc (k : Int) (i : Nat) : Nat := if 0 ≤ k ∧ k < i then szB k.toNat else 0
theorem padAcc_0 (k : Int) : padAcc k 0 = 0 := by unfold padAcc; rw [if_neg (by omega)]
theorem padAcc_9 (k : Int) : padAcc k 9 = padSz k := by unfold padAcc padSz; congr 1; simp; omega
theorem padAcc_eq (i : Nat) : padAcc (i : Int) (i + 1) = szB i := by unfold padAcc; rw [if_pos (by omega)]; simp
theorem padAcc_ne (k : Int) (i : Nat) (h : (i : Int) ≠ k) : padAcc k (i + 1) = padAcc k i := by unfold padAcc; congr 1; simp; omega
theorem padSz_zero (k : Int) : padSz k = 0 ↔ ¬ (0 ≤ k ∧ k ≤ 8) := by
  unfold padSz
  split
  · rename_i h; have := szB_pos k.toNat; constructor
    · intro h0; omega
    · intro hn; exact absurd h hn
  · rename_i h; exact ⟨fun _ => h, fun _ => rfl⟩
abbrev Ent := List UInt8 × Int
def entP (e : Ent) : PV := .agg [.str e.1, .int .i64 e.2]
def entsP (es : List Ent) : List PV := es.map entP
theorem entsP_len (es : List Ent) : (entsP es).length = es.length := by simp [entsP]
attribute [go_sem] entsP_len
theorem entsP_get {es : List Ent} {i : Nat} {e : Ent} (h : es[i]? = some e) : (entsP es)[i]? = some (.agg [.str e.1, .int .i64 e.2]) := by
  unfold entsP; rw [List.getElem?_map, h]; rfl
structure Man where
  v : Nat
  prev : List Nat
  es : List Ent
  root : List Nat
def manP (m : Man) : PV := .agg [.int .u64 (m.v : Int), .sl 1 (bytes m.prev), .sl 2 (entsP m.es), .sl 1 (bytes m.root)]
def badB (e : Ent) : Bool := padSz e.2 == 0
def longB (e : Ent) : Bool := decide (64 < e.1.length)
def wrongM (m : Man) : Nat :=
  if m.v = 18446744073709551615 ∨ m.prev.length ≠ 32 ∨ m.root.length ≠ 32 then 1
  else if m.es.any badB = true then 1
  else if 1048576 < m.es.length ∨ m.es.any longB = true then 4 else 0
end Go.Ck

set_option linter.unusedVariables false
namespace Go.Ck
def nmStep (acc : List (List UInt8)) (e : Ent) : List (List UInt8) := if e.1 ∈ acc then acc else acc ++ [e.1]
/-- The tenants, as they first stand. -/
def nmS (es : List Ent) : List (List UInt8) := es.foldl nmStep []
theorem nmS_succ {es : List Ent} {i : Nat} {e : Ent} (h : es[i]? = some e) : nmS (es.take (i + 1)) = nmStep (nmS (es.take i)) e := by
  unfold nmS; rw [List.take_add_one, h]; simp
theorem nmStep_nodup {acc : List (List UInt8)} {e : Ent} (h : acc.Nodup) : (nmStep acc e).Nodup := by
  unfold nmStep; split
  · exact h
  · rename_i hn
    rw [List.nodup_append]
    refine ⟨h, by simp, ?_⟩
    intro a ha b hb
    simp at hb; subst hb
    intro e2; subst e2; exact hn ha
theorem nmF_nodup : ∀ (es : List Ent) (acc : List (List UInt8)), acc.Nodup → (es.foldl nmStep acc).Nodup
  | [], acc, h => h
  | e :: r, acc, h => nmF_nodup r _ (nmStep_nodup h)
theorem nmS_nodup (es : List Ent) : (nmS es).Nodup := nmF_nodup es [] (by simp)
theorem nmF_len : ∀ (es : List Ent) (acc : List (List UInt8)), (es.foldl nmStep acc).length ≤ acc.length + es.length
  | [], acc => by simp
  | e :: r, acc => by
    have := nmF_len r (nmStep acc e)
    have h2 : (nmStep acc e).length ≤ acc.length + 1 := by unfold nmStep; split <;> simp
    simp only [List.foldl_cons, List.length_cons]; omega
theorem nmS_len (es : List Ent) : (nmS es).length ≤ es.length := by have := nmF_len es []; simpa [nmS] using this
theorem nmF_mem : ∀ (es : List Ent) (acc : List (List UInt8)) (s : List UInt8), s ∈ es.foldl nmStep acc ↔ s ∈ acc ∨ ∃ e ∈ es, e.1 = s
  | [], acc, s => by simp
  | e :: r, acc, s => by
    simp only [List.foldl_cons]
    rw [nmF_mem r]
    have h1 : s ∈ nmStep acc e ↔ s ∈ acc ∨ e.1 = s := by
      unfold nmStep
      split
      · rename_i h
        constructor
        · exact .inl
        · rintro (h1 | rfl)
          · exact h1
          · exact h
      · simp [eq_comm]
    rw [h1]
    simp only [List.mem_cons, exists_eq_or_imp]
    exact or_assoc
theorem nmS_mem (es : List Ent) (s : List UInt8) : s ∈ nmS es ↔ ∃ e ∈ es, e.1 = s := by
  unfold nmS; rw [nmF_mem]; simp
def dirS (es : List Ent) : List (List UInt8) := sortS (nmS es)
theorem sortS_perm (ss : List (List UInt8)) : (sortS ss).Perm ss := List.mergeSort_perm ss _
theorem dirS_nodup (es : List Ent) : (dirS es).Nodup := (sortS_perm _).nodup_iff.2 (nmS_nodup es)
theorem dirS_len (es : List Ent) : (dirS es).length = (nmS es).length := sortS_len _
theorem dirS_mem (es : List Ent) (s : List UInt8) : s ∈ dirS es ↔ ∃ e ∈ es, e.1 = s := by
  unfold dirS; rw [(sortS_perm _).mem_iff, nmS_mem]

def mpS (f : List UInt8 → Nat) (ds : List (List UInt8)) : List (PV × PV) := ds.map fun s => (.str s, .int .i64 (f s : Int))
theorem mlook_mpS (f : List UInt8 → Nat) (t : List UInt8) : ∀ ds, mlook (.str t) (mpS f ds) = some (if t ∈ ds then some (.int .i64 (f t : Int)) else none)
  | [] => rfl
  | s :: r => by
    have hc : mpS f (s :: r) = (.str s, .int .i64 (f s : Int)) :: mpS f r := rfl
    rw [hc]
    simp only [mlook, keyEq]
    by_cases h : t = s
    · subst h; simp
    · have h1 : (t == s) = false := by simpa using h
      rw [h1, mlook_mpS f t r]
      simp [h]
theorem mset_new (f : List UInt8 → Nat) (t : List UInt8) (v : PV) : ∀ ds, t ∉ ds → mset (.str t) v (mpS f ds) = some (mpS f ds ++ [(.str t, v)])
  | [], _ => rfl
  | s :: r, h => by
    have hc : mpS f (s :: r) = (.str s, .int .i64 (f s : Int)) :: mpS f r := rfl
    have h1 : (t == s) = false := by simp at h ⊢; exact h.1
    rw [hc]
    simp only [mset, keyEq, h1]
    rw [mset_new f t v r (by simp at h; exact h.2)]
    rfl
theorem mset_add (f : List UInt8 → Nat) (t : List UInt8) (ds : List (List UInt8)) (h : t ∉ ds) : mset (.str t) (.int .i64 (f t : Int)) (mpS f ds) = some (mpS f (ds ++ [t])) := by
  rw [mset_new f t _ ds h]; simp [mpS]
theorem mpS_congr {f g : List UInt8 → Nat} {ds : List (List UInt8)} (h : ∀ s ∈ ds, f s = g s) : mpS f ds = mpS g ds := by
  unfold mpS
  refine List.map_congr_left (fun s hs => by rw [h s hs])
theorem mset_old (f : List UInt8 → Nat) (t : List UInt8) (v : Nat) : ∀ ds, t ∈ ds → ds.Nodup → mset (.str t) (.int .i64 (v : Int)) (mpS f ds) = some (mpS (fun s => if s = t then v else f s) ds)
  | [], h, _ => by cases h
  | s :: r, h, hn => by
    have hc : ∀ g : List UInt8 → Nat, mpS g (s :: r) = (.str s, .int .i64 (g s : Int)) :: mpS g r := fun _ => rfl
    rw [List.nodup_cons] at hn
    rw [hc, hc]
    simp only [mset, keyEq]
    by_cases hts : t = s
    · subst hts
      have h1 : (t == t) = true := by simp
      rw [h1]
      simp only [if_true]
      have h4 : mpS (fun s => if s = t then v else f s) r = mpS f r := mpS_congr (fun x hx => by
        have hne : ¬ x = t := fun e => hn.1 (by rw [← e]; exact hx)
        simp only [if_neg hne])
      rw [h4]
    · have h1 : (t == s) = false := by simpa using hts
      have h2 : t ∈ r := by
        rcases List.mem_cons.1 h with h | h
        · exact absurd h hts
        · exact h
      rw [h1]
      simp only
      rw [mset_old f t v r h2 hn.2]
      have h3 : (if s = t then v else f s) = f s := if_neg (fun e => hts e.symm)
      simp only [msetO, h3]
/-- Where the first k names stand. -/
def posK (l : List (List UInt8)) (k : Nat) (s : List UInt8) : Nat := if l.idxOf s < k then l.idxOf s else 0
theorem posK_0 (l : List (List UInt8)) : posK l 0 = fun _ => 0 := by funext s; simp [posK]
theorem posK_succ {l : List (List UInt8)} (hn : l.Nodup) {k : Nat} {t : List UInt8} (h : l[k]? = some t) : (fun s => if s = t then k else posK l k s) = posK l (k + 1) := by
  have hk : k < l.length := (List.getElem?_eq_some_iff.1 h).1
  have ht : l[k] = t := (List.getElem?_eq_some_iff.1 h).2
  funext s
  show (if s = t then k else posK l k s) = posK l (k + 1) s
  unfold posK
  by_cases hs : s = t
  · have hi : l.idxOf s = k := by rw [hs, ← ht]; exact List.Nodup.idxOf_getElem hn k hk
    rw [if_pos hs, hi, if_pos (by omega)]
  · rw [if_neg hs]
    have hne : l.idxOf s ≠ k := by
      intro e
      have hlt : l.idxOf s < l.length := by omega
      have := List.getElem_idxOf hlt
      apply hs
      rw [← ht, ← this]
      congr 1
    by_cases hlt : l.idxOf s < k
    · rw [if_pos hlt, if_pos (by omega)]
    · rw [if_neg hlt, if_neg (by omega)]
theorem posK_all (l : List (List UInt8)) (s : List UInt8) (h : s ∈ l) : posK l l.length s = l.idxOf s := by
  unfold posK
  rw [if_pos (List.idxOf_lt_length_of_mem h)]
end Go.Ck
namespace Go.Ck
theorem strs_get {ss : List (List UInt8)} {i : Nat} {t : List UInt8} (h : ss[i]? = some t) : (strs ss)[i]? = some (.str t) := by
  unfold strs; rw [List.getElem?_map, h]; rfl
theorem strs_snoc (ss : List (List UInt8)) (t : List UInt8) : strs ss ++ [.str t] = strs (ss ++ [t]) := by simp [strs]
theorem cloL_strs (ss : List (List UInt8)) : cloL (strs ss) = true := by
  induction ss with
  | nil => rfl
  | cons a l ih => simpa [strs, cloL, PV.clo] using ih
attribute [go_sem] strs_len cloL_strs
end Go.Ck

set_option linter.unusedVariables false
namespace Go.Ck
def headM (m : Man) : List Nat := [67, 83, 75, 49] ++ beB m.v 8 ++ m.prev
def blkS (s : List UInt8) : List Nat := leb s.length ++ nb s
def entB (ns : List (List UInt8)) (e : Ent) : List Nat := leb (ns.idxOf e.1) ++ [e.2.toNat]
def bodyM (m : Man) : List Nat := headM m ++ leb (dirS m.es).length ++ (dirS m.es).flatMap blkS ++ leb m.es.length ++ m.es.flatMap (entB (dirS m.es)) ++ m.root
def encM (m : Man) : List Nat × Nat := if wrongM m ≠ 0 then ([], wrongM m) else (bodyM m, 0)
theorem wrongM_zero {m : Man} (h : wrongM m = 0) : m.v ≠ 18446744073709551615 ∧ m.prev.length = 32 ∧ m.root.length = 32 ∧ (∀ e ∈ m.es, 0 ≤ e.2 ∧ e.2 ≤ 8) ∧ m.es.length ≤ 1048576 ∧ ∀ e ∈ m.es, e.1.length ≤ 64 := by
  unfold wrongM at h
  split at h
  · cases h
  · rename_i h1
    split at h
    · cases h
    · rename_i h2
      split at h
      · cases h
      · rename_i h3
        refine ⟨by omega, by omega, by omega, fun e he => ?_, by omega, fun e he => ?_⟩
        · have : badB e = false := by
            cases hb : badB e with
            | false => rfl
            | true => exact absurd (List.any_eq_true.2 ⟨e, he, hb⟩) h2
          unfold badB at this
          have h5 : padSz e.2 ≠ 0 := by simpa using this
          rw [Ne, padSz_zero] at h5
          omega
        · have : longB e = false := by
            cases hb : longB e with
            | false => rfl
            | true => exact absurd (.inr (List.any_eq_true.2 ⟨e, he, hb⟩)) h3
          unfold longB at this
          have := of_decide_eq_false this
          omega
theorem flatMap_le {α : Type} (f : α → List Nat) (c : Nat) : ∀ (l : List α), (∀ x ∈ l, (f x).length ≤ c) → (l.flatMap f).length ≤ c * l.length
  | [], _ => by simp
  | x :: r, h => by
    have h1 := h x (by simp)
    have h2 := flatMap_le f c r (fun y hy => h y (by simp [hy]))
    simp only [List.flatMap_cons, List.length_append, List.length_cons, Nat.mul_succ]
    omega
theorem flatMap_take {α : Type} (f : α → List Nat) {l : List α} {i : Nat} {x : α} (h : l[i]? = some x) : (l.take (i + 1)).flatMap f = (l.take i).flatMap f ++ f x := by
  rw [List.take_add_one, h, List.flatMap_append]; simp
theorem blkS_len (s : List UInt8) (h : s.length ≤ 64) : (blkS s).length ≤ 74 := by
  have := leb_len10 (v := s.length) (by omega)
  simp only [blkS, List.length_append, nb_len]; omega
theorem idx_le (ns : List (List UInt8)) (s : List UInt8) : ns.idxOf s ≤ ns.length := List.idxOf_le_length
theorem entB_len (ns : List (List UInt8)) (e : Ent) (h : ns.length < 2 ^ 63) : (entB ns e).length ≤ 11 := by
  have h1 := idx_le ns e.1
  have := leb_len10 (v := ns.idxOf e.1) (by omega)
  simp only [entB, List.length_append, List.length_singleton]; omega
end Go.Ck

set_option linter.unusedVariables false
namespace Go.Ck
theorem lt_of_le_ne {a b : List UInt8} (h : a ≤ b) (hn : a ≠ b) : a < b := by
  refine Classical.byContradiction (fun h2 => hn ?_)
  exact List.le_antisymm h (List.not_lt.1 h2)
theorem sorted_ext {l m : List (List UInt8)} (hl : l.Pairwise (· < ·)) (hm : m.Pairwise (· < ·)) (h : ∀ x, x ∈ l ↔ x ∈ m) : l = m := by
  have n1 : l.Nodup := hl.imp (fun {a b} h e => by subst e; exact List.lt_irrefl a h)
  have n2 : m.Nodup := hm.imp (fun {a b} h e => by subst e; exact List.lt_irrefl a h)
  have hp : l.Perm m := (List.perm_ext_iff_of_nodup n1 n2).2 h
  exact List.Perm.eq_of_pairwise (fun a b _ _ h1 h2 => absurd (List.lt_trans h1 h2) (List.lt_irrefl a)) hl hm hp
theorem dirS_sorted (es : List Ent) : (dirS es).Pairwise (· < ·) := by
  have h1 : (dirS es).Pairwise (fun a b => decide (a ≤ b) = true) := List.pairwise_mergeSort (fun a b c h1 h2 => by simp only [decide_eq_true_eq] at *; exact List.le_trans h1 h2) (fun a b => by
    rcases List.le_total a b with h | h
    · simp [h]
    · simp [h]) _
  have h2 := dirS_nodup es
  have h3 := h1.and h2
  exact h3.imp (fun {a b} h => lt_of_le_ne (by simpa using h.1) h.2)
end Go.Ck

set_option linter.unusedVariables false
namespace Go.Ck
def cntD (q : List Nat) : Nat × Int × List Nat :=
  if (readV q).2.2 ≠ 0 then (0, (readV q).2.2, q.drop (readV q).2.1) else if 1048576 < (readV q).1 then (0, 4, q.drop (readV q).2.1) else ((readV q).1, 0, q.drop (readV q).2.1)
def okT (acc : List (List UInt8)) (t : List UInt8) : Bool := match acc.getLast? with
  | some l => decide (l < t)
  | none => true
def tnD : Nat → List (List UInt8) → List Nat → List (List UInt8) × Int × List Nat
  | 0, acc, q => (acc, 0, q)
  | n + 1, acc, q => if (blk q 64).2.1 ≠ 0 then ([], (blk q 64).2.1, (blk q 64).2.2) else if okT acc (ub (blk q 64).1) = true then tnD n (acc ++ [ub (blk q 64).1]) (blk q 64).2.2 else ([], 3, (blk q 64).2.2)
def tensD (q : List Nat) : List (List UInt8) × Int × List Nat := if (cntD q).2.1 ≠ 0 then ([], (cntD q).2) else tnD (cntD q).1 [] (cntD q).2.2
def entD (t : List UInt8) (x : Nat) : Ent := (t, (x : Int))
def enD (ts : List (List UInt8)) : Nat → List Ent → List Nat → List Ent × Int × List Nat
  | 0, acc, q => (acc, 0, q)
  | n + 1, acc, q => if (readV q).2.2 ≠ 0 then ([], (readV q).2.2, q.drop (readV q).2.1) else if ts.length ≤ (readV q).1 then ([], 3, q.drop (readV q).2.1)
    else if (q.drop (readV q).2.1).length < 1 then ([], 2, q.drop (readV q).2.1) else if 8 < (q.drop (readV q).2.1).headD 0 then ([], 3, (q.drop (readV q).2.1).drop 1)
    else enD ts n (acc ++ [entD (ts.getD (readV q).1 []) ((q.drop (readV q).2.1).headD 0)]) ((q.drop (readV q).2.1).drop 1)
def entsD (ts : List (List UInt8)) (q : List Nat) : List Ent × Int × List Nat := if (cntD q).2.1 ≠ 0 then ([], (cntD q).2) else enD ts (cntD q).1 [] (cntD q).2.2
def noM (e : Int) : Man × Int := (⟨0, [], [], []⟩, e)
def decM5 (v : Nat) (p : List Nat) (ts : List (List UInt8)) (es : List Ent) (q : List Nat) : Man × Int :=
  if q.length < 32 then noM 2 else if q.drop 32 ≠ [] then noM 3 else if (dirS es).length ≠ ts.length then noM 3 else (⟨v, p, es, q.take 32⟩, 0)
def decM4 (v : Nat) (p : List Nat) (ts : List (List UInt8)) (q : List Nat) : Man × Int := if (entsD ts q).2.1 ≠ 0 then noM (entsD ts q).2.1 else decM5 v p ts (entsD ts q).1 (entsD ts q).2.2
def decM3 (v : Nat) (p : List Nat) (q : List Nat) : Man × Int := if (tensD q).2.1 ≠ 0 then noM (tensD q).2.1 else decM4 v p (tensD q).1 (tensD q).2.2
def decM2 (v : Nat) (q : List Nat) : Man × Int := if q.length < 32 then noM 2 else decM3 v (q.take 32) (q.drop 32)
def decM1 (q : List Nat) : Man × Int := if q.length < 8 then noM 2 else if beN (q.take 8) = 18446744073709551615 then noM 3 else decM2 (beN (q.take 8)) (q.drop 8)
def decM (b : List Nat) : Man × Int := if b.length < 4 then noM 2 else if b.take 4 ≠ [67, 83, 75, 49] then noM 3 else decM1 (b.drop 4)

theorem cntD_byte {q : List Nat} (h : ∀ x ∈ q, x < 256) : ∀ x ∈ (cntD q).2.2, x < 256 := by
  have : (cntD q).2.2 = q.drop (readV q).2.1 := by unfold cntD; split; rfl; split <;> rfl
  rw [this]; exact fun x hx => h x (List.mem_of_mem_drop hx)
theorem cntD_len (q : List Nat) : (cntD q).2.2.length ≤ q.length := by
  have : (cntD q).2.2 = q.drop (readV q).2.1 := by unfold cntD; split; rfl; split <;> rfl
  rw [this, List.length_drop]; omega
theorem cntD_le (q : List Nat) : (cntD q).1 ≤ 1048576 := by
  unfold cntD; split
  · exact Nat.zero_le _
  · split
    · exact Nat.zero_le _
    · simp only; omega
theorem tnD_byte : ∀ (n : Nat) (acc : List (List UInt8)) (q : List Nat), (∀ x ∈ q, x < 256) → ∀ x ∈ (tnD n acc q).2.2, x < 256
  | 0, acc, q, h => h
  | n + 1, acc, q, h => by
    obtain ⟨h1, h2, h3, h4⟩ := blk_byte (m := 64) h
    unfold tnD
    split
    · exact h2
    · split
      · exact tnD_byte n _ _ h2
      · exact h2
theorem tnD_len : ∀ (n : Nat) (acc : List (List UInt8)) (q : List Nat), (∀ x ∈ q, x < 256) → (tnD n acc q).2.2.length ≤ q.length
  | 0, acc, q, h => Nat.le_refl _
  | n + 1, acc, q, h => by
    obtain ⟨h1, h2, h3, h4⟩ := blk_byte (m := 64) h
    unfold tnD
    split
    · simp only; omega
    · split
      · exact Nat.le_trans (tnD_len n _ _ h2) (by omega)
      · simp only; omega
theorem tnD_n : ∀ (n : Nat) (acc : List (List UInt8)) (q : List Nat), (tnD n acc q).1.length ≤ acc.length + n
  | 0, acc, q => by simp [tnD]
  | n + 1, acc, q => by
    unfold tnD
    split
    · simp
    · split
      · have := tnD_n n (acc ++ [ub (blk q 64).1]) (blk q 64).2.2
        simp at this; omega
      · simp
theorem tensD_byte {q : List Nat} (h : ∀ x ∈ q, x < 256) : ∀ x ∈ (tensD q).2.2, x < 256 := by
  unfold tensD; split
  · exact cntD_byte h
  · exact tnD_byte _ _ _ (cntD_byte h)
theorem tensD_len {q : List Nat} (h : ∀ x ∈ q, x < 256) : (tensD q).2.2.length ≤ q.length := by
  unfold tensD; split
  · exact cntD_len q
  · exact Nat.le_trans (tnD_len _ _ _ (cntD_byte h)) (cntD_len q)
theorem tensD_n (q : List Nat) : (tensD q).1.length ≤ 1048576 := by
  unfold tensD; split
  · simp
  · have := tnD_n (cntD q).1 [] (cntD q).2.2
    have := cntD_le q
    simp at *; omega
theorem enD_byte (ts : List (List UInt8)) : ∀ (n : Nat) (acc : List Ent) (q : List Nat), (∀ x ∈ q, x < 256) → ∀ x ∈ (enD ts n acc q).2.2, x < 256
  | 0, acc, q, h => h
  | n + 1, acc, q, h => by
    have h2 : ∀ x ∈ q.drop (readV q).2.1, x < 256 := fun x hx => h x (List.mem_of_mem_drop hx)
    have h3 : ∀ x ∈ (q.drop (readV q).2.1).drop 1, x < 256 := fun x hx => h2 x (List.mem_of_mem_drop hx)
    unfold enD
    split
    · exact h2
    · split
      · exact h2
      · split
        · exact h2
        · split
          · exact h3
          · exact enD_byte ts n _ _ h3
theorem enD_len (ts : List (List UInt8)) : ∀ (n : Nat) (acc : List Ent) (q : List Nat), (enD ts n acc q).2.2.length ≤ q.length
  | 0, acc, q => Nat.le_refl _
  | n + 1, acc, q => by
    have h2 : (q.drop (readV q).2.1).length ≤ q.length := by rw [List.length_drop]; omega
    have h3 : ((q.drop (readV q).2.1).drop 1).length ≤ q.length := by rw [List.length_drop]; omega
    unfold enD
    split
    · exact h2
    · split
      · exact h2
      · split
        · exact h2
        · split
          · exact h3
          · exact Nat.le_trans (enD_len ts n _ _) h3
theorem enD_n (ts : List (List UInt8)) : ∀ (n : Nat) (acc : List Ent) (q : List Nat), (enD ts n acc q).1.length ≤ acc.length + n
  | 0, acc, q => by simp [enD]
  | n + 1, acc, q => by
    unfold enD
    split
    · simp
    · split
      · simp
      · split
        · simp
        · split
          · simp
          · have := enD_n ts n (acc ++ [entD (ts.getD (readV q).1 []) ((q.drop (readV q).2.1).headD 0)]) ((q.drop (readV q).2.1).drop 1)
            rw [List.length_append, List.length_singleton] at this; omega
theorem entsD_byte (ts : List (List UInt8)) {q : List Nat} (h : ∀ x ∈ q, x < 256) : ∀ x ∈ (entsD ts q).2.2, x < 256 := by
  unfold entsD; split
  · exact cntD_byte h
  · exact enD_byte ts _ _ _ (cntD_byte h)
theorem entsD_len (ts : List (List UInt8)) (q : List Nat) : (entsD ts q).2.2.length ≤ q.length := by
  unfold entsD; split
  · exact cntD_len q
  · exact Nat.le_trans (enD_len _ _ _ _) (cntD_len q)
theorem entsD_n (ts : List (List UInt8)) (q : List Nat) : (entsD ts q).1.length ≤ 1048576 := by
  unfold entsD; split
  · simp
  · have := enD_n ts (cntD q).1 [] (cntD q).2.2
    have := cntD_le q
    simp at *; omega
theorem okT_last {acc : List (List UInt8)} {l : List UInt8} (t : List UInt8) (h : acc.getLast? = some l) : okT acc t = decide (l < t) := by unfold okT; rw [h]
end Go.Ck

set_option linter.unusedVariables false
namespace Go.Ck
def sameM (a b : Man) : Bool := decide (a.v = b.v ∧ a.prev = b.prev ∧ a.root = b.root ∧ a.es = b.es)
theorem sameM_eq (a b : Man) : sameM a b = true ↔ a = b := by
  obtain ⟨v, p, es, r⟩ := a
  obtain ⟨v2, p2, es2, r2⟩ := b
  simp only [sameM, decide_eq_true_eq, Man.mk.injEq]
  constructor
  · rintro ⟨h1, h2, h3, h4⟩; exact ⟨h1, h2, h4, h3⟩
  · rintro ⟨h1, h2, h4, h3⟩; exact ⟨h1, h2, h3, h4⟩
theorem sameM_self (a : Man) : sameM a a = true := (sameM_eq a a).2 rfl
end Go.Ck

set_option linter.unusedVariables false
namespace Go.Ck
def signM (key : List Nat) (m : Man) : List Nat × Int :=
  if (dk key 4 []).2 ≠ 0 then ([], ((dk key 4 []).2 : Int)) else if (encM m).2 ≠ 0 then ([], ((encM m).2 : Int)) else ((encM m).1 ++ hmac (dk key 4 []).1 (encM m).1, 0)
theorem bodyM_len (m : Man) (h : wrongM m = 0) (hv : m.v < 2 ^ 64) : (bodyM m).length ≤ 2 ^ 28 ∧ 0 < (bodyM m).length := by
  obtain ⟨w1, w2, w3, w4, w5, w6⟩ := wrongM_zero h
  have hnl : (dirS m.es).length ≤ m.es.length := by rw [dirS_len]; exact nmS_len _
  have hn64 : ∀ s ∈ dirS m.es, s.length ≤ 64 := by
    intro s hs
    obtain ⟨e, he, rfl⟩ := (dirS_mem m.es s).1 hs
    exact w6 e he
  have h1 := flatMap_le blkS 74 (dirS m.es) (fun s hs => blkS_len s (hn64 s hs))
  have h2 := flatMap_le (entB (dirS m.es)) 11 m.es (fun s hs => entB_len _ s (by omega))
  have l1 := leb_len10 (v := (dirS m.es).length) (by omega)
  have l2 := leb_len10 (v := m.es.length) (by omega)
  have hb := beB_len m.v 8
  simp only [bodyM, headM, List.length_append, List.length_cons, List.length_nil]
  omega
theorem encM_len (m : Man) (hv : m.v < 2 ^ 64) : (encM m).1.length ≤ 2 ^ 28 := by
  unfold encM
  split
  · simp
  · rename_i h
    exact (bodyM_len m (by simpa using h) hv).1
theorem encM_pos (m : Man) (hv : m.v < 2 ^ 64) (h : (encM m).2 = 0) : 0 < (encM m).1.length := by
  unfold encM at h ⊢
  split at h
  · rename_i h1
    exact absurd h h1
  · rename_i h1
    rw [if_neg h1]
    exact (bodyM_len m (by simpa using h1) hv).2
end Go.Ck

set_option linter.unusedVariables false
namespace Go.Ck
def z32 : List Nat := List.replicate 32 0
theorem z32_byte : ∀ x ∈ z32, x < 256 := by decide
def awM : Man := ⟨1, z32, [], z32⟩
theorem dirS_nil : dirS [] = [] := by simp [dirS, nmS, sortS]
theorem awM_wrong : wrongM awM = 0 := by decide
theorem awM_body : bodyM awM = [67, 83, 75, 49] ++ beB 1 8 ++ z32 ++ [0] ++ [0] ++ z32 := by
  unfold bodyM headM awM
  have h0 : leb ([] : List Ent).length = [0] := by show leb 0 = [0]; rw [leb]; simp
  have h1 : leb ([] : List (List UInt8)).length = [0] := by show leb 0 = [0]; rw [leb]; simp
  simp only [dirS_nil]
  rw [h0, h1]
  rfl
theorem awM_enc : encM awM = ([67, 83, 75, 49] ++ beB 1 8 ++ z32 ++ [0] ++ [0] ++ z32, 0) := by
  unfold encM; rw [if_neg (by rw [awM_wrong]; simp), awM_body]
theorem awM_dec : decM ([67, 83, 75, 49] ++ beB 1 8 ++ z32 ++ [0] ++ [0] ++ z32) = (awM, 0) := by
  have e1 : decM ([67, 83, 75, 49] ++ beB 1 8 ++ z32 ++ [0] ++ [0] ++ z32) = decM1 (beB 1 8 ++ z32 ++ [0] ++ [0] ++ z32) := rfl
  have e2 : decM1 (beB 1 8 ++ z32 ++ [0] ++ [0] ++ z32) = decM2 1 (z32 ++ [0] ++ [0] ++ z32) := rfl
  have e3 : decM2 1 (z32 ++ [0] ++ [0] ++ z32) = decM3 1 z32 ([0] ++ [0] ++ z32) := rfl
  have e4 : decM3 1 z32 ([0] ++ [0] ++ z32) = decM4 1 z32 [] ([0] ++ z32) := rfl
  have e5 : decM4 1 z32 [] ([0] ++ z32) = decM5 1 z32 [] [] z32 := rfl
  rw [e1, e2, e3, e4, e5]
  unfold decM5
  rw [dirS_nil]
  rfl
theorem awM_sign : (signM z32 awM).2 = 0 ∧ (signM z32 awM).1.length = 110 := by
  have h : (dk z32 4 []).2 = 0 := rfl
  unfold signM
  rw [h, awM_enc]
  simp only [ne_eq, not_true_eq_false, if_false]
  refine ⟨trivial, ?_⟩
  rw [List.length_append, hmac_len]
  rfl
end Go.Ck

set_option linter.unusedVariables false
namespace Go.Ck
theorem beN_initM : ∀ (l : List Nat) (a : Nat), l.foldl (fun a x => a * 256 + x) a = a * 256 ^ l.length + beN l
  | [], a => by simp [beN]
  | x :: r, a => by
    have h1 := beN_initM r (a * 256 + x)
    have h2 := beN_initM r (0 * 256 + x)
    have e : beN (x :: r) = r.foldl (fun a x => a * 256 + x) (0 * 256 + x) := rfl
    rw [List.foldl_cons, h1, e, h2, List.length_cons, Nat.pow_succ, Nat.add_mul, Nat.zero_mul, Nat.zero_add, Nat.mul_assoc, Nat.mul_comm (256 ^ r.length) 256, Nat.add_assoc]
theorem beN_consM (x : Nat) (r : List Nat) : beN (x :: r) = x * 256 ^ r.length + beN r := by
  have := beN_initM r (0 * 256 + x)
  have e : beN (x :: r) = r.foldl (fun a x => a * 256 + x) (0 * 256 + x) := rfl
  rw [e, this, Nat.zero_mul, Nat.zero_add]
theorem beB_addM : ∀ (j n k v : Nat), j ≤ n → beB (k * 256 ^ n + v) j = beB v j
  | 0, n, k, v, h => rfl
  | j + 1, n, k, v, h => by
    rw [beB_succ, beB_succ, beB_addM j n k v (by omega)]
    congr 1
    obtain ⟨d, rfl⟩ : ∃ d, n = j + 1 + d := ⟨n - (j + 1), by omega⟩
    have e : k * 256 ^ (j + 1 + d) = 256 ^ j * (256 * (k * 256 ^ d)) := by
      rw [Nat.pow_add, Nat.pow_succ]
      ac_rfl
    rw [e, Nat.mul_add_div (Nat.pow_pos (by decide)), Nat.mul_add_mod]
theorem beB_beNM : ∀ (l : List Nat), (∀ x ∈ l, x < 256) → beB (beN l) l.length = l
  | [], _ => rfl
  | x :: r, h => by
    have hx := h x (by simp)
    have hr : ∀ y ∈ r, y < 256 := fun y hy => h y (by simp [hy])
    have hlt := beN_lt r hr
    rw [List.length_cons, beB_succ, beN_consM, beB_addM _ _ _ _ (Nat.le_refl _), beB_beNM r hr]
    congr 1
    rw [Nat.mul_comm, Nat.mul_add_div (Nat.pow_pos (by decide)), Nat.div_eq_of_lt hlt, Nat.add_zero, Nat.mod_eq_of_lt hx]
theorem okT_pair {acc : List (List UInt8)} {t : List UInt8} (h : acc.Pairwise (· < ·)) (ho : okT acc t = true) : (acc ++ [t]).Pairwise (· < ·) := by
  rw [List.pairwise_append]
  refine ⟨h, by simp, fun a ha b hb => ?_⟩
  have hbt : b = t := by simpa using hb
  subst hbt
  have hne : acc ≠ [] := by rintro rfl; cases ha
  have hl : acc.getLast? = some (acc.getLast hne) := List.getLast?_eq_some_getLast hne
  rw [okT_last b hl] at ho
  have ho := of_decide_eq_true ho
  have e := List.dropLast_concat_getLast hne
  rw [← e] at ha h
  rcases List.mem_append.1 ha with ha | ha
  · exact List.lt_trans ((List.pairwise_append.1 h).2.2 a ha _ (by simp)) ho
  · have : a = acc.getLast hne := by simpa using ha
    rw [this]; exact ho
theorem cntD_inv {q : List Nat} (hb : ∀ x ∈ q, x < 256) (h : (cntD q).2.1 = 0) : q = leb (cntD q).1 ++ (cntD q).2.2 := by
  unfold cntD at h ⊢
  split at h
  · rename_i h1; exact absurd h h1
  · rename_i h1
    rw [if_neg h1]
    split at h
    · cases h
    · rename_i h2
      rw [if_neg h2]
      exact (readV_canon2 hb (by simpa using h1)).1
theorem tnD_inv : ∀ (n : Nat) (acc : List (List UInt8)) (q : List Nat), (∀ x ∈ q, x < 256) → acc.Pairwise (· < ·) → (∀ s ∈ acc, s.length ≤ 64) → (tnD n acc q).2.1 = 0 →
    ∃ ss, (tnD n acc q).1 = acc ++ ss ∧ ss.length = n ∧ q = ss.flatMap blkS ++ (tnD n acc q).2.2 ∧ (acc ++ ss).Pairwise (· < ·) ∧ ∀ s ∈ acc ++ ss, s.length ≤ 64
  | 0, acc, q, hb, hp, hl, h => ⟨[], by simp [tnD], rfl, rfl, by simpa using hp, by simpa using hl⟩
  | n + 1, acc, q, hb, hp, hl, h => by
    obtain ⟨b1, b2, b3, b4⟩ := blk_byte (m := 64) hb
    rw [tnD] at h ⊢
    by_cases h1 : (blk q 64).2.1 = 0
    · rw [if_neg (by simpa using h1)] at h ⊢
      by_cases h2 : okT acc (ub (blk q 64).1) = true
      · rw [if_pos h2] at h ⊢
        obtain ⟨c1, c2⟩ := blk_canon hb h1
        have hul : (ub (blk q 64).1).length ≤ 64 := by rw [ub_len]; exact c2
        obtain ⟨ss, e1, e2, e3, e4, e5⟩ := tnD_inv n (acc ++ [ub (blk q 64).1]) (blk q 64).2.2 b2 (okT_pair hp h2) (fun s hs => by
          rcases List.mem_append.1 hs with hs | hs
          · exact hl s hs
          · have : s = ub (blk q 64).1 := by simpa using hs
            rw [this]; exact hul) h
        refine ⟨ub (blk q 64).1 :: ss, by rw [e1]; simp, by simp [e2], ?_, by simpa using e4, by simpa using e5⟩
        rw [List.flatMap_cons, List.append_assoc, ← e3, blkS, ub_len, nb_ub b1]
        exact c1
      · rw [if_neg h2] at h; cases h
    · rw [if_pos h1] at h; exact absurd h h1
theorem tensD_inv {q : List Nat} (hb : ∀ x ∈ q, x < 256) (h : (tensD q).2.1 = 0) : q = leb (tensD q).1.length ++ (tensD q).1.flatMap blkS ++ (tensD q).2.2 ∧ (tensD q).1.Pairwise (· < ·) ∧ ∀ s ∈ (tensD q).1, s.length ≤ 64 := by
  unfold tensD at h ⊢
  by_cases h1 : (cntD q).2.1 = 0
  · rw [if_neg (by simpa using h1)] at h ⊢
    have hc := cntD_inv hb h1
    obtain ⟨ss, e1, e2, e3, e4, e5⟩ := tnD_inv (cntD q).1 [] (cntD q).2.2 (cntD_byte hb) (by simp) (by simp) h
    rw [List.nil_append] at e1 e4 e5
    rw [e1, e2, List.append_assoc, ← e3]
    exact ⟨hc, e4, e5⟩
  · rw [if_pos h1] at h; exact absurd h h1
theorem enD_inv {ts : List (List UInt8)} (hn : ts.Nodup) : ∀ (n : Nat) (acc : List Ent) (q : List Nat), (∀ x ∈ q, x < 256) → (enD ts n acc q).2.1 = 0 →
    ∃ es, (enD ts n acc q).1 = acc ++ es ∧ es.length = n ∧ q = es.flatMap (entB ts) ++ (enD ts n acc q).2.2 ∧ ∀ e ∈ es, e.1 ∈ ts ∧ 0 ≤ e.2 ∧ e.2 ≤ 8
  | 0, acc, q, hb, h => ⟨[], by simp [enD], rfl, rfl, by simp⟩
  | n + 1, acc, q, hb, h => by
    have hb2 : ∀ x ∈ q.drop (readV q).2.1, x < 256 := fun x hx => hb x (List.mem_of_mem_drop hx)
    rw [enD] at h ⊢
    by_cases h1 : (readV q).2.2 = 0
    · rw [if_neg (by simpa using h1)] at h ⊢
      have hc := (readV_canon2 hb h1).1
      generalize q.drop (readV q).2.1 = q2 at *
      generalize (readV q).1 = v at *
      by_cases h2 : ts.length ≤ v
      · rw [if_pos h2] at h; cases h
      · rw [if_neg h2] at h ⊢
        by_cases h3 : q2.length < 1
        · rw [if_pos h3] at h; cases h
        · rw [if_neg h3] at h ⊢
          by_cases h4 : 8 < q2.headD 0
          · rw [if_pos h4] at h; cases h
          · rw [if_neg h4] at h ⊢
            obtain ⟨x, q3, rfl⟩ : ∃ x r, q2 = x :: r := by
              cases q2 with
              | nil => simp at h3
              | cons x r => exact ⟨x, r, rfl⟩
            have t2 : (x :: q3).drop 1 = q3 := rfl
            have t3 : (x :: q3).headD 0 = x := rfl
            rw [t2, t3] at h ⊢
            rw [t3] at h4
            obtain ⟨es, e1, e2, e3, e4⟩ := enD_inv hn n _ q3 (fun y hy => hb2 y (by simp [hy])) h
            have hvl : v < ts.length := by omega
            have hg : ts.getD v [] = ts[v] := by rw [List.getD_eq_getElem?_getD, List.getElem?_eq_getElem hvl]; rfl
            refine ⟨entD (ts.getD v []) x :: es, by rw [e1]; simp, by simp [e2], ?_, ?_⟩
            · rw [List.flatMap_cons, List.append_assoc, ← e3]
              have : entB ts (entD (ts.getD v []) x) = leb v ++ [x] := by
                unfold entB entD
                simp only [Int.toNat_natCast]
                rw [hg, List.Nodup.idxOf_getElem hn v hvl]
              rw [this, List.append_assoc]
              exact hc
            · intro e he
              rcases List.mem_cons.1 he with rfl | he
              · refine ⟨?_, by simp only [entD]; omega, by simp only [entD]; omega⟩
                simp only [entD]
                rw [hg]; exact List.getElem_mem hvl
              · exact e4 e he
    · rw [if_pos h1] at h; exact absurd h h1
theorem entsD_inv {ts : List (List UInt8)} (hn : ts.Nodup) {q : List Nat} (hb : ∀ x ∈ q, x < 256) (h : (entsD ts q).2.1 = 0) : q = leb (entsD ts q).1.length ++ (entsD ts q).1.flatMap (entB ts) ++ (entsD ts q).2.2 ∧ ∀ e ∈ (entsD ts q).1, e.1 ∈ ts ∧ 0 ≤ e.2 ∧ e.2 ≤ 8 := by
  unfold entsD at h ⊢
  by_cases h1 : (cntD q).2.1 = 0
  · rw [if_neg (by simpa using h1)] at h ⊢
    have hc := cntD_inv hb h1
    obtain ⟨es, e1, e2, e3, e4⟩ := enD_inv hn (cntD q).1 [] (cntD q).2.2 (cntD_byte hb) h
    rw [List.nil_append] at e1
    rw [e1, e2, List.append_assoc, ← e3]
    exact ⟨hc, e4⟩
  · rw [if_pos h1] at h; exact absurd h h1
theorem pw_nodup {l : List (List UInt8)} (h : l.Pairwise (· < ·)) : l.Nodup := h.imp (fun {a b} h e => by subst e; exact List.lt_irrefl a h)
/-- All the names of a directory are told. -/
theorem dirS_all {es : List Ent} {ts : List (List UInt8)} (hs : ts.Pairwise (· < ·)) (he : ∀ e ∈ es, e.1 ∈ ts) (hl : (dirS es).length = ts.length) : dirS es = ts := by
  have hsub : ∀ s ∈ dirS es, s ∈ ts := by
    intro s hm
    obtain ⟨e, h1, rfl⟩ := (dirS_mem es s).1 hm
    exact he e h1
  refine sorted_ext (dirS_sorted es) hs (fun x => ⟨hsub x, fun hx => ?_⟩)
  refine Classical.byContradiction (fun hn => ?_)
  have h1 : (x :: dirS es).Nodup := List.nodup_cons.2 ⟨hn, dirS_nodup es⟩
  have h2 := h1.length_le_of_subset (l₂ := ts) (fun s hs' => by
    rcases List.mem_cons.1 hs' with rfl | h3
    · exact hx
    · exact hsub s h3)
  simp only [List.length_cons] at h2
  omega
theorem decM_inv {b : List Nat} (hb : ∀ x ∈ b, x < 256) (h : (decM b).2 = 0) : encM (decM b).1 = (b, 0) ∧ (decM b).1.v < 2 ^ 64 := by
  unfold decM at h ⊢
  split at h
  · cases h
  rename_i h1
  rw [if_neg h1]
  split at h
  · cases h
  rename_i h2
  rw [if_neg h2]
  have h2' : b.take 4 = [67, 83, 75, 49] := by simpa using h2
  have eb : b = [67, 83, 75, 49] ++ b.drop 4 := by rw [← h2', List.take_append_drop]
  have hb1 : ∀ x ∈ b.drop 4, x < 256 := fun x hx => hb x (List.mem_of_mem_drop hx)
  generalize b.drop 4 = q1 at *
  subst eb
  clear h1 h2 h2' hb
  unfold decM1 at h ⊢
  split at h
  · cases h
  rename_i h1
  rw [if_neg h1]
  split at h
  · cases h
  rename_i h2
  rw [if_neg h2]
  have hb8 : ∀ x ∈ q1.take 8, x < 256 := fun x hx => hb1 x (List.mem_of_mem_take hx)
  have hl8 : (q1.take 8).length = 8 := by rw [List.length_take]; omega
  have hv := beB_beNM (q1.take 8) hb8
  have hvl := beN_lt (q1.take 8) hb8
  rw [hl8] at hv hvl
  have eq1 : q1 = q1.take 8 ++ q1.drop 8 := (List.take_append_drop 8 q1).symm
  rw [← hv] at eq1
  have hb2 : ∀ x ∈ q1.drop 8, x < 256 := fun x hx => hb1 x (List.mem_of_mem_drop hx)
  generalize beN (q1.take 8) = v at *
  generalize q1.drop 8 = q2 at *
  rw [eq1]
  clear eq1 h1 hb8 hl8 hv hb1
  unfold decM2 at h ⊢
  split at h
  · cases h
  rename_i h1
  rw [if_neg h1]
  have hp : (q2.take 32).length = 32 := by rw [List.length_take]; omega
  have eq2 : q2 = q2.take 32 ++ q2.drop 32 := (List.take_append_drop 32 q2).symm
  have hb3 : ∀ x ∈ q2.drop 32, x < 256 := fun x hx => hb2 x (List.mem_of_mem_drop hx)
  generalize q2.take 32 = prev at *
  generalize q2.drop 32 = q3 at *
  subst eq2
  clear h1 hb2
  unfold decM3 at h ⊢
  split at h
  · rename_i h3; exact absurd h h3
  rename_i h3
  rw [if_neg h3]
  obtain ⟨i1, i2, i3⟩ := tensD_inv hb3 (by simpa using h3)
  have hb4 := tensD_byte hb3
  generalize (tensD q3).1 = ts at *
  generalize (tensD q3).2.2 = q4 at *
  rw [i1]
  clear i1 h3 hb3
  have hnd := pw_nodup i2
  unfold decM4 at h ⊢
  split at h
  · rename_i h3; exact absurd h h3
  rename_i h3
  rw [if_neg h3]
  obtain ⟨j1, j2⟩ := entsD_inv hnd hb4 (by simpa using h3)
  have hel := entsD_n ts q4
  generalize (entsD ts q4).1 = es at *
  generalize (entsD ts q4).2.2 = q5 at *
  rw [j1]
  clear j1 h3 hb4
  unfold decM5 at h ⊢
  split at h
  · cases h
  rename_i h4
  rw [if_neg h4]
  split at h
  · cases h
  rename_i h5
  rw [if_neg h5]
  split at h
  · cases h
  rename_i h6
  rw [if_neg h6]
  have hd : dirS es = ts := dirS_all i2 (fun e he => (j2 e he).1) (by simpa using h6)
  have hq5 : q5 = q5.take 32 := by
    have := List.take_append_drop 32 q5
    rw [show q5.drop 32 = [] by simpa using h5, List.append_nil] at this
    exact this.symm
  have hr : (q5.take 32).length = 32 := by rw [List.length_take]; omega
  have hw : wrongM ⟨v, prev, es, q5.take 32⟩ = 0 := by
    unfold wrongM
    simp only
    rw [if_neg (by rintro (h | h | h); exact h2 h; exact h hp; exact h hr), if_neg, if_neg]
    · rintro (h | h)
      · omega
      · obtain ⟨e, he, h7⟩ := List.any_eq_true.1 h
        have := i3 e.1 (j2 e he).1
        unfold longB at h7
        have := of_decide_eq_true h7
        omega
    · intro h
      obtain ⟨e, he, h7⟩ := List.any_eq_true.1 h
      have := j2 e he
      unfold badB at h7
      have h8 : padSz e.2 = 0 := by simpa using h7
      rw [padSz_zero] at h8
      exact h8 ⟨this.2.1, this.2.2⟩
  refine ⟨?_, hvl⟩
  unfold encM
  rw [if_neg (by rw [hw]; simp)]
  have : bodyM ⟨v, prev, es, q5.take 32⟩ = [67, 83, 75, 49] ++ (beB v 8 ++ (prev ++ (leb ts.length ++ ts.flatMap blkS ++ (leb es.length ++ es.flatMap (entB ts) ++ q5)))) := by
    unfold bodyM headM
    simp only [hd, ← hq5]
    simp only [List.append_assoc]
  rw [this]
theorem decM_bad {b : List Nat} (h : (decM b).2 ≠ 0) : (decM b).1 = ⟨0, [], [], []⟩ := by
  unfold decM at h ⊢
  split
  · rfl
  split
  · rfl
  rename_i h1 h2
  rw [if_neg h1, if_neg h2] at h
  unfold decM1 at h ⊢
  split
  · rfl
  split
  · rfl
  rename_i h1 h2
  rw [if_neg h1, if_neg h2] at h
  unfold decM2 at h ⊢
  split
  · rfl
  rename_i h1
  rw [if_neg h1] at h
  unfold decM3 at h ⊢
  split
  · rfl
  rename_i h1
  rw [if_neg h1] at h
  unfold decM4 at h ⊢
  split
  · rfl
  rename_i h1
  rw [if_neg h1] at h
  unfold decM5 at h ⊢
  split
  · rfl
  split
  · rfl
  split
  · rfl
  rename_i h1 h2 h3
  rw [if_neg h1, if_neg h2, if_neg h3] at h
  exact absurd rfl h
end Go.Ck

set_option linter.unusedVariables false
namespace Go.Ck
end Go.Ck

set_option linter.unusedVariables false
namespace Go.Ck
abbrev RdS := List Nat × Int
def rdB (n : Nat) (s : RdS) : List Nat × RdS := if s.2 ≠ 0 then ([], s) else if n ≤ s.1.length then (s.1.take n, s.1.drop n, 0) else ([], s.1, 2)
def rdV (s : RdS) : Nat × RdS := if s.2 ≠ 0 then (0, s) else ((readV s.1).1, s.1.drop (readV s.1).2.1, (readV s.1).2.2)
def rdN (ok : Bool) (e : Int) (s : RdS) : RdS := if s.2 = 0 ∧ ok = false then (s.1, e) else s
def rdT : Nat → List (List UInt8) → RdS → List (List UInt8) × RdS
  | 0, acc, s => (acc, s)
  | k + 1, acc, s => if s.2 ≠ 0 then (acc, s) else rdT k (acc ++ [ub (blk s.1 64).1]) (rdN (okT acc (ub (blk s.1 64).1)) 3 ((blk s.1 64).2.2, (blk s.1 64).2.1))
def rdD (s : RdS) : List (List UInt8) × RdS := rdT (rdV s).1 [] (rdN (decide ((rdV s).1 ≤ 1048576)) 4 (rdV s).2)
def rdE1 (ts : List (List UInt8)) (s : RdS) : RdS := rdN (decide ((rdV s).1 < ts.length)) 3 (rdV s).2
def okOne (l : List Nat) : Bool := decide (l.length = 1) && decide (l.headD 0 ≤ 8)
theorem okOne_one (x : Nat) : okOne [x] = decide (x ≤ 8) := by unfold okOne; simp
def rdE2 (ts : List (List UInt8)) (s : RdS) : RdS := rdN (okOne (rdB 1 (rdE1 ts s)).1) 3 (rdB 1 (rdE1 ts s)).2
def rdE (ts : List (List UInt8)) : Nat → List Bool → List Ent → RdS → List Bool × List Ent × RdS
  | 0, us, es, s => (us, es, s)
  | k + 1, us, es, s => if s.2 ≠ 0 then (us, es, s) else if (rdE2 ts s).2 = 0 then rdE ts k (us.set (rdV s).1 true) (es ++ [entD (ts.getD (rdV s).1 []) ((rdB 1 (rdE1 ts s)).1.headD 0)]) (rdE2 ts s)
      else rdE ts k us es (rdE2 ts s)
def rdU : List Bool → RdS → RdS
  | [], s => s
  | u :: us, s => rdU us (rdN u 3 s)
def refD5 (v : Nat) (p : List Nat) (us : List Bool) (es : List Ent) (s : RdS) : Man × Int :=
  if (rdU us (rdN (decide ((rdB 32 s).2.1.length = 0)) 3 (rdB 32 s).2)).2 ≠ 0 then noM (rdU us (rdN (decide ((rdB 32 s).2.1.length = 0)) 3 (rdB 32 s).2)).2 else (⟨v, p, es, (rdB 32 s).1⟩, 0)
def rdEs (ts : List (List UInt8)) (s : RdS) : List Bool × List Ent × RdS := rdE ts (rdV s).1 (List.replicate ts.length false) [] (rdN (decide ((rdV s).1 ≤ 1048576)) 4 (rdV s).2)
def refD4 (v : Nat) (p : List Nat) (ts : List (List UInt8)) (s : RdS) : Man × Int := refD5 v p (rdEs ts s).1 (rdEs ts s).2.1 (rdEs ts s).2.2
def refD3 (v : Nat) (p : List Nat) (s : RdS) : Man × Int := refD4 v p (rdD s).1 (rdD s).2
def refD2 (v : Nat) (s : RdS) : Man × Int := refD3 v (rdB 32 s).1 (rdB 32 s).2
def refD1 (s : RdS) : Man × Int := refD2 (beN (rdB 8 s).1) (rdN (beN (rdB 8 s).1 != 18446744073709551615) 3 (rdB 8 s).2)
def refD (b : List Nat) : Man × Int := refD1 (rdN ((rdB 4 (b, 0)).1 == [67, 83, 75, 49]) 3 (rdB 4 (b, 0)).2)

theorem rdB_err {n : Nat} {s : RdS} (h : s.2 ≠ 0) : rdB n s = ([], s) := by unfold rdB; rw [if_pos h]
theorem rdV_err {s : RdS} (h : s.2 ≠ 0) : rdV s = (0, s) := by unfold rdV; rw [if_pos h]
theorem rdN_err {ok : Bool} {e : Int} {s : RdS} (h : s.2 ≠ 0) : rdN ok e s = s := by unfold rdN; rw [if_neg (fun k => h k.1)]
theorem rdN_ok (ok : Bool) (e : Int) (q : List Nat) : rdN ok e (q, 0) = if ok = true then (q, 0) else (q, e) := by
  unfold rdN; cases ok <;> simp
theorem rdT_err : ∀ (n : Nat) (acc : List (List UInt8)) {s : RdS}, s.2 ≠ 0 → rdT n acc s = (acc, s)
  | 0, acc, s, h => rfl
  | n + 1, acc, s, h => by unfold rdT; rw [if_pos h]
theorem rdE_err (ts : List (List UInt8)) : ∀ (n : Nat) (us : List Bool) (es : List Ent) {s : RdS}, s.2 ≠ 0 → rdE ts n us es s = (us, es, s)
  | 0, us, es, s, h => rfl
  | n + 1, us, es, s, h => by unfold rdE; rw [if_pos h]
theorem rdU_err : ∀ (us : List Bool) {s : RdS}, s.2 ≠ 0 → rdU us s = s
  | [], s, h => rfl
  | u :: us, s, h => by unfold rdU; rw [rdN_err h]; exact rdU_err us h
theorem rdU_ok : ∀ (us : List Bool) (q : List Nat), rdU us (q, 0) = if us.all id = true then (q, 0) else (q, 3)
  | [], q => rfl
  | u :: us, q => by
    unfold rdU; rw [rdN_ok]
    cases u with
    | true => rw [if_pos rfl, rdU_ok us q]; simp
    | false => rw [if_neg (by decide), rdU_err us (by simp)]; simp
theorem refD5_err {v : Nat} {p : List Nat} {us : List Bool} {es : List Ent} {s : RdS} (h : s.2 ≠ 0) : refD5 v p us es s = noM s.2 := by
  unfold refD5; rw [rdB_err h, rdN_err h, rdU_err us h, if_pos h]
theorem refD4_err {v : Nat} {p : List Nat} {ts : List (List UInt8)} {s : RdS} (h : s.2 ≠ 0) : refD4 v p ts s = noM s.2 := by
  unfold refD4 rdEs; rw [rdV_err h, rdN_err h, rdE_err ts _ _ _ h]; exact refD5_err h
theorem refD3_err {v : Nat} {p : List Nat} {s : RdS} (h : s.2 ≠ 0) : refD3 v p s = noM s.2 := by
  unfold refD3 rdD; rw [rdV_err h, rdN_err h, rdT_err _ _ h]; exact refD4_err h
theorem refD2_err {v : Nat} {s : RdS} (h : s.2 ≠ 0) : refD2 v s = noM s.2 := by
  unfold refD2; rw [rdB_err h]; exact refD3_err h
theorem refD1_err {s : RdS} (h : s.2 ≠ 0) : refD1 s = noM s.2 := by
  unfold refD1; rw [rdB_err h, rdN_err h]; exact refD2_err h

theorem rdB_ok (n : Nat) (q : List Nat) : rdB n (q, 0) = if q.length < n then ([], q, 2) else (q.take n, q.drop n, 0) := by
  unfold rdB; rw [if_neg (by simp)]
  by_cases h : n ≤ q.length
  · rw [if_pos h, if_neg (by omega)]
  · rw [if_neg h, if_pos (by omega)]
theorem rdV_ok (q : List Nat) : rdV (q, 0) = ((readV q).1, q.drop (readV q).2.1, (readV q).2.2) := by unfold rdV; rw [if_neg (by simp)]
theorem rdT_ok : ∀ (n : Nat) (acc : List (List UInt8)) (q : List Nat), (rdT n acc (q, 0)).2.2 = (tnD n acc q).2.1 ∧ ((tnD n acc q).2.1 = 0 → rdT n acc (q, 0) = ((tnD n acc q).1, (tnD n acc q).2.2, 0))
  | 0, acc, q => ⟨rfl, fun _ => rfl⟩
  | n + 1, acc, q => by
    unfold rdT tnD
    rw [if_neg (by simp)]
    simp only
    by_cases h1 : (blk q 64).2.1 = 0
    · rw [if_neg (by simp [h1]), h1, rdN_ok]
      cases okT acc (ub (blk q 64).1) with
      | true => rw [if_pos rfl, if_pos rfl]; exact rdT_ok n _ _
      | false => rw [if_neg (by decide), if_neg (by decide), rdT_err _ _ (by simp)]; exact ⟨rfl, fun h => by simp at h⟩
    · rw [if_pos h1, rdN_err h1, rdT_err _ _ h1]; exact ⟨rfl, fun h => absurd h h1⟩
theorem cntD_1 {q : List Nat} (h : (readV q).2.2 ≠ 0) : cntD q = (0, (readV q).2.2, q.drop (readV q).2.1) := by unfold cntD; rw [if_pos h]
theorem cntD_2 {q : List Nat} (h : (readV q).2.2 = 0) (h2 : 1048576 < (readV q).1) : cntD q = (0, 4, q.drop (readV q).2.1) := by unfold cntD; rw [if_neg (fun k => k h), if_pos h2]
theorem cntD_3 {q : List Nat} (h : (readV q).2.2 = 0) (h2 : ¬ 1048576 < (readV q).1) : cntD q = ((readV q).1, 0, q.drop (readV q).2.1) := by unfold cntD; rw [if_neg (fun k => k h), if_neg h2]
theorem rdD_ok (q : List Nat) : (rdD (q, 0)).2.2 = (tensD q).2.1 ∧ ((tensD q).2.1 = 0 → rdD (q, 0) = ((tensD q).1, (tensD q).2.2, 0)) := by
  unfold rdD tensD; rw [rdV_ok]
  by_cases h1 : (readV q).2.2 = 0
  · by_cases h2 : 1048576 < (readV q).1
    · rw [cntD_2 h1 h2, h1, rdN_ok, if_neg (by simpa using h2), rdT_err _ _ (by simp), if_pos (by simp)]; exact ⟨rfl, fun h => by simp at h⟩
    · rw [cntD_3 h1 h2, h1, rdN_ok, if_pos (by simpa using h2), if_neg (by simp)]; exact rdT_ok _ _ _
  · rw [cntD_1 h1, rdN_err h1, rdT_err _ _ h1, if_pos h1]; exact ⟨rfl, fun h => absurd h h1⟩
def usD (ts : List (List UInt8)) (es : List Ent) : List Bool := ts.map (fun t => decide (t ∈ es.map (·.1)))
theorem usD_nil (ts : List (List UInt8)) : List.replicate ts.length false = usD ts [] := by
  unfold usD; symm; rw [List.eq_replicate_iff]; exact ⟨by simp, fun b hb => by simp at hb; exact hb.2⟩
theorem usD_snoc {ts : List (List UInt8)} (hn : ts.Nodup) {es : List Ent} {i : Nat} (hi : i < ts.length) (x : Nat) : (usD ts es).set i true = usD ts (es ++ [entD (ts.getD i []) x]) := by
  refine List.ext_getElem (by simp [usD]) (fun j h1 h2 => ?_)
  have hj : j < ts.length := by simpa [usD] using h2
  rw [List.getElem_set]
  have hd : ts.getD i [] = ts[i] := by rw [List.getD_eq_getElem?_getD, List.getElem?_eq_getElem hi]; rfl
  by_cases hij : i = j
  · subst hij; rw [if_pos rfl]; simp [usD, entD, hi]
  · rw [if_neg hij]
    have hne : ts[j] ≠ ts[i] := fun h => hij ((List.getElem_inj hn).1 h.symm)
    simp only [usD, List.getElem_map, List.map_append, List.map_cons, List.map_nil, List.mem_append, List.mem_singleton, entD, hd]
    rw [decide_eq_decide]
    exact ⟨.inl, fun h => h.resolve_right hne⟩
theorem rdE_ok {ts : List (List UInt8)} (hn : ts.Nodup) : ∀ (n : Nat) (es : List Ent) (q : List Nat), (rdE ts n (usD ts es) es (q, 0)).2.2.2 = (enD ts n es q).2.1 ∧ ((enD ts n es q).2.1 = 0 → rdE ts n (usD ts es) es (q, 0) = (usD ts (enD ts n es q).1, (enD ts n es q).1, (enD ts n es q).2.2, 0))
  | 0, es, q => ⟨rfl, fun _ => rfl⟩
  | n + 1, es, q => by
    have bad : ∀ {e : Int} {q' : List Nat} (h2 : rdE2 ts (q, 0) = (q', e)) (h : e ≠ 0), rdE ts (n + 1) (usD ts es) es (q, 0) = (usD ts es, es, (q', e)) := fun {e q'} h2 h => by
      unfold rdE; rw [if_neg (by simp), h2, if_neg h, rdE_err _ _ _ _ h]
    by_cases h1 : (readV q).2.2 = 0
    rotate_left
    · have e1 : rdE1 ts (q, 0) = (q.drop (readV q).2.1, (readV q).2.2) := by unfold rdE1; rw [rdV_ok]; exact rdN_err h1
      have e2 : rdE2 ts (q, 0) = (q.drop (readV q).2.1, (readV q).2.2) := by unfold rdE2; rw [e1, rdB_err h1]; exact rdN_err h1
      rw [bad e2 h1]; unfold enD; rw [if_pos h1]; exact ⟨rfl, fun h => absurd h h1⟩
    have e1 : rdE1 ts (q, 0) = if (readV q).1 < ts.length then (q.drop (readV q).2.1, 0) else (q.drop (readV q).2.1, 3) := by
      unfold rdE1; rw [rdV_ok, h1]; simp only; rw [rdN_ok]; simp
    unfold enD
    rw [if_neg (by simp [h1])]
    by_cases h2 : (readV q).1 < ts.length
    rotate_left
    · rw [if_neg h2] at e1
      have e2 : rdE2 ts (q, 0) = (q.drop (readV q).2.1, 3) := by unfold rdE2; rw [e1, rdB_err (by simp)]; exact rdN_err (by simp)
      rw [bad e2 (by simp), if_pos (by omega)]; exact ⟨rfl, fun h => by simp at h⟩
    rw [if_pos h2] at e1
    rw [if_neg (by omega)]
    by_cases h3 : (q.drop (readV q).2.1).length < 1
    · have e2 : rdE2 ts (q, 0) = (q.drop (readV q).2.1, 2) := by unfold rdE2; rw [e1, rdB_ok, if_pos h3]; exact rdN_err (by simp)
      rw [bad e2 (by simp), if_pos h3]; exact ⟨rfl, fun h => by simp at h⟩
    rw [if_neg h3]
    obtain ⟨x, r, hr⟩ : ∃ x r, q.drop (readV q).2.1 = x :: r := by
      cases h : q.drop (readV q).2.1 with
      | nil => rw [h] at h3; simp at h3
      | cons x r => exact ⟨x, r, rfl⟩
    rw [hr] at e1 h3 ⊢
    have hb : rdB 1 (rdE1 ts (q, 0)) = ([x], r, 0) := by rw [e1, rdB_ok, if_neg h3]; rfl
    simp only [List.headD_cons, List.drop_succ_cons, List.drop_zero]
    have e2 : rdE2 ts (q, 0) = if 8 < x then (r, 3) else (r, 0) := by
      unfold rdE2; rw [hb]; simp only; rw [rdN_ok, okOne_one]
      by_cases h8 : 8 < x
      · rw [if_pos h8, decide_eq_false (by omega : ¬ x ≤ 8)]; rfl
      · rw [if_neg h8, decide_eq_true (by omega : x ≤ 8)]; rfl
    by_cases h8 : 8 < x
    · rw [if_pos h8] at e2 ⊢
      rw [bad e2 (by simp)]; exact ⟨rfl, fun h => by simp at h⟩
    rw [if_neg h8] at e2 ⊢
    have hs : rdE ts (n + 1) (usD ts es) es (q, 0) = rdE ts n (usD ts (es ++ [entD (ts.getD (readV q).1 []) x])) (es ++ [entD (ts.getD (readV q).1 []) x]) (r, 0) := by
      conv => lhs; unfold rdE
      rw [if_neg (by simp), e2, if_pos rfl, hb, rdV_ok]
      simp only [List.headD_cons]
      rw [usD_snoc hn h2]
    rw [hs]
    exact rdE_ok hn n _ r
theorem rdEs_ok {ts : List (List UInt8)} (hn : ts.Nodup) (q : List Nat) : (rdEs ts (q, 0)).2.2.2 = (entsD ts q).2.1 ∧ ((entsD ts q).2.1 = 0 → rdEs ts (q, 0) = (usD ts (entsD ts q).1, (entsD ts q).1, (entsD ts q).2.2, 0)) := by
  unfold rdEs entsD; rw [rdV_ok, usD_nil]
  by_cases h1 : (readV q).2.2 = 0
  · by_cases h2 : 1048576 < (readV q).1
    · rw [cntD_2 h1 h2, h1, rdN_ok, if_neg (by simpa using h2), rdE_err _ _ _ _ (by simp), if_pos (by simp)]; exact ⟨rfl, fun h => by simp at h⟩
    · rw [cntD_3 h1 h2, h1, rdN_ok, if_pos (by simpa using h2), if_neg (by simp)]; exact rdE_ok hn _ _ _
  · rw [cntD_1 h1, rdN_err h1, rdE_err _ _ _ _ h1, if_pos h1]; exact ⟨rfl, fun h => absurd h h1⟩
theorem usD_all {ts : List (List UInt8)} (hs : ts.Pairwise (· < ·)) {es : List Ent} (he : ∀ e ∈ es, e.1 ∈ ts) : (usD ts es).all id = decide ((dirS es).length = ts.length) := by
  rw [Bool.eq_iff_iff, decide_eq_true_iff]
  constructor
  · intro h
    congr 1
    refine sorted_ext (dirS_sorted es) hs (fun x => ?_)
    rw [dirS_mem]
    constructor
    · rintro ⟨e, h1, rfl⟩; exact he e h1
    · intro hx
      have := List.all_eq_true.1 h _ (List.mem_map.2 ⟨x, hx, rfl⟩)
      simp only [id, decide_eq_true_eq, List.mem_map] at this
      exact this
  · intro h
    have hd := dirS_all hs he h
    rw [List.all_eq_true]
    intro u hu
    obtain ⟨t, ht, rfl⟩ := List.mem_map.1 hu
    rw [← hd, dirS_mem] at ht
    simp only [id, decide_eq_true_eq, List.mem_map]
    exact ht
theorem refD5_ok {v : Nat} {p : List Nat} {ts : List (List UInt8)} (hs : ts.Pairwise (· < ·)) {es : List Ent} (he : ∀ e ∈ es, e.1 ∈ ts) (q : List Nat) : refD5 v p (usD ts es) es (q, 0) = decM5 v p ts es q := by
  unfold refD5 decM5
  rw [rdB_ok]
  by_cases h1 : q.length < 32
  · rw [if_pos h1, if_pos h1, rdN_err (by simp), rdU_err _ (by simp), if_pos (by simp)]
  rw [if_neg h1, if_neg h1, rdN_ok]
  by_cases h2 : q.drop 32 = []
  · have h2' : decide ((q.drop 32).length = 0) = true := by rw [h2]; rfl
    simp only [h2', if_true]
    rw [if_neg (not_not_intro h2), rdU_ok, usD_all hs he]
    by_cases h3 : (dirS es).length = ts.length
    · rw [decide_eq_true h3]; simp only [if_true]; rw [if_neg (by simp), if_neg (not_not_intro h3)]
    · rw [decide_eq_false h3]; simp only [Bool.false_eq_true, if_false]; rw [if_pos (by simp), if_pos h3]
  · have h2' : decide ((q.drop 32).length = 0) = false := decide_eq_false (fun h => h2 (List.eq_nil_of_length_eq_zero h))
    simp only [h2', Bool.false_eq_true, if_false]
    rw [if_pos h2, rdU_err _ (by simp), if_pos (by simp)]
theorem refD4_ok {v : Nat} {p : List Nat} {ts : List (List UInt8)} (hs : ts.Pairwise (· < ·)) {q : List Nat} (hq : ∀ x ∈ q, x < 256) : refD4 v p ts (q, 0) = decM4 v p ts q := by
  obtain ⟨h1, h2⟩ := rdEs_ok (pw_nodup hs) q
  unfold refD4 decM4
  by_cases h : (entsD ts q).2.1 = 0
  · rw [if_neg (by simp [h]), h2 h]
    exact refD5_ok hs (fun e he => ((entsD_inv (pw_nodup hs) hq h).2 e he).1) _
  · rw [if_pos h, refD5_err (by rw [h1]; exact h), h1]
theorem refD3_ok {v : Nat} {p : List Nat} {q : List Nat} (hq : ∀ x ∈ q, x < 256) : refD3 v p (q, 0) = decM3 v p q := by
  obtain ⟨h1, h2⟩ := rdD_ok q
  unfold refD3 decM3
  by_cases h : (tensD q).2.1 = 0
  · rw [if_neg (by simp [h]), h2 h]
    exact refD4_ok (tensD_inv hq h).2.1 (tensD_byte hq)
  · rw [if_pos h, refD4_err (by rw [h1]; exact h), h1]
theorem refD2_ok {v : Nat} {q : List Nat} (hq : ∀ x ∈ q, x < 256) : refD2 v (q, 0) = decM2 v q := by
  unfold refD2 decM2; rw [rdB_ok]
  split
  · exact refD3_err (by simp)
  · exact refD3_ok (fun x hx => hq x (List.mem_of_mem_drop hx))
theorem refD1_ok {q : List Nat} (hq : ∀ x ∈ q, x < 256) : refD1 (q, 0) = decM1 q := by
  unfold refD1 decM1; rw [rdB_ok]
  split
  · exact refD2_err (by simp [rdN_err])
  · simp only
    rw [rdN_ok]
    by_cases h : beN (q.take 8) = 18446744073709551615
    · rw [if_pos h, if_neg (by simp [h])]; exact refD2_err (by simp)
    · rw [if_neg h, if_pos (by simpa using h)]; exact refD2_ok (fun x hx => hq x (List.mem_of_mem_drop hx))
theorem refD_dec {b : List Nat} (hb : ∀ x ∈ b, x < 256) : refD b = decM b := by
  unfold refD decM; rw [rdB_ok]
  split
  · rw [rdN_err (by simp)]; exact refD1_err (by simp)
  · simp only
    rw [rdN_ok]
    by_cases h : b.take 4 = [67, 83, 75, 49]
    · rw [show (b.take 4 == [67, 83, 75, 49]) = true by rw [h]; rfl, if_pos rfl, if_neg (not_not_intro h)]; exact refD1_ok (fun x hx => hb x (List.mem_of_mem_drop hx))
    · rw [show (b.take 4 == [67, 83, 75, 49]) = false from beq_eq_false_iff_ne.2 h, if_pos h]; simp only [Bool.false_eq_true, if_false]; exact refD1_err (s := (b.drop 4, 3)) (by simp)
theorem rdN_zero {ok : Bool} {e : Int} {s : RdS} (he : e ≠ 0) (h : (rdN ok e s).2 = 0) : s.2 = 0 ∧ ok = true := by
  obtain ⟨q, x⟩ := s
  by_cases hx : x = 0
  · subst hx
    rw [rdN_ok] at h
    cases ok with
    | true => exact ⟨rfl, rfl⟩
    | false => exact absurd h he
  · rw [rdN_err (s := (q, x)) hx] at h; exact absurd h hx
theorem rdB_zero {n : Nat} {s : RdS} (h : (rdB n s).2.2 = 0) : s.2 = 0 := by
  unfold rdB at h
  split at h
  · rename_i h1; exact absurd h h1
  · rename_i h1; exact Classical.byContradiction h1
theorem rdE2_zero {ts : List (List UInt8)} {s : RdS} (h : (rdE2 ts s).2 = 0) : (rdV s).1 < ts.length ∧ okOne (rdB 1 (rdE1 ts s)).1 = true := by
  obtain ⟨h1, h2⟩ := rdN_zero (by decide) h
  obtain ⟨h3, h4⟩ := rdN_zero (by decide) (rdB_zero h1)
  exact ⟨of_decide_eq_true h4, h2⟩
def bools (us : List Bool) : List PV := us.map .bool
theorem bools_set (us : List Bool) (i : Nat) (b : Bool) : (bools us).set i (.bool b) = bools (us.set i b) := by unfold bools; rw [List.map_set]
theorem bools_get {us : List Bool} {i : Nat} {b : Bool} (h : us[i]? = some b) : (bools us)[i]? = some (.bool b) := by unfold bools; rw [List.getElem?_map, h]; rfl
theorem bools_rep (n : Nat) (b : Bool) : List.replicate n (PV.bool b) = bools (List.replicate n b) := by unfold bools; rw [List.map_replicate]
theorem bools_len (us : List Bool) : (bools us).length = us.length := by unfold bools; rw [List.length_map]
theorem rdU_le {us : List Bool} {s : RdS} {i : Nat} (h : us.length ≤ i) : rdU (us.drop i) s = s := by rw [List.drop_eq_nil_of_le h]; rfl
theorem rdU_at {us : List Bool} {s : RdS} {i : Nat} {b : Bool} (h : us[i]? = some b) : rdU (us.drop i) s = rdU (us.drop (i + 1)) (rdN b 3 s) := by
  obtain ⟨hi, rfl⟩ := List.getElem?_eq_some_iff.1 h
  rw [List.drop_eq_getElem_cons hi]; rfl
end Go.Ck
