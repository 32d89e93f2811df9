/- What is proved here: parts of the proofs of this seat's statements (a verified evaluator for calls over pure values, its laws, and contracts of functions). No condition. -/
import Derived.Test.YthjibccogjggbaaGreatKs
import Derived.Test.YthjibccogjggbaaGreatKo
set_option linter.all false
set_option linter.unusedVariables false
namespace Go.Ck
structure HS where
  begun : Bool
  s : S8
  part : List Nat
  n : Nat
/-- Its cells. -/
def hsC (h : HS) : List SV := .pv (.bool h.begun) :: (h.s.l.map wP ++ (bytes h.part ++ [PV.int .i64 (h.n : Int)])).map SV.pv
theorem hsC_len {h : HS} (hp : h.part.length = 64) : (hsC h).length = 74 := by
  simp [hsC, bytes_length, hp, S8.l]
theorem hsC_kept (ds os : List Nat) (h : HS) : (hsC h).all (keptV ds os) = true := by
  simp only [hsC, List.all_cons, kept_pv, Bool.and_true]
  simp [keptV, ptsL, hangOn]
theorem hsC_inL (ns : List Nat) (h : HS) : (hsC h).all (inL ns) = true := by
  simp only [hsC, List.all_cons, inL_pv, Bool.and_true]
  simp [inL, ptsL]
attribute [go_sem] hsC_kept hsC_inL
theorem hsC_begun (h : HS) : (hsC h)[0]? = some (.pv (.bool h.begun)) := rfl
theorem hsC_setB (h : HS) (b : Bool) : (hsC h).set 0 (.pv (.bool b)) = hsC { h with begun := b } := rfl
theorem hsC_split {h : HS} (hp : h.part.length = 64) : hsC h = (PV.bool h.begun :: (h.s.l.map wP ++ bytes h.part)).map SV.pv ++ [.pv (.int .i64 (h.n : Int))] := by
  simp [hsC, List.map_append]
theorem hsC_n {h : HS} (hp : h.part.length = 64) : (hsC h)[73]? = some (.pv (.int .i64 (h.n : Int))) := by
  rw [hsC_split hp, List.getElem?_append_right (by simp [bytes_length, hp, S8.l])]
  simp [bytes_length, hp, S8.l]
theorem hsC_setN {h : HS} (hp : h.part.length = 64) (v : Nat) : (hsC h).set 73 (.pv (.int .i64 (v : Int))) = hsC { h with n := v } := by
  rw [hsC_split hp, hsC_split (h := { h with n := v }) hp, List.set_append_right _ _ (by simp [bytes_length, hp, S8.l])]
  simp [bytes_length, hp, S8.l]
theorem hsC_s (h : HS) : allPV (List.take 8 (List.drop 1 (hsC h))) = some (h.s.l.map wP) := by
  have : List.take 8 (List.drop 1 (hsC h)) = (h.s.l.map wP).map SV.pv := by
    simp only [hsC, List.drop_succ_cons, List.drop_zero, List.map_append]
    rw [List.take_append_of_le_length (by simp [S8.l]), List.take_of_length_le (by simp [S8.l])]
  rw [this, allPV_map]
theorem hsC_setS (h : HS) (s : S8) : setCells (hsC h) ((s.l.map wP).map SV.pv) 1 = hsC { h with s := s } := by
  simp only [setCells, hsC, List.length_map]
  simp [S8.l]
theorem hsC_part {h : HS} (hp : h.part.length = 64) : (((hsC h).drop 9).take 64) = (bytes h.part).map SV.pv := by
  have : (hsC h).drop 9 = (bytes h.part ++ [PV.int .i64 (h.n : Int)]).map SV.pv := by simp [hsC, S8.l]
  rw [this, List.map_append, List.take_append_of_le_length (by simp [bytes_length, hp]), List.take_of_length_le (by simp [bytes_length, hp])]
theorem hsC_setP {h : HS} (hp : h.part.length = 64) (r : Nat) (b : List Nat) (hr : r + b.length ≤ 64) : setCells (hsC h) ((bytes b).map SV.pv) (9 + r) = hsC { h with part := h.part.take r ++ b ++ h.part.drop (r + b.length) } := by
  have e1 : hsC h = (PV.bool h.begun :: h.s.l.map wP).map SV.pv ++ ((bytes h.part).map SV.pv ++ [.pv (.int .i64 (h.n : Int))]) := by simp [hsC, List.map_append]
  have e2 : ∀ p : List Nat, hsC { h with part := p } = (PV.bool h.begun :: h.s.l.map wP).map SV.pv ++ ((bytes p).map SV.pv ++ [.pv (.int .i64 (h.n : Int))]) := fun p => by simp [hsC, List.map_append]
  have l9 : ((PV.bool h.begun :: h.s.l.map wP).map SV.pv).length = 9 := by simp [S8.l]
  rw [e1, e2]
  generalize (PV.bool h.begun :: h.s.l.map wP).map SV.pv = A at *
  unfold setCells
  have lb : ((bytes b).map SV.pv).length = b.length := by simp [bytes_length]
  rw [lb]
  rw [List.take_append, List.take_of_length_le (by omega), List.drop_append, List.drop_of_length_le (by omega), l9]
  rw [show 9 + r - 9 = r by omega, show 9 + r + b.length - 9 = r + b.length by omega]
  have lp : ((bytes h.part).map SV.pv).length = 64 := by simp [bytes_length, hp]
  rw [List.take_append_of_le_length (by omega), List.drop_append_of_le_length (by omega)]
  simp only [← List.map_take, ← List.map_drop, bytes_take, bytes_drop, ← bytes_append, List.map_append, List.nil_append, List.append_assoc]

def wrN (h : HS) (b : List Nat) : HS :=
  let k := min b.length (64 - h.n % 64)
  let p := h.part.take (h.n % 64) ++ b.take k ++ h.part.drop (h.n % 64 + k)
  ⟨h.begun, if (h.n + k) % 64 = 0 then thr h.s p else h.s, p, h.n + k⟩
def wrL (h : HS) (b : List Nat) : HS := if hb : b = [] then h else wrL (wrN h b) (b.drop (min b.length (64 - h.n % 64)))
termination_by b.length
decreasing_by
  have h1 : 0 < b.length := List.length_pos_iff.2 hb
  simp only [List.length_drop]
  omega
def wr0 (h : HS) : HS := if h.begun then h else { h with begun := true, s := first8 }
def wr (h : HS) (b : List Nat) : HS := wrL (wr0 h) b
theorem wrL_nil (h : HS) : wrL h [] = h := by rw [wrL]; simp
theorem wrL_step {h : HS} {b : List Nat} (hb : b ≠ []) : wrL h b = wrL (wrN h b) (b.drop (min b.length (64 - h.n % 64))) := by rw [wrL]; simp [hb]
theorem wrN_len {h : HS} (hp : h.part.length = 64) (b : List Nat) : (wrN h b).part.length = 64 := by
  simp only [wrN, List.length_append, List.length_take, List.length_drop, hp]
  omega

theorem fb_lt {s : S8} {l : List Nat} (h : l.length < 64) : fb s l = s := by rw [fb]; simp; omega
theorem fb_ge {s : S8} {l : List Nat} (h : 64 ≤ l.length) : fb s l = fb (thr s (l.take 64)) (l.drop 64) := by rw [fb]; simp [h]
theorem fb_app (k : Nat) : ∀ (s : S8) (x y : List Nat), x.length = 64 * k → fb s (x ++ y) = fb (fb s x) y := by
  induction k with
  | zero => intro s x y h; have : x = [] := List.length_eq_zero_iff.1 (by omega); subst this; simp [fb_lt (s := s) (l := []) (by simp)]
  | succ k ih =>
    intro s x y h
    rw [fb_ge (l := x ++ y) (by simp; omega), fb_ge (l := x) (by omega), List.take_append_of_le_length (by omega), List.drop_append_of_le_length (by omega)]
    exact ih _ _ _ (by simp; omega)
/-- The hash holds the message m. -/
structure HC (m : List Nat) (h : HS) : Prop where
  len : h.part.length = 64
  n : h.n = m.length
  rem : h.part.take (m.length % 64) = m.drop (64 * (m.length / 64))
  s : h.begun = true → h.s = fb first8 m
  none : h.begun = false → m = []
theorem HC.wr0 {m : List Nat} {h : HS} (hc : HC m h) : HC m (wr0 h) ∧ (Ck.wr0 h).begun = true := by
  unfold Ck.wr0
  cases hb : h.begun with
  | true => rw [if_pos rfl]; exact ⟨hc, hb⟩
  | false =>
    rw [if_neg (by simp)]
    have := hc.none hb
    subst this
    exact ⟨⟨hc.len, hc.n, hc.rem, fun _ => (fb_lt (by simp)).symm, fun h => by cases h⟩, rfl⟩
theorem HC.wrN {m : List Nat} {h : HS} (hc : HC m h) (hb : h.begun = true) (b : List Nat) (hb0 : 0 < b.length) : HC (m ++ b.take (min b.length (64 - h.n % 64))) (wrN h b) := by
  obtain ⟨h1, h2, h3, h4, h5⟩ := hc
  generalize hk : min b.length (64 - h.n % 64) = k
  rw [h2] at hk
  have hl : (b.take k).length = k := by rw [List.length_take]; omega
  have hr64 : m.length % 64 < 64 := Nat.mod_lt _ (by decide)
  have hkr : m.length % 64 + k ≤ 64 := by omega
  have hml : (m.drop (64 * (m.length / 64))).length = m.length % 64 := by rw [List.length_drop]; omega
  have hsplit : m = m.take (64 * (m.length / 64)) ++ m.drop (64 * (m.length / 64)) := (List.take_append_drop _ _).symm
  have hfull : (m.take (64 * (m.length / 64))).length = 64 * (m.length / 64) := by rw [List.length_take]; omega
  have hfm : fb first8 m = fb first8 (m.take (64 * (m.length / 64))) := by
    have h6 : fb first8 m = fb first8 (m.take (64 * (m.length / 64)) ++ m.drop (64 * (m.length / 64))) := by rw [← hsplit]
    rw [h6, fb_app _ _ _ _ hfull, fb_lt (by omega)]
  refine ⟨wrN_len h1 b, ?_, ?_, fun _ => ?_, fun h => ?_⟩
  · simp [Ck.wrN, hk, h2, hl]
  · simp only [Ck.wrN, hk, h2, h3, List.length_append, hl]
    by_cases hz : m.length % 64 + k = 64
    · have e1 : (m.length + k) % 64 = 0 := by omega
      have e2 : 64 * ((m.length + k) / 64) = m.length + k := by omega
      rw [e1, e2, List.take_zero, List.drop_of_length_le (by simp [hl])]
    · have e1 : (m.length + k) % 64 = m.length % 64 + k := by omega
      have e2 : (m.length + k) / 64 = m.length / 64 := by omega
      rw [e1, e2, List.take_append_of_le_length (by simp [hl]; omega), List.take_of_length_le (by simp [hl]; omega), List.drop_append_of_le_length (by omega)]
  · simp only [Ck.wrN, hk, h2, h3]
    by_cases hz : m.length % 64 + k = 64
    · have e1 : (m.length + k) % 64 = 0 := by omega
      rw [if_pos e1, h4 hb, hfm]
      have e3 : m.length % 64 + k = 64 := hz
      rw [e3, List.drop_of_length_le (l := h.part) (by omega), List.append_nil]
      conv => rhs; rw [hsplit, List.append_assoc, fb_app _ _ _ _ hfull]
      have hll : (m.drop (64 * (m.length / 64)) ++ b.take k).length = 64 := by rw [List.length_append, hml, hl]; omega
      rw [fb_ge (l := m.drop (64 * (m.length / 64)) ++ b.take k) (by omega), List.take_of_length_le (l := m.drop (64 * (m.length / 64)) ++ b.take k) (by omega), fb_lt (l := (m.drop (64 * (m.length / 64)) ++ b.take k).drop 64) (by rw [List.length_drop]; omega)]
    · have e1 : (m.length + k) % 64 ≠ 0 := by omega
      rw [if_neg e1, h4 hb, hfm]
      conv => rhs; rw [hsplit, List.append_assoc, fb_app _ _ _ _ hfull]
      rw [fb_lt (l := m.drop (64 * (m.length / 64)) ++ b.take k) (by rw [List.length_append, hml, hl]; omega)]
  · simp [Ck.wrN, hb] at h
theorem HC.wrL : ∀ (n : Nat) {b m : List Nat} {h : HS}, b.length = n → HC m h → h.begun = true → HC (m ++ b) (wrL h b)
  | n, b, m, h, hn, hc, hb => by
    by_cases hbe : b = []
    · subst hbe; rw [wrL_nil, List.append_nil]; exact hc
    · have h1 : 0 < b.length := List.length_pos_iff.2 hbe
      rw [wrL_step hbe]
      have h2 := HC.wrN hc hb b h1
      have h3 := HC.wrL (b.drop (min b.length (64 - h.n % 64))).length (b := b.drop (min b.length (64 - h.n % 64))) rfl h2 (by simp [Ck.wrN, hb])
      rw [List.append_assoc, List.take_append_drop] at h3
      exact h3
termination_by n => n
decreasing_by
  simp only [List.length_drop]
  omega
theorem HC.wr {m b : List Nat} {h : HS} (hc : HC m h) : HC (m ++ b) (Ck.wr h b) ∧ (Ck.wr h b).begun = true := by
  obtain ⟨h1, h2⟩ := HC.wr0 hc
  refine ⟨HC.wrL _ rfl h1 h2, ?_⟩
  have key : ∀ (n : Nat) (b : List Nat) (h : HS), b.length = n → h.begun = true → (Ck.wrL h b).begun = true := by
    intro n
    induction n using Nat.strongRecOn with
    | _ n ih =>
      intro b h hn hb
      by_cases hbe : b = []
      · subst hbe; rw [wrL_nil]; exact hb
      · rw [wrL_step hbe]
        have h1 : 0 < b.length := List.length_pos_iff.2 hbe
        exact ih (b.drop (min b.length (64 - h.n % 64))).length (by simp; omega) _ _ rfl (by simp [Ck.wrN, hb])
  exact key _ _ _ rfl h2
/-- The hash ahead of anything. -/
def h00 : HS := ⟨false, ⟨0, 0, 0, 0, 0, 0, 0, 0⟩, List.replicate 64 0, 0⟩
theorem HC.zero : HC [] h00 := ⟨rfl, rfl, rfl, (fun h => absurd h (by decide)), fun _ => rfl⟩
theorem be8w_len (n : Nat) : (be8 n).length = 8 := rfl
theorem endP_len (n : Nat) : (endP n).length = 9 + zpad n := by simp [endP, be8w_len]; omega
theorem sha_len (m : List Nat) : (sha m).length = 32 := by8_len _
end Go.Ck
namespace Go.Ck
theorem ren_pv (ρ : Nat → Nat) (ps : List PV) : (ps.map SV.pv).map (SV.ren ρ) = ps.map SV.pv := by
  rw [List.map_map]; rfl
theorem hsC_ren (ρ : Nat → Nat) (h : HS) : (hsC h).map (SV.ren ρ) = hsC h := by
  have : hsC h = (PV.bool h.begun :: (h.s.l.map wP ++ (bytes h.part ++ [PV.int .i64 (h.n : Int)]))).map SV.pv := rfl
  rw [this, ren_pv]
attribute [go_sem] ren_pv hsC_ren
theorem all_one_bytes (l : List Nat) : (bytes l).all PV.one = true := by
  simp only [bytes, List.all_map, List.all_eq_true]
  intro x _; rfl
end Go.Ck
namespace Go.Ck
def hsP (h : HS) : List PV := PV.bool h.begun :: (h.s.l.map wP ++ (bytes h.part ++ [PV.int .i64 (h.n : Int)]))
theorem hsC_P (h : HS) : hsC h = (hsP h).map SV.pv := rfl
theorem hsP_len {h : HS} (hp : h.part.length = 64) : (hsP h).length = 74 := by have := hsC_len hp; rw [hsC_P, List.length_map] at this; exact this
theorem hsP_one (h : HS) : (hsP h).all PV.one = true := by
  simp only [hsP, List.all_cons, List.all_append, all_one_bytes]
  simp [PV.one, S8.l, wP]
theorem hsC_clo (h : HS) : (hsC h).all SV.clo = true := by
  have hb : (bytes h.part).all PV.clo = true := by
    simp only [bytes, List.all_map, List.all_eq_true]
    intro x _; rfl
  have : (hsP h).all PV.clo = true := by
    simp only [hsP, List.all_cons, List.all_append, hb]
    simp [PV.clo, S8.l, wP]
  rw [hsC_P, List.all_map]
  exact this
attribute [go_sem] hsC_clo
theorem bytes_snoc (l : List Nat) (x : Nat) : bytes l ++ [.int .u8 (x : Int)] = bytes (l ++ [x]) := by rw [← bytes_append]; rfl
theorem bytes_snoc0 (l : List Nat) : bytes l ++ [.int .u8 0] = bytes (l ++ [0]) := by rw [← bytes_append]; rfl
def encE (p : List Nat) (v i : Nat) : List Nat := p ++ (be8 v).take i
theorem encE0 (p : List Nat) (v : Nat) : encE p v 0 = p := by simp [encE]
theorem encE8 (p : List Nat) (v : Nat) : encE p v 8 = p ++ be8 v := rfl
theorem encE_len (p : List Nat) (v i : Nat) (h : i ≤ 8) : (encE p v i).length = p.length + i := by simp [encE, be8w_len]; omega
theorem encE_0 (p : List Nat) (v : Nat) : encE p v 0 ++ [v / 2 ^ 56 % 256] = encE p v 1 := by simp [encE, be8]
theorem encE_1 (p : List Nat) (v : Nat) : encE p v 1 ++ [v / 2 ^ 48 % 256] = encE p v 2 := by simp [encE, be8]
theorem encE_2 (p : List Nat) (v : Nat) : encE p v 2 ++ [v / 2 ^ 40 % 256] = encE p v 3 := by simp [encE, be8]
theorem encE_3 (p : List Nat) (v : Nat) : encE p v 3 ++ [v / 2 ^ 32 % 256] = encE p v 4 := by simp [encE, be8]
theorem encE_4 (p : List Nat) (v : Nat) : encE p v 4 ++ [v / 2 ^ 24 % 256] = encE p v 5 := by simp [encE, be8]
theorem encE_5 (p : List Nat) (v : Nat) : encE p v 5 ++ [v / 2 ^ 16 % 256] = encE p v 6 := by simp [encE, be8]
theorem encE_6 (p : List Nat) (v : Nat) : encE p v 6 ++ [v / 2 ^ 8 % 256] = encE p v 7 := by simp [encE, be8]
theorem encE_7' (p : List Nat) (v : Nat) : encE p v 7 ++ [v / 2 ^ 0 % 256] = encE p v 8 := by simp [encE, be8]
end Go.Ck
namespace Go.Ck
theorem ws48 : IntKind.i64.wrap 48 = 48 := by decide
theorem ws40 : IntKind.i64.wrap 40 = 40 := by decide
theorem ws32 : IntKind.i64.wrap 32 = 32 := by decide
theorem ws24 : IntKind.i64.wrap 24 = 24 := by decide
theorem ws16 : IntKind.i64.wrap 16 = 16 := by decide
theorem ws8 : IntKind.i64.wrap 8 = 8 := by decide
theorem ws0 : IntKind.i64.wrap 0 = 0 := by decide
theorem wsm8 : IntKind.i64.wrap (-8) = -8 := by decide
theorem wrL_len : ∀ (n : Nat) (h : HS) (b : List Nat), b.length = n → h.part.length = 64 → (wrL h b).part.length = 64 := by
  intro n
  induction n using Nat.strongRecOn with
  | _ n ih =>
    intro h b hn hb
    by_cases hbe : b = []
    · subst hbe; rw [wrL_nil]; exact hb
    · rw [wrL_step hbe]
      have h1 : 0 < b.length := List.length_pos_iff.2 hbe
      exact ih (b.drop (min b.length (64 - h.n % 64))).length (by simp; omega) _ _ rfl (wrN_len hb b)
theorem wr_len {h : HS} (hp : h.part.length = 64) (b : List Nat) : (wr h b).part.length = 64 := by
  refine wrL_len _ _ _ rfl ?_
  unfold wr0; split <;> exact hp
end Go.Ck
namespace Go.Ck
def bK (v k : Nat) : Nat := v / 2 ^ k % 256
theorem bK_sh (v k : Nat) (h : k ≤ 64) : IntKind.u8.wrap (shrI .u64 (v : Int) (k : Int)) = ((bK v k : Nat) : Int) := by
  rw [shrI_nat .u64 v k h, wrap_u8]; rfl
theorem bK_56 (v : Nat) : IntKind.u8.wrap (shrI .u64 (v : Int) 56) = ((bK v 56 : Nat) : Int) := bK_sh v 56 (by decide)
theorem bK_48 (v : Nat) : IntKind.u8.wrap (shrI .u64 (v : Int) 48) = ((bK v 48 : Nat) : Int) := bK_sh v 48 (by decide)
theorem bK_40 (v : Nat) : IntKind.u8.wrap (shrI .u64 (v : Int) 40) = ((bK v 40 : Nat) : Int) := bK_sh v 40 (by decide)
theorem bK_32 (v : Nat) : IntKind.u8.wrap (shrI .u64 (v : Int) 32) = ((bK v 32 : Nat) : Int) := bK_sh v 32 (by decide)
theorem bK_24 (v : Nat) : IntKind.u8.wrap (shrI .u64 (v : Int) 24) = ((bK v 24 : Nat) : Int) := bK_sh v 24 (by decide)
theorem bK_16 (v : Nat) : IntKind.u8.wrap (shrI .u64 (v : Int) 16) = ((bK v 16 : Nat) : Int) := bK_sh v 16 (by decide)
theorem bK_8 (v : Nat) : IntKind.u8.wrap (shrI .u64 (v : Int) 8) = ((bK v 8 : Nat) : Int) := bK_sh v 8 (by decide)
theorem bK_0 (v : Nat) : IntKind.u8.wrap (shrI .u64 (v : Int) 0) = ((bK v 0 : Nat) : Int) := bK_sh v 0 (by decide)
theorem encK_0 (p : List Nat) (v : Nat) : encE p v 0 ++ [bK v 56] = encE p v 1 := encE_0 p v
theorem encK_1 (p : List Nat) (v : Nat) : encE p v 1 ++ [bK v 48] = encE p v 2 := encE_1 p v
theorem encK_2 (p : List Nat) (v : Nat) : encE p v 2 ++ [bK v 40] = encE p v 3 := encE_2 p v
theorem encK_3 (p : List Nat) (v : Nat) : encE p v 3 ++ [bK v 32] = encE p v 4 := encE_3 p v
theorem encK_4 (p : List Nat) (v : Nat) : encE p v 4 ++ [bK v 24] = encE p v 5 := encE_4 p v
theorem encK_5 (p : List Nat) (v : Nat) : encE p v 5 ++ [bK v 16] = encE p v 6 := encE_5 p v
theorem encK_6 (p : List Nat) (v : Nat) : encE p v 6 ++ [bK v 8] = encE p v 7 := encE_6 p v
theorem encK_7 (p : List Nat) (v : Nat) : encE p v 7 ++ [bK v 0] = encE p v 8 := encE_7' p v
end Go.Ck

set_option linter.unusedVariables false
set_option maxRecDepth 100000
set_option maxHeartbeats 400000
namespace Go.Ck
open Go.Proofs
def hO (h : HS) : List (Nat × HO) := [(1000, .cells 122 (hsC h))]
theorem Write_fn (h0 : HS) (b0 : List Nat) (hp0 : h0.part.length = 64) (hn0 : h0.n + b0.length < 2 ^ 60) : Fn Tryz.prog 84 (hO h0) [.ptr 1000 0, .pv (.sl 1 (bytes b0))] (fun rs H' => rs = [.pv (.int .i64 b0.length)] ∧ H' = hO (wr h0 b0)) := by
  refine Fn.of_body (fn := Tryz.f84) (n := 67) (res := [.tmp 4]) (by kernel_rfl) rfl rfl rfl rfl rfl (fun C => ?_)
  unfold hO
  have hbg := hsC_begun h0
  have hlen0 := hsC_len hp0
  refine AW.go ?_
  refine AW.condF rfl ?_
  refine AW.go ?_ (by simp only [go_sem, ↓reduceIte, hbg] <;> rfl)
  refine AW.joinS (fun _ : Unit => ⟨67, [(0, .ptr 1000 0), (1, .pv (.sl 1 (bytes b0)))], [(1000, .cells 122 (hsC (wr0 h0)))]⟩) (fun _ => True) [0, 1] [1000] ?_ ?_
  · intro K hK
    obtain ⟨bg, s, p, n⟩ := h0
    cases bg with
    | true =>
      refine AW.condF rfl ?_
      refine AW.go ?_
      exact AW.meet hK () trivial (by simp only [go_sem, ↓reduceIte]) (by simp only [go_sem, ↓reduceIte, wr0] <;> rfl)
    | false =>
      refine AW.condT rfl ?_
      refine AW.go ?_
      refine AW.callE (fun _ => 0) first_fn .nil ?_
      have hsB := hsC_setB ⟨false, s, p, n⟩ true
      have l0 : (0 < 74) = True := eq_true (by decide)
      refine AW.goN 5 ?_ (by simp only [go_sem, ↓reduceIte, Nat.reduceMul, hlen0, l0, hsB] <;> rfl)
      refine AW.storeP (off := 1) (ps := first8.l.map wP) rfl rfl rfl ?_ ?_ (hT := tsh_120) (h1 := rfl)
      · rw [hsC_len (h := ⟨true, s, p, n⟩) hp0]; decide
      rw [hsC_setS]
      refine AW.go ?_
      exact AW.meet hK () trivial (by simp only [go_sem, ↓reduceIte]) (by simp only [go_sem, ↓reduceIte, wr0] <;> rfl)
  rintro _ -
  have hwr : wr h0 b0 = wrL (wr0 h0) b0 := rfl
  have hpw : (wr0 h0).part.length = 64 := by unfold wr0; split <;> exact hp0
  have hnw : (wr0 h0).n = h0.n := by unfold wr0; split <;> rfl
  rw [hwr]
  rw [← hnw] at hn0
  generalize wr0 h0 = h1 at *
  refine AW.go ?_
  refine AW.loopS (fun a : HS × List Nat => ⟨67, [(0, .ptr 1000 0), (1, .pv (.sl 1 (bytes a.2))), (5, .pv (.int .i64 b0.length))], [(1000, .cells 122 (hsC a.1))]⟩) (fun a => a.1.part.length = 64 ∧ wrL a.1 a.2 = wrL h1 b0 ∧ a.1.n + a.2.length = h1.n + b0.length) (fun a => a.2.length) [0, 1, 5] [1000] (h1, b0) ⟨hpw, rfl, rfl⟩ ?_
  rintro ⟨h, b⟩ ⟨hp, hw, hs⟩ K hK
  simp only at hp hw hs
  refine AW.go ?_
  refine AW.cond rfl (fun hc => ?_) (fun hc => ?_)
  rotate_left
  · have hb : b = [] := by
      have := of_decide_eq_false hc
      exact List.length_eq_zero_iff.1 (by omega)
    subst hb
    rw [wrL_nil] at hw
    subst hw
    refine AW.go ?_
    refine AW.finE (.pv _ .nil) rfl
  · have hb0 : 0 < b.length := by have := of_decide_eq_true hc; omega
    have hbne : b ≠ [] := List.length_pos_iff.1 hb0
    have hws := wrL_step (h := h) hbne
    have hwl := wrN_len hp b
    have hwn : (wrN h b).n = h.n + min b.length (64 - h.n % 64) := rfl
    have hwN : wrN h b = ⟨h.begun, if (h.n + min b.length (64 - h.n % 64)) % 64 = 0 then thr h.s (h.part.take (h.n % 64) ++ b.take (min b.length (64 - h.n % 64)) ++ h.part.drop (h.n % 64 + min b.length (64 - h.n % 64))) else h.s, h.part.take (h.n % 64) ++ b.take (min b.length (64 - h.n % 64)) ++ h.part.drop (h.n % 64 + min b.length (64 - h.n % 64)), h.n + min b.length (64 - h.n % 64)⟩ := rfl
    have hpl : (h.part.take (h.n % 64) ++ b.take (min b.length (64 - h.n % 64)) ++ h.part.drop (h.n % 64 + min b.length (64 - h.n % 64))).length = 64 := hwl
    generalize hk : min b.length (64 - h.n % 64) = kk at *
    obtain ⟨r, hr⟩ : ∃ r, r = h.n % 64 := ⟨_, rfl⟩
    rw [← hr] at hk hwN hpl
    have hr64 : r < 64 := by omega
    have hn := hsC_n hp
    have hlen := hsC_len hp
    have erem : ((h.n : Int)).tmod 64 = (r : Int) := by rw [hr]; rfl
    have hbl : (b.take kk).length = kk := by rw [List.length_take]; omega
    refine AW.go ?_
    refine AW.calmS ?_
    refine CK.reads [[], [26], [27], [], [29], [30], [31], [32]] ?_ (by simp only [go_sem, ↓reduceIte, hn, erem, hlen] <;> rfl)
    refine CK.sliceO [28, 33] r 64 tk_95 (by omega) (by omega) (by omega) ?_
    refine CK.reads [[]] ?_ (by simp only [go_sem, ↓reduceIte, hn, erem, hlen] <;> rfl)
    refine CK.done (M := 10) 2 mixed ?_
    refine AW.seqs (fuel := 0) (listed' := Array.replicate 12 true) [10, 11] ?_ (by decide +kernel)
    refine AW.copyO (ez := 0) (off := 9 + r) (n := 64 - r) (kk := kk) (xs := bytes b) rfl rfl ?_ rfl rfl (all_one_bytes b) ?_ ?_ (hT := tk_22)
    · rw [hlen]; omega
    · rw [bytes_length]; exact hk.symm
    rw [bytes_take, hsC_setP hp r (b.take kk) (by omega), hbl]
    generalize hp1 : h.part.take r ++ b.take kk ++ h.part.drop (r + kk) = p at *
    refine AW.gg ?_
    refine AW.anyDone (by decide +kernel) ?_
    obtain ⟨bg, s, p0, n⟩ := h
    simp only at hp hw hs hwl hws hwn hr hwN
    have hn2 := hsC_n (h := ⟨bg, s, p, n⟩) hpl
    have hlen2 := hsC_len (h := ⟨bg, s, p, n⟩) hpl
    have hset2 := hsC_setN (h := ⟨bg, s, p, n⟩) hpl (n + kk)
    have e1 : ((b.length : Int) - (kk : Int)).toNat = b.length - kk := by omega
    have e2 : (b.drop kk).take (b.length - kk) = b.drop kk := List.take_of_length_le (by rw [List.length_drop]; omega)
    have e3 : ((kk : Int) ≤ (b.length : Int)) = True := eq_true (by omega)
    have e3' : (kk ≤ b.length) = True := eq_true (by omega)
    have e4 : IntKind.i64.wrap ((n : Int) + (kk : Int)) = ((n + kk : Nat) : Int) := by rw [wrap_i64_of (by omega) (by omega)]; omega
    have l73 : (73 < 74) = True := eq_true (by decide)
    have hn3 := hsC_n (h := ⟨bg, s, p, n + kk⟩) hpl
    have hlen3 := hsC_len (h := ⟨bg, s, p, n + kk⟩) hpl
    have hs3 := hsC_s ⟨bg, s, p, n + kk⟩
    have hp3 := hsC_part (h := ⟨bg, s, p, n + kk⟩) hpl
    have erem2 : (((n + kk : Nat) : Int)).tmod 64 = (((n + kk) % 64 : Nat) : Int) := rfl
    have l74 : 1 + 8 ≤ 74 := by decide
    have l18 : (1 + 8 ≤ 74) = True := eq_true (by decide)
    have hfin : b.length - kk < b.length := by omega
    have hnum : n + kk + (b.length - kk) = h1.n + b0.length := by omega
    refine AW.go ?_ (by simp only [go_sem, ↓reduceIte, hn2, hlen2, hset2, e1, e2, e3, e3', e4, l73, hn3, erem2] <;> rfl)
    refine AW.cond rfl (fun hc2 => ?_) (fun hc2 => ?_)
    rotate_left
    · have hne : ¬ (n + kk) % 64 = 0 := by
        intro h
        rw [h] at hc2
        exact absurd hc2 (by decide)
      rw [if_neg hne] at hwN
      refine AW.go ?_
      refine AW.again hK (wrN ⟨bg, s, p0, n⟩ b, b.drop kk) (by exact ⟨hwl, by rw [← hws]; exact hw, by simp only [List.length_drop, hwn]; omega⟩) (by simp; omega) (hs := by simp only [go_sem, ↓reduceIte, hwN] <;> rfl)
    · have he : (n + kk) % 64 = 0 := by
        have := eq_of_beq hc2
        omega
      rw [if_pos he] at hwN
      refine AW.keepB [0, 1, 5] [1000] (by simp only [go_sem, ↓reduceIte]) (by simp only [go_sem, ↓reduceIte] <;> rfl) ?_
      refine AW.go ?_
      refine AW.calmS ?_
      refine CK.reads [[], [], [55], [56], [57], [], [59], [60]] ?_ (by simp only [go_sem, ↓reduceIte, hlen3, hs3, l18] <;> rfl)
      refine CK.sliceO [61] 0 64 tk_95 (by omega) (by omega) (by omega) ?_
      refine CK.callP (args := [.pv (stP s), .pv (.sl 1 (bytes p))]) [58, 62] (through_fn s p hpl) (fun t hle => .pv _ (.lendO (hle.lk rfl) hp3 (by rw [bytes_length, hpl]) (all_one_bytes p) (le_maxLen 64) .nil)) ?_
      refine CK.done (M := 10) 3 mixed ?_
      refine AW.seqs (fuel := 0) (listed' := Array.replicate 13 true) [10, 11, 12] ?_ (by decide +kernel)
      refine AW.goN 2 ?_
      refine AW.storeP (off := 1) (ps := (thr s p).l.map wP) rfl rfl rfl ?_ ?_ (hT := tsh_120) (h1 := rfl)
      · rw [hsC_len (h := ⟨bg, s, p, n + kk⟩) hpl]; exact l74
      rw [hsC_setS]
      refine AW.go ?_
      refine AW.anyDone (by decide +kernel) ?_
      refine AW.go ?_
      exact AW.again hK (wrN ⟨bg, s, p0, n⟩ b, b.drop kk) (by exact ⟨hwl, by rw [← hws]; exact hw, by simp only [List.length_drop, hwn]; omega⟩) (by simp; omega) (hs := by simp only [go_sem, ↓reduceIte, hwN] <;> rfl)
end Go.Ck

set_option linter.unusedVariables false
namespace Go.Ck
def wds (ws : List W32) : List PV := ws.map wP
theorem wds_len (ws : List W32) : (wds ws).length = ws.length := by simp [wds]
theorem wds_get {ws : List W32} {i : Nat} (h : i < ws.length) : (wds ws)[i]? = some (.int .u32 ((wAt ws i).toNat : Int)) := by
  rw [wAt_get h]; simp [wds, wP, h]
theorem wds_snoc (ws : List W32) (x : W32) : wds ws ++ [.int .u32 (x.toNat : Int)] = wds (ws ++ [x]) := by simp [wds, wP]
theorem cloL_wds (ws : List W32) : cloL (wds ws) = true := by
  induction ws with
  | nil => rfl
  | cons a l ih => simpa [wds, cloL, PV.clo, wP] using ih
attribute [go_sem] wds_len cloL_wds
theorem rotW_ref (x : W32) (n : Nat) : (x >>> n) ||| (x <<< (32 - n)) = rotW x n := BitVec.or_comm _ _
theorem nextW_ref (a b c d : W32) : a + b + c + d = d + c + b + a := by
  rw [BitVec.add_comm (a + b + c) d, BitVec.add_comm (a + b) c, BitVec.add_comm a b, ← BitVec.add_assoc, ← BitVec.add_assoc]
theorem shl_shl (x : W32) (a b : Nat) : (x <<< a) <<< b = x <<< (a + b) := (BitVec.shiftLeft_add x a b).symm
theorem wd4_ref (a b c d : Nat) : ((BitVec.ofNat 32 a <<< 24) ||| (BitVec.ofNat 32 b <<< 16)) ||| (BitVec.ofNat 32 c <<< 8) ||| BitVec.ofNat 32 d = wd4 [a, b, c, d] := by
  have h0 : ((0 : W32) <<< 32) = 0#32 := by decide
  simp only [wd4, List.foldl_cons, List.foldl_nil, BitVec.shiftLeft_or_distrib, shl_shl, Nat.reduceAdd, h0, BitVec.zero_or]
theorem drop4 (b : List Nat) (p : Nat) (h : p + 4 ≤ b.length) : ∃ x y z w, b[p]? = some x ∧ b[p + 1]? = some y ∧ b[p + 2]? = some z ∧ b[p + 3]? = some w ∧ (b.drop p).take 4 = [x, y, z, w] := by
  refine ⟨b[p], b[p + 1], b[p + 2], b[p + 3], List.getElem?_eq_getElem _, List.getElem?_eq_getElem _, List.getElem?_eq_getElem _, List.getElem?_eq_getElem _, ?_⟩
  rw [List.drop_eq_getElem_cons (by omega), List.drop_eq_getElem_cons (i := p + 1) (by omega), List.drop_eq_getElem_cons (i := p + 2) (by omega), List.drop_eq_getElem_cons (i := p + 3) (by omega)]
  rfl
theorem bytes_getS {l : List Nat} {i x : Nat} (h : l[i]? = some x) : (bytes l)[i]? = some (.int .u8 (x : Int)) := by
  unfold bytes; rw [List.getElem?_map, h]; rfl
end Go.Ck
namespace Go.Ck
theorem ws56 : IntKind.i64.wrap 56 = 56 := by decide
theorem wsm1 : IntKind.i64.wrap (-1) = -1 := by decide
theorem wu0 : IntKind.u64.wrap 0 = 0 := by decide
theorem wu8 : IntKind.u64.wrap 8 = 8 := by decide
theorem wu16 : IntKind.u64.wrap 16 = 16 := by decide
theorem wu24 : IntKind.u64.wrap 24 = 24 := by decide
theorem wu32 : IntKind.u64.wrap 32 = 32 := by decide
theorem wu40 : IntKind.u64.wrap 40 = 40 := by decide
theorem wu48 : IntKind.u64.wrap 48 = 48 := by decide
theorem wu56 : IntKind.u64.wrap 56 = 56 := by decide
end Go.Ck
namespace Go.Ck
def adl (l0 l1 : List W32) (i : Nat) : List W32 := (List.range i).map fun j => wAt l0 j + wAt l1 j
theorem adl_succ (l0 l1 : List W32) (i : Nat) : adl l0 l1 i ++ [wAt l0 i + wAt l1 i] = adl l0 l1 (i + 1) := by
  simp [adl, List.range_succ]
theorem adl_len (l0 l1 : List W32) (i : Nat) : (adl l0 l1 i).length = i := by simp [adl]
theorem adl_8 (s r : S8) : adl s.l r.l 8 = (add8 s r).l := rfl
theorem fb_step (s : S8) (p : List Nat) (j : Nat) (h : 64 * (j + 1) ≤ p.length) : fb s (p.take (64 * (j + 1))) = thr (fb s (p.take (64 * j))) ((p.drop (64 * j)).take 64) := by
  have e : p.take (64 * (j + 1)) = p.take (64 * j) ++ (p.drop (64 * j)).take 64 := by
    rw [show 64 * (j + 1) = 64 * j + 64 by omega, List.take_add]
  have hl : ((p.drop (64 * j)).take 64).length = 64 := by simp; omega
  rw [e, fb_app j _ _ _ (by simp; omega), fb_ge (l := (p.drop (64 * j)).take 64) (by omega), List.take_of_length_le (l := (p.drop (64 * j)).take 64) (by omega), fb_lt (by rw [List.length_drop]; omega)]
end Go.Ck

set_option linter.unusedVariables false
namespace Go.Ck
theorem byW_lt (x : W32) : ∀ y ∈ byW x, y < 256 := by
  intro y hy
  simp only [byW, List.mem_cons, List.not_mem_nil, or_false] at hy
  rcases hy with rfl | rfl | rfl | rfl <;> exact Nat.mod_lt _ (by decide)
theorem sha_lt (m : List Nat) : ∀ y ∈ sha m, y < 256 := by
  intro y hy
  simp only [sha, by8, List.mem_flatMap] at hy
  obtain ⟨x, _, h⟩ := hy
  exact byW_lt x y h
def kof (key : List Nat) : List Nat := if 64 < key.length then sha key else key
def kpad (key : List Nat) : List Nat := kof key ++ List.replicate (64 - (kof key).length) 0
def xorK (k : List Nat) (x : Nat) : List Nat := k.map (· ^^^ x)
def hmac (key m : List Nat) : List Nat := sha (xorK (kpad key) 92 ++ sha (xorK (kpad key) 54 ++ m))
theorem kof_len (key : List Nat) : (kof key).length ≤ 64 := by
  unfold kof; split
  · rw [sha_len]; decide
  · omega
theorem kof_lt {key : List Nat} (h : ∀ x ∈ key, x < 256) : ∀ x ∈ kof key, x < 256 := by
  unfold kof; split
  · exact sha_lt key
  · exact h
theorem kpad_len (key : List Nat) : (kpad key).length = 64 := by
  have := kof_len key
  simp [kpad]; omega
theorem kpad_lt {key : List Nat} (h : ∀ x ∈ key, x < 256) : ∀ x ∈ kpad key, x < 256 := by
  intro x hx
  simp only [kpad, List.mem_append] at hx
  rcases hx with hx | hx
  · exact kof_lt h x hx
  · rw [(List.mem_replicate.1 hx).2]; decide
theorem hmac_len (k m : List Nat) : (hmac k m).length = 32 := sha_len _
theorem hmac_lt (k m : List Nat) : ∀ y ∈ hmac k m, y < 256 := sha_lt _
theorem xorK_len (k : List Nat) (x : Nat) : (xorK k x).length = k.length := by simp [xorK]
theorem ibits_xor8 {a b : Nat} (ha : a < 2 ^ 8) (hb : b < 2 ^ 8) : ibits .xor .u8 (a : Int) (b : Int) = ((a ^^^ b : Nat) : Int) := by
  have h := Nat.xor_lt_two_pow ha hb
  have e1 : (BitVec.ofNat 8 a ^^^ BitVec.ofNat 8 b).toNat = a ^^^ b := by
    rw [BitVec.toNat_xor, BitVec.toNat_ofNat, BitVec.toNat_ofNat, Nat.mod_eq_of_lt ha, Nat.mod_eq_of_lt hb]
  have e2 : ibits .xor .u8 (a : Int) (b : Int) = IntKind.u8.wrap ((BitVec.ofInt 8 (a : Int) ^^^ BitVec.ofInt 8 (b : Int)).toNat : Int) := rfl
  rw [e2, ofInt_nat, ofInt_nat, e1]
  exact wrap_u8_lt h
/-- The key, of which the first i bytes are xored. -/
def xorN (k : List Nat) (x i : Nat) : List Nat := xorK (k.take i) x ++ k.drop i
theorem xorN_0 (k : List Nat) (x : Nat) : xorN k x 0 = k := by simp [xorN, xorK]
theorem xorN_all (k : List Nat) (x i : Nat) (h : k.length ≤ i) : xorN k x i = xorK k x := by
  simp [xorN, List.take_of_length_le h, List.drop_of_length_le h]
theorem xorN_len (k : List Nat) (x i : Nat) : (xorN k x i).length = k.length := by simp [xorN, xorK]; omega
theorem xorN_get {k : List Nat} {x i a : Nat} (h : k[i]? = some a) : (xorN k x i)[i]? = some a := by
  have hi : i < k.length := (List.getElem?_eq_some_iff.1 h).1
  unfold xorN
  rw [List.getElem?_append_right (by simp [xorK]; omega)]
  have : (xorK (k.take i) x).length = i := by simp [xorK]; omega
  rw [this, Nat.sub_self, List.getElem?_drop]
  exact h
theorem xorN_set {k : List Nat} {x i a : Nat} (h : k[i]? = some a) : (xorN k x i).set i (a ^^^ x) = xorN k x (i + 1) := by
  have hi : i < k.length := (List.getElem?_eq_some_iff.1 h).1
  have hl : (xorK (k.take i) x).length = i := by simp [xorK]; omega
  unfold xorN
  rw [List.set_append_right _ _ (by omega), hl, Nat.sub_self]
  have h1 : k.drop i = a :: k.drop (i + 1) := by
    rw [List.drop_eq_getElem_cons hi]
    congr 1
    have := List.getElem?_eq_getElem hi
    rw [this] at h; exact Option.some.inj h
  rw [h1, List.set_cons_zero, List.take_add_one, h]
  simp [xorK]
def lsP (ls : List (List Nat)) : List PV := ls.map fun b => .sl 1 (bytes b)
theorem lsP_len (ls : List (List Nat)) : (lsP ls).length = ls.length := by simp [lsP]
attribute [go_sem] lsP_len
theorem lsP_get {ls : List (List Nat)} {i : Nat} {b : List Nat} (h : ls[i]? = some b) : (lsP ls)[i]? = some (.sl 1 (bytes b)) := by
  unfold lsP; rw [List.getElem?_map, h]; rfl
theorem bcs_get {l : List Nat} {i a : Nat} (h : l[i]? = some a) : ((bytes l).map SV.pv)[i]? = some (.pv (.int .u8 (a : Int))) := by
  rw [List.getElem?_map, bytes_getS h]; rfl
theorem bcs_set (l : List Nat) (i a : Nat) : ((bytes l).map SV.pv).set i (.pv (.int .u8 (a : Int))) = (bytes (l.set i a)).map SV.pv := by
  rw [← bytes_set, List.map_set]
theorem bcs_len (l : List Nat) : ((bytes l).map SV.pv).length = l.length := by simp [bytes_length]
theorem setCells_b (z k : List Nat) (h : k.length ≤ z.length) : setCells ((bytes z).map SV.pv) ((bytes k).map SV.pv) 0 = (bytes (k ++ z.drop k.length)).map SV.pv := by
  simp only [setCells, List.take_zero, List.nil_append, bcs_len, Nat.zero_add]
  rw [← bytes_append, List.map_append, ← bytes_drop, List.map_drop]
end Go.Ck
namespace Go.Ck
theorem flat_takeH (ls : List (List Nat)) (j : Nat) (b : List Nat) (h : ls[j]? = some b) : (ls.take (j + 1)).flatten = (ls.take j).flatten ++ b := by
  rw [List.take_add_one, h]; simp
theorem flat_le (ls : List (List Nat)) (j : Nat) : (ls.take j).flatten.length ≤ ls.flatten.length := by
  conv => rhs; rw [← List.take_append_drop j ls, List.flatten_append, List.length_append]
  omega
theorem fold_take (ls : List (List Nat)) (j : Nat) (b : List Nat) (h : ls[j]? = some b) (s : HS) : (ls.take (j + 1)).foldl wr s = wr ((ls.take j).foldl wr s) b := by
  rw [List.take_add_one, h]; simp
theorem kof_copy (key : List Nat) : kof key ++ (List.replicate 64 0).drop (kof key).length = kpad key := by
  unfold kpad; rw [List.drop_replicate]
end Go.Ck
namespace Go.Ck
def z64 : List Nat := List.replicate 64 0
theorem z64_len : z64.length = 64 := rfl
theorem kof_copyZ (key : List Nat) : kof key ++ z64.drop (kof key).length = kpad key := kof_copy key
end Go.Ck
namespace Go.Ck
/-- The pieces of an expansion. -/
def hpc (key info : List Nat) : Nat → List Nat
  | 0 => []
  | i + 1 => hmac key (hpc key info i ++ info ++ [(i + 1) % 256])
theorem hpc_len (key info : List Nat) (i : Nat) : (hpc key info i).length ≤ 32 := by
  cases i with
  | zero => simp [hpc]
  | succ i => simp [hpc, hmac_len]
theorem hpc_1 (key info : List Nat) : hpc key info 1 = hmac key (info ++ [1]) := by simp [hpc]
theorem hpc_1len (key info : List Nat) : (hpc key info 1).length = 32 := by rw [hpc_1, hmac_len]
theorem hpc_flat (key info : List Nat) (i : Nat) : hpc key info (i + 1) = hmac key ([hpc key info i, info, [(i + 1) % 256]] : List (List Nat)).flatten := by simp [hpc]
def hpcs (key info : List Nat) (i : Nat) : Option (List PV) := some [.sl 1 (bytes (hpc key info (i + 1)))]
end Go.Ck
namespace Go.Ck
end Go.Ck

set_option linter.unusedVariables false
namespace Go.Ck
/-- How many bits a number needs. -/
def blen (v : Nat) : Nat := if v = 0 then 0 else blen (v / 2) + 1
termination_by v
decreasing_by omega
theorem blen_zero : blen 0 = 0 := by rw [blen]; simp
theorem blen_pos {v : Nat} (h : v ≠ 0) : blen v = blen (v / 2) + 1 := by rw [blen, if_neg h]
theorem blen_le {v n : Nat} : blen v ≤ n ↔ v < 2 ^ n := by
  induction n generalizing v with
  | zero =>
    by_cases h : v = 0
    · subst h; simp [blen_zero]
    · rw [blen_pos h]; simp; omega
  | succ n ih =>
    by_cases h : v = 0
    · subst h; simp [blen_zero, Nat.two_pow_pos]
    · rw [blen_pos h, Nat.add_le_add_iff_right, ih, Nat.div_lt_iff_lt_mul (by omega), Nat.pow_succ]
theorem blen_shift (k : Nat) : ∀ {v : Nat}, 2 ^ k ≤ v → blen v = k + blen (v / 2 ^ k) := by
  induction k with
  | zero => intro v _; simp
  | succ k ih =>
    intro v h
    have hp : 2 ^ (k + 1) = 2 ^ k * 2 := Nat.pow_succ ..
    have hpos := Nat.two_pow_pos k
    rw [blen_pos (by omega), ih (v := v / 2) (by omega), Nat.div_div_eq_div_mul, hp, Nat.mul_comm 2]
    omega
def binN (l : List Nat) : Nat := l.foldl (fun a x => a * 2 + x) 0
end Go.Ck
namespace Go.Ck
def bl8 (n : Nat) : Nat := if n < 1 then 0 else if n < 2 then 1 else if n < 4 then 2 else if n < 8 then 3 else if n < 16 then 4 else if n < 32 then 5 else if n < 64 then 6 else if n < 128 then 7 else 8
theorem blen_bl8 {n : Nat} (h : n < 256) : blen n = bl8 n := by
  have h0 := blen_le (v := n) (n := 0)
  have h1 := blen_le (v := n) (n := 1)
  have h2 := blen_le (v := n) (n := 2)
  have h3 := blen_le (v := n) (n := 3)
  have h4 := blen_le (v := n) (n := 4)
  have h5 := blen_le (v := n) (n := 5)
  have h6 := blen_le (v := n) (n := 6)
  have h7 := blen_le (v := n) (n := 7)
  have h8 := blen_le (v := n) (n := 8)
  simp only [Nat.reducePow] at h0 h1 h2 h3 h4 h5 h6 h7 h8
  unfold bl8
  repeat' split
  all_goals omega
theorem bl8_le (n : Nat) : bl8 n ≤ 8 := by
  unfold bl8
  repeat' split
  all_goals omega
end Go.Ck
namespace Go.Ck
end Go.Ck
namespace Go.Ck
/-- So many bits from a place on, as a number. -/
def getB (l : List Nat) (k n : Nat) : Nat := binN ((l.drop k).take n)
end Go.Ck
namespace Go.Ck
end Go.Ck
namespace Go.Ck
end Go.Ck

set_option linter.unusedVariables false
namespace Go.Ck
def plc (v : Nat) : List Nat → Nat → Int
  | [], _ => -1
  | x :: r, i => if x = v then (i : Int) else plc v r (i + 1)
/-- The patterns that there are, as they come. -/
def ddS (d : List Nat) (x : Nat) : List Nat := if plc x d 0 < 0 then d ++ [x] else d
def dd (xs : List Nat) : List Nat := xs.foldl ddS []
end Go.Ck

set_option linter.unusedVariables false
namespace Go.Ck
def dic (r : List Nat) (u : Nat) : List Nat := (List.range u).map fun i => beN ((r.drop (8 * i)).take 8)
end Go.Ck

set_option linter.unusedVariables false
namespace Go.Ck
end Go.Ck
namespace Go.Ck
end Go.Ck

set_option linter.unusedVariables false
namespace Go.Ck
end Go.Ck

set_option linter.unusedVariables false
namespace Go.Ck
end Go.Ck

set_option linter.unusedVariables false
namespace Go.Ck
end Go.Ck
namespace Go.Ck
end Go.Ck
namespace Go.Ck
end Go.Ck

set_option linter.unusedVariables false
namespace Go.Ck
/-- What differs, or why that is not told; the place behind it; the window behind it. -/
structure GN where
  x : Nat
  e : Int
  k : Nat
  a : Int
  z : Int
def gNy (bs : List Nat) (k : Nat) (a z : Int) : GN :=
  if (a = -1 ∧ z = 0) ∨ z < 0 then ⟨0, 3, k, a, z⟩
  else if k + (64 - a - z).toNat ≤ bs.length then ⟨getB bs k (64 - a - z).toNat * 2 ^ z.toNat % 2 ^ 64, 0, k + (64 - a - z).toNat, a, z⟩ else ⟨0, 2, k, a, z⟩
def gNx (bs : List Nat) (k : Nat) (a z : Int) : GN :=
  if bs.length < k + 1 then ⟨0, 2, k, a, z⟩
  else if getB bs k 1 = 0 then ⟨0, 0, k + 1, a, z⟩
  else if bs.length < k + 2 then ⟨0, 2, k + 1, a, z⟩
  else if getB bs (k + 1) 1 = 1 then
    if bs.length < k + 7 then ⟨0, 2, k + 2, a, z⟩
    else if bs.length < k + 13 then ⟨0, 2, k + 7, a, z⟩
    else gNy bs (k + 13) (getB bs (k + 2) 5 : Nat) (63 - (getB bs (k + 2) 5 : Nat) - (getB bs (k + 7) 6 : Nat))
  else gNy bs (k + 2) a z
/-- So many patterns: those so far, why there are no more, the place, the window. -/
structure GS where
  o : List Nat
  e : Int
  k : Nat
  a : Int
  z : Int
def gRs (bs : List Nat) (r : GS) : GS :=
  if r.e ≠ 0 then r
  else if r.o.length = 0 then (if r.k + 64 ≤ bs.length then ⟨[getB bs r.k 64], 0, r.k + 64, r.a, r.z⟩ else ⟨[], 2, r.k, r.a, r.z⟩)
  else ⟨if (gNx bs r.k r.a r.z).e = 0 then r.o ++ [(gNx bs r.k r.a r.z).x ^^^ r.o.getD (r.o.length - 1) 0] else r.o, (gNx bs r.k r.a r.z).e, (gNx bs r.k r.a r.z).k, (gNx bs r.k r.a r.z).a, (gNx bs r.k r.a r.z).z⟩
def gR (bs : List Nat) : Nat → GS
  | 0 => ⟨[], 0, 0, -1, 0⟩
  | n + 1 => gRs bs (gR bs n)
end Go.Ck

set_option linter.unusedVariables false
namespace Go.Ck
def zr (a z : Int) : Int := if a = -1 then -1 else z
/-- The reference's reading, between two rounds. -/
structure RQ where
  i : Nat
  o : List Nat
  rest : List Nat
  bad : Int
  a : Int
  z : Int
def RQ.ok (bs : List Nat) (n : Nat) (q : RQ) : Prop := q.i ≤ n ∧ q.o.length = q.i ∧ (∀ x ∈ q.o, x < 2 ^ 64) ∧ (gR bs q.i).e = q.bad ∧
  (q.bad = 0 → q.o = (gR bs q.i).o ∧ q.rest = bs.drop (gR bs q.i).k ∧ q.a = (gR bs q.i).a ∧ q.z = zr (gR bs q.i).a (gR bs q.i).z)
/-- What fixed reads: the patterns, why not, what is left. -/
def fx (l : List Nat) (n : Nat) : List Nat × Int × List Nat :=
  if 8 * n ≤ l.length then (dic l n, if l.drop (8 * n) = [] then 0 else 3, l.drop (8 * n)) else ([], 2, l.drop (8 * (l.length / 8)))
end Go.Ck

set_option linter.unusedVariables false
namespace Go.Ck
end Go.Ck

set_option linter.unusedVariables false
namespace Go.Ck
end Go.Ck

set_option linter.unusedVariables false
namespace Go.Ck
end Go.Ck

set_option linter.unusedVariables false
namespace Go.Ck
end Go.Ck

set_option linter.unusedVariables false
namespace Go.Ck
end Go.Ck

set_option linter.unusedVariables false
namespace Go.Ck
def i64r (n : Int) : Prop := -2 ^ 63 ≤ n ∧ n < 2 ^ 63
theorem xor_zero {a : Nat} (h : a < 2 ^ 64) : ibits .xor .u64 (a : Int) 0 = (a : Int) := by
  have := ibits_xor64 (a := a) (b := 0) h (by omega)
  simpa using this
def acc : Int → List Int → List Int
  | _, [] => []
  | p, x :: r => IntKind.i64.wrap (x + p) :: acc (IntKind.i64.wrap (x + p)) r
end Go.Ck
namespace Go.Ck
end Go.Ck

set_option linter.unusedVariables false
namespace Go.Ck
section
variable {α : Type} {D M : List α}
end
end Go.Ck

set_option linter.unusedVariables false
namespace Go.Ck
def lo : List Nat → Nat
  | [] => 0
  | x :: r => r.foldl min x
def hi : List Nat → Nat
  | [] => 0
  | x :: r => r.foldl max x
end Go.Ck

set_option linter.unusedVariables false
namespace Go.Ck
end Go.Ck

set_option linter.unusedVariables false
namespace Go.Ck
end Go.Ck

set_option linter.unusedVariables false
namespace Go.Ck
end Go.Ck
namespace Go.Ck
end Go.Ck
namespace Go.Ck
end Go.Ck
namespace Go.Ck
end Go.Ck

set_option linter.unusedVariables false
namespace Go.Ck
end Go.Ck

set_option linter.unusedVariables false
namespace Go.Ck
end Go.Ck
namespace Go.Ck
end Go.Ck
namespace Go.Ck
end Go.Ck
namespace Go.Ck
end Go.Ck

set_option linter.unusedVariables false
namespace Go.Ck
end Go.Ck
namespace Go.Ck
end Go.Ck

set_option linter.unusedVariables false
namespace Go.Ck
end Go.Ck

set_option linter.unusedVariables false
namespace Go.Ck
end Go.Ck
namespace Go.Ck
end Go.Ck

set_option linter.unusedVariables false
namespace Go.Ck
end Go.Ck

set_option linter.unusedVariables false
namespace Go.Ck
theorem rdv_canon2 : ∀ (l : List Nat) (k acc : Nat), (∀ x ∈ l, x < 256) → (rdv k acc l).2.2 = 0 → ∃ v r, (k = 0 ∨ v ≠ 0) ∧ l = leb v ++ r ∧ rdv k acc l = (acc + v * 128 ^ k, k + (leb v).length, 0)
  | [], k, acc, _, h => by simp [rdv] at h
  | x :: r, k, acc, hb, h => by
    have hx := hb x (by simp)
    rw [rdv] at h ⊢
    split at h
    · simp at h
    · rename_i h1
      rw [if_neg h1]
      split at h
      · rename_i h2
        rw [if_pos h2]
        obtain ⟨v, r', h3, h4, h5⟩ := rdv_canon2 r (k + 1) _ (fun y hy => hb y (by simp [hy])) h
        have hv : v ≠ 0 := h3.resolve_left (by omega)
        have e1 : (v * 128 + x % 128) % 128 + 128 = x := by omega
        have e2 : (v * 128 + x % 128) / 128 = v := by omega
        refine ⟨v * 128 + x % 128, r', .inr (by omega), ?_, ?_⟩
        · rw [leb_ge (by omega), e1, e2, List.cons_append, ← h4]
        · have hp : 128 ^ (k + 1) = 128 ^ k * 128 := Nat.pow_succ ..
          have e3 : (v * 128 + x % 128) * 128 ^ k = v * 128 ^ (k + 1) + x % 128 * 128 ^ k := by rw [hp, Nat.add_mul, Nat.mul_assoc, Nat.mul_comm 128]
          rw [h5, leb_ge (v := v * 128 + x % 128) (by omega), e2, e3, List.length_cons]
          refine Prod.ext ?_ (Prod.ext ?_ rfl) <;> simp only <;> omega
      · rename_i h2
        rw [if_neg h2]
        split at h
        · simp at h
        · rename_i h3
          rw [if_neg h3]
          refine ⟨x, r, by omega, ?_, ?_⟩
          · rw [leb_lt (by omega)]; rfl
          · rw [leb_lt (by omega)]; rfl
theorem readV_canon2 {l : List Nat} (hb : ∀ x ∈ l, x < 256) (h : (readV l).2.2 = 0) : l = leb (readV l).1 ++ l.drop (readV l).2.1 ∧ (readV l).2.1 = (leb (readV l).1).length := by
  rw [readV_eq] at h ⊢
  obtain ⟨v, r, _, h1, h2⟩ := rdv_canon2 l 0 0 hb h
  rw [h2]
  simp only [Nat.zero_add, Nat.pow_zero, Nat.mul_one]
  refine ⟨?_, trivial⟩
  conv => rhs; rw [h1]
  rw [List.drop_left]
  exact h1
theorem blk_canon {l : List Nat} {m : Nat} (hb : ∀ x ∈ l, x < 256) (h : (blk l m).2.1 = 0) : l = leb (blk l m).1.length ++ (blk l m).1 ++ (blk l m).2.2 ∧ (blk l m).1.length ≤ m := by
  unfold blk at h ⊢
  split at h
  · rename_i h1; exact absurd h h1
  · rename_i h1
    rw [if_neg h1]
    split at h
    · simp at h
    · rename_i h2
      rw [if_neg h2]
      split at h
      · simp at h
      · rename_i h3
        rw [if_neg h3]
        simp only
        obtain ⟨h4, h5⟩ := readV_canon2 hb (by simpa using h1)
        have hlen : ((l.drop (readV l).2.1).take (readV l).1).length = (readV l).1 := by rw [List.length_take, List.length_drop]; omega
        rw [hlen]
        refine ⟨?_, by omega⟩
        conv => lhs; rw [h4]
        rw [List.append_assoc]
        congr 1
        rw [← List.drop_drop, List.take_append_drop]
theorem blk_byte {l : List Nat} {m : Nat} (hb : ∀ x ∈ l, x < 256) : (∀ x ∈ (blk l m).1, x < 256) ∧ (∀ x ∈ (blk l m).2.2, x < 256) ∧ (blk l m).1.length ≤ l.length ∧ (blk l m).2.2.length ≤ l.length := by
  unfold blk
  split
  · exact ⟨by simp, hb, by simp, Nat.le_refl _⟩
  · split
    · exact ⟨by simp, hb, by simp, Nat.le_refl _⟩
    · split
      · exact ⟨by simp, hb, by simp, Nat.le_refl _⟩
      · exact ⟨fun x hx => hb x (List.mem_of_mem_drop (List.mem_of_mem_take hx)), fun x hx => hb x (List.mem_of_mem_drop hx), by simp; omega, by simp⟩
end Go.Ck

set_option linter.unusedVariables false
namespace Go.Ck
def nb (s : List UInt8) : List Nat := s.map UInt8.toNat
def ub (l : List Nat) : List UInt8 := l.map UInt8.ofNat
theorem nb_len (s : List UInt8) : (nb s).length = s.length := by simp [nb]
theorem ub_len (l : List Nat) : (ub l).length = l.length := by simp [ub]
theorem nb_ub {l : List Nat} (h : ∀ x ∈ l, x < 256) : nb (ub l) = l := by
  unfold ub nb
  rw [List.map_map]
  conv => rhs; rw [← List.map_id l]
  refine List.map_congr_left (fun x hx => ?_)
  have := h x hx
  simp only [Function.comp, id]
  show (UInt8.ofNat x).toNat = x
  simp only [UInt8.toNat_ofNat']
  omega
abbrev Sm := Int × Nat
def smOK (xs : List Sm) : Prop := ∀ x ∈ xs, i64r x.1 ∧ x.2 < 2 ^ 64
theorem smOK.v {xs : List Sm} (h : smOK xs) : ∀ x ∈ xs.map Prod.snd, x < 2 ^ 64 := by
  intro x hx
  obtain ⟨y, hy, rfl⟩ := List.mem_map.1 hx
  exact (h y hy).2
end Go.Ck
namespace Go.Ck
def sms (xs : List Sm) : List PV := xs.map fun x => .agg [.int .i64 x.1, .int .u64 (x.2 : Nat)]
def chP (c : List UInt8 × List Sm) : PV := .agg [.str c.1, .sl 2 (sms c.2)]
theorem numsOf_byt (l : List Nat) : numsOf (bytes l) = some (l.map fun n : Nat => (n : Int)) := by
  induction l with
  | nil => rfl
  | cons a r ih => 
    show numsOf (.int .u8 (a : Int) :: bytes r) = _
    rw [numsOf, ih]; rfl
theorem ofNums_ub (l : List Nat) : ofNums (l.map fun n : Nat => (n : Int)) = ub l := by
  unfold ofNums ub
  rw [List.map_map]
  exact List.map_congr_left (fun x _ => by simp)
theorem strBytes_nb (s : List UInt8) : strBytes s = bytes (nb s) := by
  unfold strBytes nb bytes
  rw [List.map_map]; rfl
end Go.Ck

set_option linter.unusedVariables false
namespace Go.Ck
def dkInfo (p : Nat) (name : List UInt8) : List Nat := p :: (leb name.length ++ nb name)
def dk (key : List Nat) (p : Nat) (name : List UInt8) : List Nat × Nat :=
  if key.length ≠ 32 then ([], 1) else if 64 < name.length then ([], 4) else (hmac key (dkInfo p name ++ [1]), 0)
theorem dk_lt (key : List Nat) (p : Nat) (name : List UInt8) : ∀ x ∈ (dk key p name).1, x < 256 := by
  unfold dk; split
  · simp
  · split
    · simp
    · exact hmac_lt _ _
theorem dk_len (key : List Nat) (p : Nat) (name : List UInt8) : (dk key p name).1.length ≤ 32 := by
  unfold dk; split
  · simp
  · split
    · simp
    · simp [hmac_len]
end Go.Ck
namespace Go.Ck
theorem bytes_consC (x : Nat) (l : List Nat) : PV.int .u8 (x : Int) :: bytes l = bytes (x :: l) := rfl
theorem dkInfo_eq (p : Nat) (name : List UInt8) : dkInfo p name = p :: (leb name.length ++ nb name) := rfl
end Go.Ck
