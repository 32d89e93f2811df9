/- What is proved here: parts of the proofs of this seat's statements (a verified evaluator for calls over pure values, its laws, and contracts of functions). No condition. -/
import Derived.Test.YthjibccogjggbaaKr
import Derived.Test.YthjibccogjggbaaKn
import Derived.Test.YthjibccogjggbaaKm
set_option linter.all false
set_option linter.unusedVariables false
namespace Go.Ck
structure HS where
  begun : Bool
  s : S8
  part : List Nat
  n : Nat
/-- Its cells. -/
def hsC (h : HS) : List SV := .pv (.bool h.begun) :: (h.s.l.map wP ++ (bytes h.part ++ [PV.int .i64 (h.n : Int)])).map SV.pv
theorem hsC_len {h : HS} (hp : h.part.length = 64) : (hsC h).length = 74 := by
  simp [hsC, bytes_length, hp, S8.l]
theorem hsC_kept (ds os : List Nat) (h : HS) : (hsC h).all (keptV ds os) = true := by
  simp only [hsC, List.all_cons, kept_pv, Bool.and_true]
  simp [keptV, ptsL, hangOn]
theorem hsC_inL (ns : List Nat) (h : HS) : (hsC h).all (inL ns) = true := by
  simp only [hsC, List.all_cons, inL_pv, Bool.and_true]
  simp [inL, ptsL]
attribute [go_sem] hsC_kept hsC_inL
theorem hsC_begun (h : HS) : (hsC h)[0]? = some (.pv (.bool h.begun)) := rfl
theorem hsC_setB (h : HS) (b : Bool) : (hsC h).set 0 (.pv (.bool b)) = hsC { h with begun := b } := rfl
theorem hsC_split {h : HS} (hp : h.part.length = 64) : hsC h = (PV.bool h.begun :: (h.s.l.map wP ++ bytes h.part)).map SV.pv ++ [.pv (.int .i64 (h.n : Int))] := by
  simp [hsC, List.map_append]
theorem hsC_n {h : HS} (hp : h.part.length = 64) : (hsC h)[73]? = some (.pv (.int .i64 (h.n : Int))) := by
  rw [hsC_split hp, List.getElem?_append_right (by simp [bytes_length, hp, S8.l])]
  simp [bytes_length, hp, S8.l]
theorem hsC_setN {h : HS} (hp : h.part.length = 64) (v : Nat) : (hsC h).set 73 (.pv (.int .i64 (v : Int))) = hsC { h with n := v } := by
  rw [hsC_split hp, hsC_split (h := { h with n := v }) hp, List.set_append_right _ _ (by simp [bytes_length, hp, S8.l])]
  simp [bytes_length, hp, S8.l]
theorem hsC_s (h : HS) : allPV (List.take 8 (List.drop 1 (hsC h))) = some (h.s.l.map wP) := by
  have : List.take 8 (List.drop 1 (hsC h)) = (h.s.l.map wP).map SV.pv := by
    simp only [hsC, List.drop_succ_cons, List.drop_zero, List.map_append]
    rw [List.take_append_of_le_length (by simp [S8.l]), List.take_of_length_le (by simp [S8.l])]
  rw [this, allPV_map]
theorem hsC_setS (h : HS) (s : S8) : setCells (hsC h) ((s.l.map wP).map SV.pv) 1 = hsC { h with s := s } := by
  simp only [setCells, hsC, List.length_map]
  simp [S8.l]
theorem hsC_part {h : HS} (hp : h.part.length = 64) : (((hsC h).drop 9).take 64) = (bytes h.part).map SV.pv := by
  have : (hsC h).drop 9 = (bytes h.part ++ [PV.int .i64 (h.n : Int)]).map SV.pv := by simp [hsC, S8.l]
  rw [this, List.map_append, List.take_append_of_le_length (by simp [bytes_length, hp]), List.take_of_length_le (by simp [bytes_length, hp])]
theorem hsC_setP {h : HS} (hp : h.part.length = 64) (r : Nat) (b : List Nat) (hr : r + b.length ≤ 64) : setCells (hsC h) ((bytes b).map SV.pv) (9 + r) = hsC { h with part := h.part.take r ++ b ++ h.part.drop (r + b.length) } := by
  have e1 : hsC h = (PV.bool h.begun :: h.s.l.map wP).map SV.pv ++ ((bytes h.part).map SV.pv ++ [.pv (.int .i64 (h.n : Int))]) := by simp [hsC, List.map_append]
  have e2 : ∀ p : List Nat, hsC { h with part := p } = (PV.bool h.begun :: h.s.l.map wP).map SV.pv ++ ((bytes p).map SV.pv ++ [.pv (.int .i64 (h.n : Int))]) := fun p => by simp [hsC, List.map_append]
  have l9 : ((PV.bool h.begun :: h.s.l.map wP).map SV.pv).length = 9 := by simp [S8.l]
  rw [e1, e2]
  generalize (PV.bool h.begun :: h.s.l.map wP).map SV.pv = A at *
  unfold setCells
  have lb : ((bytes b).map SV.pv).length = b.length := by simp [bytes_length]
  rw [lb]
  rw [List.take_append, List.take_of_length_le (by omega), List.drop_append, List.drop_of_length_le (by omega), l9]
  rw [show 9 + r - 9 = r by omega, show 9 + r + b.length - 9 = r + b.length by omega]
  have lp : ((bytes h.part).map SV.pv).length = 64 := by simp [bytes_length, hp]
  rw [List.take_append_of_le_length (by omega), List.drop_append_of_le_length (by omega)]
  simp only [← List.map_take, ← List.map_drop, bytes_take, bytes_drop, ← bytes_append, List.map_append, List.nil_append, List.append_assoc]

def wrN (h : HS) (b : List Nat) : HS :=
  let k := min b.length (64 - h.n % 64)
  let p := h.part.take (h.n % 64) ++ b.take k ++ h.part.drop (h.n % 64 + k)
  ⟨h.begun, if (h.n + k) % 64 = 0 then thr h.s p else h.s, p, h.n + k⟩
def wrL (h : HS) (b : List Nat) : HS := if hb : b = [] then h else wrL (wrN h b) (b.drop (min b.length (64 - h.n % 64)))
termination_by b.length
decreasing_by
  have h1 : 0 < b.length := List.length_pos_iff.2 hb
  simp only [List.length_drop]
  omega
def wr0 (h : HS) : HS := if h.begun then h else { h with begun := true, s := first8 }
def wr (h : HS) (b : List Nat) : HS := wrL (wr0 h) b
theorem wrL_nil (h : HS) : wrL h [] = h := by rw [wrL]; simp
theorem wrL_step {h : HS} {b : List Nat} (hb : b ≠ []) : wrL h b = wrL (wrN h b) (b.drop (min b.length (64 - h.n % 64))) := by rw [wrL]; simp [hb]
theorem wrN_len {h : HS} (hp : h.part.length = 64) (b : List Nat) : (wrN h b).part.length = 64 := by
  simp only [wrN, List.length_append, List.length_take, List.length_drop, hp]
  omega

theorem fb_lt {s : S8} {l : List Nat} (h : l.length < 64) : fb s l = s := by rw [fb]; simp; omega
theorem fb_ge {s : S8} {l : List Nat} (h : 64 ≤ l.length) : fb s l = fb (thr s (l.take 64)) (l.drop 64) := by rw [fb]; simp [h]
theorem fb_app (k : Nat) : ∀ (s : S8) (x y : List Nat), x.length = 64 * k → fb s (x ++ y) = fb (fb s x) y := by
  induction k with
  | zero => intro s x y h; have : x = [] := List.length_eq_zero_iff.1 (by omega); subst this; simp [fb_lt (s := s) (l := []) (by simp)]
  | succ k ih =>
    intro s x y h
    rw [fb_ge (l := x ++ y) (by simp; omega), fb_ge (l := x) (by omega), List.take_append_of_le_length (by omega), List.drop_append_of_le_length (by omega)]
    exact ih _ _ _ (by simp; omega)
/-- The hash holds the message m. -/
structure HC (m : List Nat) (h : HS) : Prop where
  len : h.part.length = 64
  n : h.n = m.length
  rem : h.part.take (m.length % 64) = m.drop (64 * (m.length / 64))
  s : h.begun = true → h.s = fb first8 m
  none : h.begun = false → m = []
theorem HC.wr0 {m : List Nat} {h : HS} (hc : HC m h) : HC m (wr0 h) ∧ (Ck.wr0 h).begun = true := by
  unfold Ck.wr0
  cases hb : h.begun with
  | true => rw [if_pos rfl]; exact ⟨hc, hb⟩
  | false =>
    rw [if_neg (by simp)]
    have := hc.none hb
    subst this
    exact ⟨⟨hc.len, hc.n, hc.rem, fun _ => (fb_lt (by simp)).symm, fun h => by cases h⟩, rfl⟩
theorem HC.wrN {m : List Nat} {h : HS} (hc : HC m h) (hb : h.begun = true) (b : List Nat) (hb0 : 0 < b.length) : HC (m ++ b.take (min b.length (64 - h.n % 64))) (wrN h b) := by
  obtain ⟨h1, h2, h3, h4, h5⟩ := hc
  generalize hk : min b.length (64 - h.n % 64) = k
  rw [h2] at hk
  have hl : (b.take k).length = k := by rw [List.length_take]; omega
  have hr64 : m.length % 64 < 64 := Nat.mod_lt _ (by decide)
  have hkr : m.length % 64 + k ≤ 64 := by omega
  have hml : (m.drop (64 * (m.length / 64))).length = m.length % 64 := by rw [List.length_drop]; omega
  have hsplit : m = m.take (64 * (m.length / 64)) ++ m.drop (64 * (m.length / 64)) := (List.take_append_drop _ _).symm
  have hfull : (m.take (64 * (m.length / 64))).length = 64 * (m.length / 64) := by rw [List.length_take]; omega
  have hfm : fb first8 m = fb first8 (m.take (64 * (m.length / 64))) := by
    have h6 : fb first8 m = fb first8 (m.take (64 * (m.length / 64)) ++ m.drop (64 * (m.length / 64))) := by rw [← hsplit]
    rw [h6, fb_app _ _ _ _ hfull, fb_lt (by omega)]
  refine ⟨wrN_len h1 b, ?_, ?_, fun _ => ?_, fun h => ?_⟩
  · simp [Ck.wrN, hk, h2, hl]
  · simp only [Ck.wrN, hk, h2, h3, List.length_append, hl]
    by_cases hz : m.length % 64 + k = 64
    · have e1 : (m.length + k) % 64 = 0 := by omega
      have e2 : 64 * ((m.length + k) / 64) = m.length + k := by omega
      rw [e1, e2, List.take_zero, List.drop_of_length_le (by simp [hl])]
    · have e1 : (m.length + k) % 64 = m.length % 64 + k := by omega
      have e2 : (m.length + k) / 64 = m.length / 64 := by omega
      rw [e1, e2, List.take_append_of_le_length (by simp [hl]; omega), List.take_of_length_le (by simp [hl]; omega), List.drop_append_of_le_length (by omega)]
  · simp only [Ck.wrN, hk, h2, h3]
    by_cases hz : m.length % 64 + k = 64
    · have e1 : (m.length + k) % 64 = 0 := by omega
      rw [if_pos e1, h4 hb, hfm]
      have e3 : m.length % 64 + k = 64 := hz
      rw [e3, List.drop_of_length_le (l := h.part) (by omega), List.append_nil]
      conv => rhs; rw [hsplit, List.append_assoc, fb_app _ _ _ _ hfull]
      have hll : (m.drop (64 * (m.length / 64)) ++ b.take k).length = 64 := by rw [List.length_append, hml, hl]; omega
      rw [fb_ge (l := m.drop (64 * (m.length / 64)) ++ b.take k) (by omega), List.take_of_length_le (l := m.drop (64 * (m.length / 64)) ++ b.take k) (by omega), fb_lt (l := (m.drop (64 * (m.length / 64)) ++ b.take k).drop 64) (by rw [List.length_drop]; omega)]
    · have e1 : (m.length + k) % 64 ≠ 0 := by omega
      rw [if_neg e1, h4 hb, hfm]
      conv => rhs; rw [hsplit, List.append_assoc, fb_app _ _ _ _ hfull]
      rw [fb_lt (l := m.drop (64 * (m.length / 64)) ++ b.take k) (by rw [List.length_append, hml, hl]; omega)]
  · simp [Ck.wrN, hb] at h
theorem HC.wrL : ∀ (n : Nat) {b m : List Nat} {h : HS}, b.length = n → HC m h → h.begun = true → HC (m ++ b) (wrL h b)
  | n, b, m, h, hn, hc, hb => by
    by_cases hbe : b = []
    · subst hbe; rw [wrL_nil, List.append_nil]; exact hc
    · have h1 : 0 < b.length := List.length_pos_iff.2 hbe
      rw [wrL_step hbe]
      have h2 := HC.wrN hc hb b h1
      have h3 := HC.wrL (b.drop (min b.length (64 - h.n % 64))).length (b := b.drop (min b.length (64 - h.n % 64))) rfl h2 (by simp [Ck.wrN, hb])
      rw [List.append_assoc, List.take_append_drop] at h3
      exact h3
termination_by n => n
decreasing_by
  simp only [List.length_drop]
  omega
theorem HC.wr {m b : List Nat} {h : HS} (hc : HC m h) : HC (m ++ b) (Ck.wr h b) ∧ (Ck.wr h b).begun = true := by
  obtain ⟨h1, h2⟩ := HC.wr0 hc
  refine ⟨HC.wrL _ rfl h1 h2, ?_⟩
  have key : ∀ (n : Nat) (b : List Nat) (h : HS), b.length = n → h.begun = true → (Ck.wrL h b).begun = true := by
    intro n
    induction n using Nat.strongRecOn with
    | _ n ih =>
      intro b h hn hb
      by_cases hbe : b = []
      · subst hbe; rw [wrL_nil]; exact hb
      · rw [wrL_step hbe]
        have h1 : 0 < b.length := List.length_pos_iff.2 hbe
        exact ih (b.drop (min b.length (64 - h.n % 64))).length (by simp; omega) _ _ rfl (by simp [Ck.wrN, hb])
  exact key _ _ _ rfl h2
/-- The hash ahead of anything. -/
def h00 : HS := ⟨false, ⟨0, 0, 0, 0, 0, 0, 0, 0⟩, List.replicate 64 0, 0⟩
theorem HC.zero : HC [] h00 := ⟨rfl, rfl, rfl, (fun h => absurd h (by decide)), fun _ => rfl⟩
theorem be8w_len (n : Nat) : (be8 n).length = 8 := rfl
theorem endP_len (n : Nat) : (endP n).length = 9 + zpad n := by simp [endP, be8w_len]; omega
theorem sha_len (m : List Nat) : (sha m).length = 32 := by8_len _
end Go.Ck
namespace Go.Ck
theorem ren_pv (ρ : Nat → Nat) (ps : List PV) : (ps.map SV.pv).map (SV.ren ρ) = ps.map SV.pv := by
  rw [List.map_map]; rfl
theorem hsC_ren (ρ : Nat → Nat) (h : HS) : (hsC h).map (SV.ren ρ) = hsC h := by
  have : hsC h = (PV.bool h.begun :: (h.s.l.map wP ++ (bytes h.part ++ [PV.int .i64 (h.n : Int)]))).map SV.pv := rfl
  rw [this, ren_pv]
attribute [go_sem] ren_pv hsC_ren
theorem all_one_bytes (l : List Nat) : (bytes l).all PV.one = true := by
  simp only [bytes, List.all_map, List.all_eq_true]
  intro x _; rfl
end Go.Ck
namespace Go.Ck
def hsP (h : HS) : List PV := PV.bool h.begun :: (h.s.l.map wP ++ (bytes h.part ++ [PV.int .i64 (h.n : Int)]))
theorem hsC_P (h : HS) : hsC h = (hsP h).map SV.pv := rfl
theorem hsP_len {h : HS} (hp : h.part.length = 64) : (hsP h).length = 74 := by have := hsC_len hp; rw [hsC_P, List.length_map] at this; exact this
theorem hsP_one (h : HS) : (hsP h).all PV.one = true := by
  simp only [hsP, List.all_cons, List.all_append, all_one_bytes]
  simp [PV.one, S8.l, wP]
theorem hsC_clo (h : HS) : (hsC h).all SV.clo = true := by
  have hb : (bytes h.part).all PV.clo = true := by
    simp only [bytes, List.all_map, List.all_eq_true]
    intro x _; rfl
  have : (hsP h).all PV.clo = true := by
    simp only [hsP, List.all_cons, List.all_append, hb]
    simp [PV.clo, S8.l, wP]
  rw [hsC_P, List.all_map]
  exact this
attribute [go_sem] hsC_clo
theorem bytes_snoc (l : List Nat) (x : Nat) : bytes l ++ [.int .u8 (x : Int)] = bytes (l ++ [x]) := by rw [← bytes_append]; rfl
theorem bytes_snoc0 (l : List Nat) : bytes l ++ [.int .u8 0] = bytes (l ++ [0]) := by rw [← bytes_append]; rfl
def encE (p : List Nat) (v i : Nat) : List Nat := p ++ (be8 v).take i
theorem encE0 (p : List Nat) (v : Nat) : encE p v 0 = p := by simp [encE]
theorem encE8 (p : List Nat) (v : Nat) : encE p v 8 = p ++ be8 v := rfl
theorem encE_len (p : List Nat) (v i : Nat) (h : i ≤ 8) : (encE p v i).length = p.length + i := by simp [encE, be8w_len]; omega
theorem encE_0 (p : List Nat) (v : Nat) : encE p v 0 ++ [v / 2 ^ 56 % 256] = encE p v 1 := by simp [encE, be8]
theorem encE_1 (p : List Nat) (v : Nat) : encE p v 1 ++ [v / 2 ^ 48 % 256] = encE p v 2 := by simp [encE, be8]
theorem encE_2 (p : List Nat) (v : Nat) : encE p v 2 ++ [v / 2 ^ 40 % 256] = encE p v 3 := by simp [encE, be8]
theorem encE_3 (p : List Nat) (v : Nat) : encE p v 3 ++ [v / 2 ^ 32 % 256] = encE p v 4 := by simp [encE, be8]
theorem encE_4 (p : List Nat) (v : Nat) : encE p v 4 ++ [v / 2 ^ 24 % 256] = encE p v 5 := by simp [encE, be8]
theorem encE_5 (p : List Nat) (v : Nat) : encE p v 5 ++ [v / 2 ^ 16 % 256] = encE p v 6 := by simp [encE, be8]
theorem encE_6 (p : List Nat) (v : Nat) : encE p v 6 ++ [v / 2 ^ 8 % 256] = encE p v 7 := by simp [encE, be8]
theorem encE_7' (p : List Nat) (v : Nat) : encE p v 7 ++ [v / 2 ^ 0 % 256] = encE p v 8 := by simp [encE, be8]
end Go.Ck
namespace Go.Ck
theorem ws48 : IntKind.i64.wrap 48 = 48 := by decide
theorem ws40 : IntKind.i64.wrap 40 = 40 := by decide
theorem ws32 : IntKind.i64.wrap 32 = 32 := by decide
theorem ws24 : IntKind.i64.wrap 24 = 24 := by decide
theorem ws16 : IntKind.i64.wrap 16 = 16 := by decide
theorem ws8 : IntKind.i64.wrap 8 = 8 := by decide
theorem ws0 : IntKind.i64.wrap 0 = 0 := by decide
theorem wsm8 : IntKind.i64.wrap (-8) = -8 := by decide
theorem wrL_len : ∀ (n : Nat) (h : HS) (b : List Nat), b.length = n → h.part.length = 64 → (wrL h b).part.length = 64 := by
  intro n
  induction n using Nat.strongRecOn with
  | _ n ih =>
    intro h b hn hb
    by_cases hbe : b = []
    · subst hbe; rw [wrL_nil]; exact hb
    · rw [wrL_step hbe]
      have h1 : 0 < b.length := List.length_pos_iff.2 hbe
      exact ih (b.drop (min b.length (64 - h.n % 64))).length (by simp; omega) _ _ rfl (wrN_len hb b)
theorem wr_len {h : HS} (hp : h.part.length = 64) (b : List Nat) : (wr h b).part.length = 64 := by
  refine wrL_len _ _ _ rfl ?_
  unfold wr0; split <;> exact hp
end Go.Ck
namespace Go.Ck
def bK (v k : Nat) : Nat := v / 2 ^ k % 256
theorem bK_sh (v k : Nat) (h : k ≤ 64) : IntKind.u8.wrap (shrI .u64 (v : Int) (k : Int)) = ((bK v k : Nat) : Int) := by
  rw [shrI_nat .u64 v k h, wrap_u8]; rfl
theorem bK_56 (v : Nat) : IntKind.u8.wrap (shrI .u64 (v : Int) 56) = ((bK v 56 : Nat) : Int) := bK_sh v 56 (by decide)
theorem bK_48 (v : Nat) : IntKind.u8.wrap (shrI .u64 (v : Int) 48) = ((bK v 48 : Nat) : Int) := bK_sh v 48 (by decide)
theorem bK_40 (v : Nat) : IntKind.u8.wrap (shrI .u64 (v : Int) 40) = ((bK v 40 : Nat) : Int) := bK_sh v 40 (by decide)
theorem bK_32 (v : Nat) : IntKind.u8.wrap (shrI .u64 (v : Int) 32) = ((bK v 32 : Nat) : Int) := bK_sh v 32 (by decide)
theorem bK_24 (v : Nat) : IntKind.u8.wrap (shrI .u64 (v : Int) 24) = ((bK v 24 : Nat) : Int) := bK_sh v 24 (by decide)
theorem bK_16 (v : Nat) : IntKind.u8.wrap (shrI .u64 (v : Int) 16) = ((bK v 16 : Nat) : Int) := bK_sh v 16 (by decide)
theorem bK_8 (v : Nat) : IntKind.u8.wrap (shrI .u64 (v : Int) 8) = ((bK v 8 : Nat) : Int) := bK_sh v 8 (by decide)
theorem bK_0 (v : Nat) : IntKind.u8.wrap (shrI .u64 (v : Int) 0) = ((bK v 0 : Nat) : Int) := bK_sh v 0 (by decide)
theorem encK_0 (p : List Nat) (v : Nat) : encE p v 0 ++ [bK v 56] = encE p v 1 := encE_0 p v
theorem encK_1 (p : List Nat) (v : Nat) : encE p v 1 ++ [bK v 48] = encE p v 2 := encE_1 p v
theorem encK_2 (p : List Nat) (v : Nat) : encE p v 2 ++ [bK v 40] = encE p v 3 := encE_2 p v
theorem encK_3 (p : List Nat) (v : Nat) : encE p v 3 ++ [bK v 32] = encE p v 4 := encE_3 p v
theorem encK_4 (p : List Nat) (v : Nat) : encE p v 4 ++ [bK v 24] = encE p v 5 := encE_4 p v
theorem encK_5 (p : List Nat) (v : Nat) : encE p v 5 ++ [bK v 16] = encE p v 6 := encE_5 p v
theorem encK_6 (p : List Nat) (v : Nat) : encE p v 6 ++ [bK v 8] = encE p v 7 := encE_6 p v
theorem encK_7 (p : List Nat) (v : Nat) : encE p v 7 ++ [bK v 0] = encE p v 8 := encE_7' p v
end Go.Ck

set_option linter.unusedVariables false
set_option maxRecDepth 100000
set_option maxHeartbeats 400000
namespace Go.Ck
open Go.Proofs
def hO (h : HS) : List (Nat × HO) := [(1000, .cells 135 (hsC h))]
theorem Write_fn (h0 : HS) (b0 : List Nat) (hp0 : h0.part.length = 64) (hn0 : h0.n + b0.length < 2 ^ 60) : Fn Try.prog 100 (hO h0) [.ptr 1000 0, .pv (.sl 1 (bytes b0))] (fun rs H' => rs = [.pv (.int .i64 b0.length)] ∧ H' = hO (wr h0 b0)) := by
  refine Fn.of_body (fn := Try.f100) (n := 67) (res := [.tmp 4]) (by kernel_rfl) rfl rfl rfl rfl rfl (fun C => ?_)
  unfold hO
  have hbg := hsC_begun h0
  have hlen0 := hsC_len hp0
  refine AW.go ?_
  refine AW.condF rfl ?_
  refine AW.go ?_ (by simp only [go_sem, ↓reduceIte, hbg] <;> rfl)
  refine AW.joinS (fun _ : Unit => ⟨67, [(0, .ptr 1000 0), (1, .pv (.sl 1 (bytes b0)))], [(1000, .cells 135 (hsC (wr0 h0)))]⟩) (fun _ => True) [0, 1] [1000] ?_ ?_
  · intro K hK
    obtain ⟨bg, s, p, n⟩ := h0
    cases bg with
    | true =>
      refine AW.condF rfl ?_
      refine AW.go ?_
      exact AW.meet hK () trivial (by simp only [go_sem, ↓reduceIte]) (by simp only [go_sem, ↓reduceIte, wr0] <;> rfl)
    | false =>
      refine AW.condT rfl ?_
      refine AW.go ?_
      refine AW.callE (fun _ => 0) first_fn .nil ?_
      have hsB := hsC_setB ⟨false, s, p, n⟩ true
      have l0 : (0 < 74) = True := eq_true (by decide)
      refine AW.goN 5 ?_ (by simp only [go_sem, ↓reduceIte, Nat.reduceMul, hlen0, l0, hsB] <;> rfl)
      refine AW.storeP (off := 1) (ps := first8.l.map wP) rfl rfl rfl ?_ ?_ (hT := tsh_133) (h1 := rfl)
      · rw [hsC_len (h := ⟨true, s, p, n⟩) hp0]; decide
      rw [hsC_setS]
      refine AW.go ?_
      exact AW.meet hK () trivial (by simp only [go_sem, ↓reduceIte]) (by simp only [go_sem, ↓reduceIte, wr0] <;> rfl)
  rintro _ -
  have hwr : wr h0 b0 = wrL (wr0 h0) b0 := rfl
  have hpw : (wr0 h0).part.length = 64 := by unfold wr0; split <;> exact hp0
  have hnw : (wr0 h0).n = h0.n := by unfold wr0; split <;> rfl
  rw [hwr]
  rw [← hnw] at hn0
  generalize wr0 h0 = h1 at *
  refine AW.go ?_
  refine AW.loopS (fun a : HS × List Nat => ⟨67, [(0, .ptr 1000 0), (1, .pv (.sl 1 (bytes a.2))), (5, .pv (.int .i64 b0.length))], [(1000, .cells 135 (hsC a.1))]⟩) (fun a => a.1.part.length = 64 ∧ wrL a.1 a.2 = wrL h1 b0 ∧ a.1.n + a.2.length = h1.n + b0.length) (fun a => a.2.length) [0, 1, 5] [1000] (h1, b0) ⟨hpw, rfl, rfl⟩ ?_
  rintro ⟨h, b⟩ ⟨hp, hw, hs⟩ K hK
  simp only at hp hw hs
  refine AW.go ?_
  refine AW.cond rfl (fun hc => ?_) (fun hc => ?_)
  rotate_left
  · have hb : b = [] := by
      have := of_decide_eq_false hc
      exact List.length_eq_zero_iff.1 (by omega)
    subst hb
    rw [wrL_nil] at hw
    subst hw
    refine AW.go ?_
    refine AW.finE (.pv _ .nil) rfl
  · have hb0 : 0 < b.length := by have := of_decide_eq_true hc; omega
    have hbne : b ≠ [] := List.length_pos_iff.1 hb0
    have hws := wrL_step (h := h) hbne
    have hwl := wrN_len hp b
    have hwn : (wrN h b).n = h.n + min b.length (64 - h.n % 64) := rfl
    have hwN : wrN h b = ⟨h.begun, if (h.n + min b.length (64 - h.n % 64)) % 64 = 0 then thr h.s (h.part.take (h.n % 64) ++ b.take (min b.length (64 - h.n % 64)) ++ h.part.drop (h.n % 64 + min b.length (64 - h.n % 64))) else h.s, h.part.take (h.n % 64) ++ b.take (min b.length (64 - h.n % 64)) ++ h.part.drop (h.n % 64 + min b.length (64 - h.n % 64)), h.n + min b.length (64 - h.n % 64)⟩ := rfl
    have hpl : (h.part.take (h.n % 64) ++ b.take (min b.length (64 - h.n % 64)) ++ h.part.drop (h.n % 64 + min b.length (64 - h.n % 64))).length = 64 := hwl
    generalize hk : min b.length (64 - h.n % 64) = kk at *
    obtain ⟨r, hr⟩ : ∃ r, r = h.n % 64 := ⟨_, rfl⟩
    rw [← hr] at hk hwN hpl
    have hr64 : r < 64 := by omega
    have hn := hsC_n hp
    have hlen := hsC_len hp
    have erem : ((h.n : Int)).tmod 64 = (r : Int) := by rw [hr]; rfl
    have hbl : (b.take kk).length = kk := by rw [List.length_take]; omega
    refine AW.go ?_
    refine AW.calmS ?_
    refine CK.reads [[], [26], [27], [], [29], [30], [31], [32]] ?_ (by simp only [go_sem, ↓reduceIte, hn, erem, hlen] <;> rfl)
    refine CK.sliceO [28, 33] r 64 tk_110 (by omega) (by omega) (by omega) ?_
    refine CK.reads [[]] ?_ (by simp only [go_sem, ↓reduceIte, hn, erem, hlen] <;> rfl)
    refine CK.done (M := 10) 2 mixed ?_
    refine AW.seqs (fuel := 0) (listed' := Array.replicate 12 true) [10, 11] ?_ (by decide +kernel)
    refine AW.copyO (ez := 0) (off := 9 + r) (n := 64 - r) (kk := kk) (xs := bytes b) rfl rfl ?_ rfl rfl (all_one_bytes b) ?_ ?_ (hT := tk_23)
    · rw [hlen]; omega
    · rw [bytes_length]; exact hk.symm
    rw [bytes_take, hsC_setP hp r (b.take kk) (by omega), hbl]
    generalize hp1 : h.part.take r ++ b.take kk ++ h.part.drop (r + kk) = p at *
    refine AW.gg ?_
    refine AW.anyDone (by decide +kernel) ?_
    obtain ⟨bg, s, p0, n⟩ := h
    simp only at hp hw hs hwl hws hwn hr hwN
    have hn2 := hsC_n (h := ⟨bg, s, p, n⟩) hpl
    have hlen2 := hsC_len (h := ⟨bg, s, p, n⟩) hpl
    have hset2 := hsC_setN (h := ⟨bg, s, p, n⟩) hpl (n + kk)
    have e1 : ((b.length : Int) - (kk : Int)).toNat = b.length - kk := by omega
    have e2 : (b.drop kk).take (b.length - kk) = b.drop kk := List.take_of_length_le (by rw [List.length_drop]; omega)
    have e3 : ((kk : Int) ≤ (b.length : Int)) = True := eq_true (by omega)
    have e3' : (kk ≤ b.length) = True := eq_true (by omega)
    have e4 : IntKind.i64.wrap ((n : Int) + (kk : Int)) = ((n + kk : Nat) : Int) := by rw [wrap_i64_of (by omega) (by omega)]; omega
    have l73 : (73 < 74) = True := eq_true (by decide)
    have hn3 := hsC_n (h := ⟨bg, s, p, n + kk⟩) hpl
    have hlen3 := hsC_len (h := ⟨bg, s, p, n + kk⟩) hpl
    have hs3 := hsC_s ⟨bg, s, p, n + kk⟩
    have hp3 := hsC_part (h := ⟨bg, s, p, n + kk⟩) hpl
    have erem2 : (((n + kk : Nat) : Int)).tmod 64 = (((n + kk) % 64 : Nat) : Int) := rfl
    have l74 : 1 + 8 ≤ 74 := by decide
    have l18 : (1 + 8 ≤ 74) = True := eq_true (by decide)
    have hfin : b.length - kk < b.length := by omega
    have hnum : n + kk + (b.length - kk) = h1.n + b0.length := by omega
    refine AW.go ?_ (by simp only [go_sem, ↓reduceIte, hn2, hlen2, hset2, e1, e2, e3, e3', e4, l73, hn3, erem2] <;> rfl)
    refine AW.cond rfl (fun hc2 => ?_) (fun hc2 => ?_)
    rotate_left
    · have hne : ¬ (n + kk) % 64 = 0 := by
        intro h
        rw [h] at hc2
        exact absurd hc2 (by decide)
      rw [if_neg hne] at hwN
      refine AW.go ?_
      refine AW.again hK (wrN ⟨bg, s, p0, n⟩ b, b.drop kk) (by exact ⟨hwl, by rw [← hws]; exact hw, by simp only [List.length_drop, hwn]; omega⟩) (by simp; omega) (hs := by simp only [go_sem, ↓reduceIte, hwN] <;> rfl)
    · have he : (n + kk) % 64 = 0 := by
        have := eq_of_beq hc2
        omega
      rw [if_pos he] at hwN
      refine AW.keepB [0, 1, 5] [1000] (by simp only [go_sem, ↓reduceIte]) (by simp only [go_sem, ↓reduceIte] <;> rfl) ?_
      refine AW.go ?_
      refine AW.calmS ?_
      refine CK.reads [[], [], [55], [56], [57], [], [59], [60]] ?_ (by simp only [go_sem, ↓reduceIte, hlen3, hs3, l18] <;> rfl)
      refine CK.sliceO [61] 0 64 tk_110 (by omega) (by omega) (by omega) ?_
      refine CK.callP (args := [.pv (stP s), .pv (.sl 1 (bytes p))]) [58, 62] (through_fn s p hpl) (fun t hle => .pv _ (.lendO (hle.lk rfl) hp3 (by rw [bytes_length, hpl]) (all_one_bytes p) (le_maxLen 64) .nil)) ?_
      refine CK.done (M := 10) 3 mixed ?_
      refine AW.seqs (fuel := 0) (listed' := Array.replicate 13 true) [10, 11, 12] ?_ (by decide +kernel)
      refine AW.goN 2 ?_
      refine AW.storeP (off := 1) (ps := (thr s p).l.map wP) rfl rfl rfl ?_ ?_ (hT := tsh_133) (h1 := rfl)
      · rw [hsC_len (h := ⟨bg, s, p, n + kk⟩) hpl]; exact l74
      rw [hsC_setS]
      refine AW.go ?_
      refine AW.anyDone (by decide +kernel) ?_
      refine AW.go ?_
      exact AW.again hK (wrN ⟨bg, s, p0, n⟩ b, b.drop kk) (by exact ⟨hwl, by rw [← hws]; exact hw, by simp only [List.length_drop, hwn]; omega⟩) (by simp; omega) (hs := by simp only [go_sem, ↓reduceIte, hwN] <;> rfl)
end Go.Ck

set_option linter.unusedVariables false
set_option maxRecDepth 100000
set_option maxHeartbeats 400000
namespace Go.Ck
open Go.Proofs
attribute [go_sem] hO
theorem hSum_fn (h : HS) (m : List Nat) (hc : HC m h) (hm : m.length < 2 ^ 59) : Fn Try.prog 101 (hO h) [.ptr 1000 0] (fun rs H' => rs = [.own 5 (bytes (sha m))] ∧ H' = hO h) := by
  refine Fn.of_body (fn := Try.f101) (n := 43) (res := [.tmp 2]) (by kernel_rfl) rfl rfl rfl rfl rfl (fun C => ?_)
  have hroom : room = 140737488355328 := rfl
  have hsha : sha m = by8 (wr h (endP m.length)).s := by
    have := (hc.wr (b := endP m.length))
    rw [this.1.s this.2]; rfl
  rw [hsha]
  obtain ⟨hp, hn, _, _, _⟩ := hc
  rw [← hn] at hm ⊢
  unfold hO
  have hlen := hsC_len hp
  have hgn := hsC_n hp
  refine AW.go ?_
  refine AW.condF rfl ?_
  refine AW.goM 9 ?_
  refine AW.loadP (off := 0) (ps := hsP h) rfl rfl ?_ ?_ (hT := by rw [hsP_len hp]; exact tsh_135) (hle := by rw [hsP_len hp, hlen]; decide)
  · rw [hsP_len hp, take_all _ _ hlen]; rfl
  refine AW.goN 1 ?_
  refine AW.storeP (off := 0) (ps := hsP h) rfl rfl rfl ?_ ?_ (hT := by rw [hsP_len hp]; exact tsh_135) (h1 := hsP_one h)
  · rw [hsP_len hp]; decide
  rw [setCells_all _ _ (by rw [List.length_map, hsP_len hp]; rfl), ← hsC_P]
  refine AW.keepB [3] [3, 1000] (by simp only [go_sem, ↓reduceIte]) (by simp only [go_sem, ↓reduceIte] <;> rfl) ?_
  have l73 : (73 < 74) = True := eq_true (by decide)
  refine AW.go ?_ (by simp only [go_sem, ↓reduceIte, hgn, hlen, l73] <;> rfl)
  refine AW.loopS (fun j : Nat => ⟨43, [(4, .pv (.int .i64 h.n)), (3, .ptr 3 0), (5, .own 5 (bytes (128 :: List.replicate j 0)))], [(3, .cells 135 (hsC h)), (1000, .cells 135 (hsC h))]⟩) (fun j => j ≤ zpad h.n) (fun j => zpad h.n - j) [4, 3, 5] [3, 1000] 0 (Nat.zero_le _) ?_
  rintro j hj K hK
  have hzp : zpad h.n = (119 - h.n % 64) % 64 := rfl
  have hql : (128 :: List.replicate j 0).length = j + 1 := by simp
  have hqn : (128 :: List.replicate j 0) ++ [0] = 128 :: List.replicate (j + 1) 0 := by rw [List.replicate_succ']; rfl
  generalize hqq : 128 :: List.replicate j 0 = q at *
  have e1 : IntKind.i64.wrap ((h.n : Int) + ((j + 1 : Nat) : Int)) = ((h.n + (j + 1) : Nat) : Int) := by rw [wrap_i64_of (by omega) (by omega)]; omega
  have e2 : ((h.n + (j + 1) : Nat) : Int).tmod 64 = (((h.n + (j + 1)) % 64 : Nat) : Int) := rfl
  refine AW.go ?_ (by simp only [go_sem, ↓reduceIte, hql, e1, e2] <;> rfl)
  refine AW.cond rfl (fun hc => ?_) (fun hc => ?_)
  · have hne : (h.n + (j + 1)) % 64 ≠ 56 := by
      intro h
      rw [h] at hc
      exact absurd hc (by decide)
    have r1 : q.length + 1 ≤ room := by omega
    have r2 : j + 1 + 1 ≤ room := by omega
    refine AW.go ?_ (by simp only [go_sem, ↓reduceIte, bytes_snoc0, hql, r1, r2] <;> rfl)
    exact AW.again hK (j + 1) (by omega) (by omega) (hs := by simp only [go_sem, ↓reduceIte, hqn] <;> rfl)
  have hjz : j = zpad h.n := by
    have : (h.n + (j + 1)) % 64 = 56 := by
      have h2 : ((((h.n + (j + 1)) % 64 : Nat) : Int) == 56) = true := by simpa [bne] using hc
      have := eq_of_beq h2
      omega
    omega
  subst hjz
  refine AW.go ?_
  have ew : IntKind.u64.wrap (h.n : Int) = (h.n : Int) := wrap_u64_lt (by omega)
  have em : IntKind.u64.wrap ((h.n : Int) * 8) = ((h.n * 8 : Nat) : Int) := by rw [show (h.n : Int) * 8 = ((h.n * 8 : Nat) : Int) by omega]; exact wrap_u64_lt (by omega)
  refine AW.loopS (fun i : Nat => ⟨43, [(4, .pv (.int .i64 h.n)), (3, .ptr 3 0), (6, .pv (.int .i64 (56 - 8 * (i : Int)))), (5, .own 5 (bytes (encE q (h.n * 8) i)))], [(3, .cells 135 (hsC h)), (1000, .cells 135 (hsC h))]⟩) (fun i => i ≤ 8) (fun i => 8 - i) [4, 3, 6, 5] [3, 1000] 0 (Nat.zero_le _) ?_ (hs := by simp only [go_sem, ↓reduceIte, encE0] <;> rfl)
  rintro i hi K2 hK2
  have hel := encE_len q (h.n * 8) i hi
  have r3 : (encE q (h.n * 8) i).length + 1 ≤ room := by omega
  have hcase : i = 8 ∨ i = 0 ∨ i = 1 ∨ i = 2 ∨ i = 3 ∨ i = 4 ∨ i = 5 ∨ i = 6 ∨ i = 7 := by omega
  rcases hcase with rfl | hcase
  · refine AW.go ?_
    refine AW.condF rfl ?_
    have hqe : q ++ be8 (h.n * 8) = endP h.n := by rw [← hqq]; rfl
    rw [encE8, hqe]
    refine AW.go ?_
    have hel2 : h.n + (endP h.n).length < 2 ^ 60 := by rw [endP_len]; omega
    refine AW.callE (args := [.ptr 1000 0, .pv (.sl 1 (bytes (endP h.n)))]) (fun _ => 3) (Write_fn h (endP h.n) hp hel2) (.ptr rfl (.lend rfl co_5 .nil)) ?_
    have hlw : (hsC (wr h (endP h.n))).length = 74 := hsC_len (wr_len hp _)
    have hsw := hsC_s (wr h (endP h.n))
    have l18 : (1 + 8 ≤ 74) = True := eq_true (by decide)
    refine AW.go ?_ (by simp only [go_sem, ↓reduceIte, hlw, hsw, l18] <;> rfl)
    refine AW.callE (fun _ => 0) (bytesW_fn (wr h (endP h.n)).s) (.pv _ .nil) ?_
    refine AW.go ?_
    refine AW.finE (.move rfl .nil) rfl
  generalize h.n * 8 = v at *
  rcases hcase with rfl | rfl | rfl | rfl | rfl | rfl | rfl | rfl
  all_goals
    refine AW.go ?_ (by simp only [go_sem, ↓reduceIte, nc0, nc1, nc2, nc3, nc4, nc5, nc6, nc7, Int.reduceMul, Int.reduceSub] <;> rfl)
    refine AW.condT rfl ?_
    refine AW.go ?_ (by simp only [go_sem, ↓reduceIte, ew, em, bK_56, bK_48, bK_40, bK_32, bK_24, bK_16, bK_8, bK_0, bytes_snoc, encK_0, encK_1, encK_2, encK_3, encK_4, encK_5, encK_6, encK_7, r3, Int.reduceSub, ws48, ws40, ws32, ws24, ws16, ws8, ws0, wsm8] <;> rfl)
    first
      | exact AW.again hK2 1 (by decide) (by decide)
      | exact AW.again hK2 2 (by decide) (by decide)
      | exact AW.again hK2 3 (by decide) (by decide)
      | exact AW.again hK2 4 (by decide) (by decide)
      | exact AW.again hK2 5 (by decide) (by decide)
      | exact AW.again hK2 6 (by decide) (by decide)
      | exact AW.again hK2 7 (by decide) (by decide)
      | exact AW.again hK2 8 (by decide) (by decide)

theorem shaSum_fn (m : List Nat) (hm : m.length < 2 ^ 59) : Fn Try.prog 82 [] [.pv (.sl 1 (bytes m))] (fun rs H' => rs = [.own 5 (bytes (sha m))] ∧ H' = []) := by
  refine Fn.of_body (fn := Try.f82) (n := 11) (res := [.tmp 2]) (by kernel_rfl) rfl rfl rfl rfl rfl (fun C => ?_)
  refine AW.go ?_
  have h := (HC.zero).wr (b := m)
  refine AW.keepB [6, 7, 3] [5] (by simp only [go_sem, ↓reduceIte]) (s' := ⟨11, [(6, .ptr 5 0), (7, .pv (.sl 1 (bytes m))), (3, .ptr 5 0)], [(5, .cells 135 (hsC h00))]⟩) (by simp only [go_sem, ↓reduceIte] <;> rfl) ?_
  refine AW.callE (fun _ => 5) (Write_fn h00 m rfl (by show 0 + m.length < 2 ^ 60; omega)) (.ptr rfl (.pv _ .nil)) ?_
  refine AW.go ?_
  refine AW.callE (fun _ => 5) (hSum_fn (wr h00 m) m h.1 hm) (.ptr rfl .nil) ?_
  refine AW.go ?_
  refine AW.finE (.move rfl .nil) rfl
end Go.Ck

set_option linter.unusedVariables false
namespace Go.Ck
def wds (ws : List W32) : List PV := ws.map wP
theorem wds_len (ws : List W32) : (wds ws).length = ws.length := by simp [wds]
theorem cloL_wds (ws : List W32) : cloL (wds ws) = true := by
  induction ws with
  | nil => rfl
  | cons a l ih => simpa [wds, cloL, PV.clo, wP] using ih
attribute [go_sem] wds_len cloL_wds
theorem bytes_getS {l : List Nat} {i x : Nat} (h : l[i]? = some x) : (bytes l)[i]? = some (.int .u8 (x : Int)) := by
  unfold bytes; rw [List.getElem?_map, h]; rfl
end Go.Ck
namespace Go.Ck
end Go.Ck
namespace Go.Ck
end Go.Ck

set_option linter.unusedVariables false
set_option maxRecDepth 100000
set_option maxHeartbeats 400000
namespace Go.Ck
open Go.Proofs
end Go.Ck

set_option linter.unusedVariables false
set_option maxRecDepth 100000
set_option maxHeartbeats 400000
namespace Go.Ck
open Go.Proofs
end Go.Ck

set_option linter.unusedVariables false
namespace Go.Ck
theorem byW_lt (x : W32) : ∀ y ∈ byW x, y < 256 := by
  intro y hy
  simp only [byW, List.mem_cons, List.not_mem_nil, or_false] at hy
  rcases hy with rfl | rfl | rfl | rfl <;> exact Nat.mod_lt _ (by decide)
theorem sha_lt (m : List Nat) : ∀ y ∈ sha m, y < 256 := by
  intro y hy
  simp only [sha, by8, List.mem_flatMap] at hy
  obtain ⟨x, _, h⟩ := hy
  exact byW_lt x y h
def kof (key : List Nat) : List Nat := if 64 < key.length then sha key else key
def kpad (key : List Nat) : List Nat := kof key ++ List.replicate (64 - (kof key).length) 0
def xorK (k : List Nat) (x : Nat) : List Nat := k.map (· ^^^ x)
def hmac (key m : List Nat) : List Nat := sha (xorK (kpad key) 92 ++ sha (xorK (kpad key) 54 ++ m))
theorem kof_len (key : List Nat) : (kof key).length ≤ 64 := by
  unfold kof; split
  · rw [sha_len]; decide
  · omega
theorem kof_lt {key : List Nat} (h : ∀ x ∈ key, x < 256) : ∀ x ∈ kof key, x < 256 := by
  unfold kof; split
  · exact sha_lt key
  · exact h
theorem kpad_len (key : List Nat) : (kpad key).length = 64 := by
  have := kof_len key
  simp [kpad]; omega
theorem kpad_lt {key : List Nat} (h : ∀ x ∈ key, x < 256) : ∀ x ∈ kpad key, x < 256 := by
  intro x hx
  simp only [kpad, List.mem_append] at hx
  rcases hx with hx | hx
  · exact kof_lt h x hx
  · rw [(List.mem_replicate.1 hx).2]; decide
theorem hmac_len (k m : List Nat) : (hmac k m).length = 32 := sha_len _
theorem hmac_lt (k m : List Nat) : ∀ y ∈ hmac k m, y < 256 := sha_lt _
theorem xorK_len (k : List Nat) (x : Nat) : (xorK k x).length = k.length := by simp [xorK]
theorem ibits_xor8 {a b : Nat} (ha : a < 2 ^ 8) (hb : b < 2 ^ 8) : ibits .xor .u8 (a : Int) (b : Int) = ((a ^^^ b : Nat) : Int) := by
  have h := Nat.xor_lt_two_pow ha hb
  have e1 : (BitVec.ofNat 8 a ^^^ BitVec.ofNat 8 b).toNat = a ^^^ b := by
    rw [BitVec.toNat_xor, BitVec.toNat_ofNat, BitVec.toNat_ofNat, Nat.mod_eq_of_lt ha, Nat.mod_eq_of_lt hb]
  have e2 : ibits .xor .u8 (a : Int) (b : Int) = IntKind.u8.wrap ((BitVec.ofInt 8 (a : Int) ^^^ BitVec.ofInt 8 (b : Int)).toNat : Int) := rfl
  rw [e2, ofInt_nat, ofInt_nat, e1]
  exact wrap_u8_lt h
/-- The key, of which the first i bytes are xored. -/
def xorN (k : List Nat) (x i : Nat) : List Nat := xorK (k.take i) x ++ k.drop i
theorem xorN_0 (k : List Nat) (x : Nat) : xorN k x 0 = k := by simp [xorN, xorK]
theorem xorN_all (k : List Nat) (x i : Nat) (h : k.length ≤ i) : xorN k x i = xorK k x := by
  simp [xorN, List.take_of_length_le h, List.drop_of_length_le h]
theorem xorN_len (k : List Nat) (x i : Nat) : (xorN k x i).length = k.length := by simp [xorN, xorK]; omega
theorem xorN_get {k : List Nat} {x i a : Nat} (h : k[i]? = some a) : (xorN k x i)[i]? = some a := by
  have hi : i < k.length := (List.getElem?_eq_some_iff.1 h).1
  unfold xorN
  rw [List.getElem?_append_right (by simp [xorK]; omega)]
  have : (xorK (k.take i) x).length = i := by simp [xorK]; omega
  rw [this, Nat.sub_self, List.getElem?_drop]
  exact h
theorem xorN_set {k : List Nat} {x i a : Nat} (h : k[i]? = some a) : (xorN k x i).set i (a ^^^ x) = xorN k x (i + 1) := by
  have hi : i < k.length := (List.getElem?_eq_some_iff.1 h).1
  have hl : (xorK (k.take i) x).length = i := by simp [xorK]; omega
  unfold xorN
  rw [List.set_append_right _ _ (by omega), hl, Nat.sub_self]
  have h1 : k.drop i = a :: k.drop (i + 1) := by
    rw [List.drop_eq_getElem_cons hi]
    congr 1
    have := List.getElem?_eq_getElem hi
    rw [this] at h; exact Option.some.inj h
  rw [h1, List.set_cons_zero, List.take_add_one, h]
  simp [xorK]
def lsP (ls : List (List Nat)) : List PV := ls.map fun b => .sl 1 (bytes b)
theorem lsP_len (ls : List (List Nat)) : (lsP ls).length = ls.length := by simp [lsP]
attribute [go_sem] lsP_len
theorem lsP_get {ls : List (List Nat)} {i : Nat} {b : List Nat} (h : ls[i]? = some b) : (lsP ls)[i]? = some (.sl 1 (bytes b)) := by
  unfold lsP; rw [List.getElem?_map, h]; rfl
theorem bcs_get {l : List Nat} {i a : Nat} (h : l[i]? = some a) : ((bytes l).map SV.pv)[i]? = some (.pv (.int .u8 (a : Int))) := by
  rw [List.getElem?_map, bytes_getS h]; rfl
theorem bcs_set (l : List Nat) (i a : Nat) : ((bytes l).map SV.pv).set i (.pv (.int .u8 (a : Int))) = (bytes (l.set i a)).map SV.pv := by
  rw [← bytes_set, List.map_set]
theorem bcs_len (l : List Nat) : ((bytes l).map SV.pv).length = l.length := by simp [bytes_length]
theorem setCells_b (z k : List Nat) (h : k.length ≤ z.length) : setCells ((bytes z).map SV.pv) ((bytes k).map SV.pv) 0 = (bytes (k ++ z.drop k.length)).map SV.pv := by
  simp only [setCells, List.take_zero, List.nil_append, bcs_len, Nat.zero_add]
  rw [← bytes_append, List.map_append, ← bytes_drop, List.map_drop]
end Go.Ck
namespace Go.Ck
theorem flat_takeH (ls : List (List Nat)) (j : Nat) (b : List Nat) (h : ls[j]? = some b) : (ls.take (j + 1)).flatten = (ls.take j).flatten ++ b := by
  rw [List.take_add_one, h]; simp
theorem flat_le (ls : List (List Nat)) (j : Nat) : (ls.take j).flatten.length ≤ ls.flatten.length := by
  conv => rhs; rw [← List.take_append_drop j ls, List.flatten_append, List.length_append]
  omega
theorem fold_take (ls : List (List Nat)) (j : Nat) (b : List Nat) (h : ls[j]? = some b) (s : HS) : (ls.take (j + 1)).foldl wr s = wr ((ls.take j).foldl wr s) b := by
  rw [List.take_add_one, h]; simp
theorem kof_copy (key : List Nat) : kof key ++ (List.replicate 64 0).drop (kof key).length = kpad key := by
  unfold kpad; rw [List.drop_replicate]
end Go.Ck
namespace Go.Ck
def z64 : List Nat := List.replicate 64 0
theorem z64_len : z64.length = 64 := rfl
theorem kof_copyZ (key : List Nat) : kof key ++ z64.drop (kof key).length = kpad key := kof_copy key
end Go.Ck
namespace Go.Ck
/-- The pieces of an expansion. -/
def hpc (key info : List Nat) : Nat → List Nat
  | 0 => []
  | i + 1 => hmac key (hpc key info i ++ info ++ [(i + 1) % 256])
theorem hpc_len (key info : List Nat) (i : Nat) : (hpc key info i).length ≤ 32 := by
  cases i with
  | zero => simp [hpc]
  | succ i => simp [hpc, hmac_len]
theorem hpc_1 (key info : List Nat) : hpc key info 1 = hmac key (info ++ [1]) := by simp [hpc]
theorem hpc_1len (key info : List Nat) : (hpc key info 1).length = 32 := by rw [hpc_1, hmac_len]
theorem hpc_flat (key info : List Nat) (i : Nat) : hpc key info (i + 1) = hmac key ([hpc key info i, info, [(i + 1) % 256]] : List (List Nat)).flatten := by simp [hpc]
def hpcs (key info : List Nat) (i : Nat) : Option (List PV) := some [.sl 1 (bytes (hpc key info (i + 1)))]
end Go.Ck
namespace Go.Ck
end Go.Ck

set_option linter.unusedVariables false
set_option maxRecDepth 100000
set_option maxHeartbeats 400000
namespace Go.Ck
open Go.Proofs
theorem summed_fn (k : List Nat) (x : Nat) (ls : List (List Nat)) (hk : k.length = 64) (hkb : ∀ y ∈ k, y < 256) (hx : x < 256) (hl : ls.flatten.length < 2 ^ 58) (hln : ls.length < 2 ^ 40) : Fn Try.prog 83 [] [.pv (.agg (bytes k)), .pv (.int .u8 x), .pv (.sl 1 (lsP ls))] (fun rs H' => rs = [.pv (.sl 1 (bytes (sha (xorK k x ++ ls.flatten))))] ∧ H' = []) := by
  refine Fn.of_body (fn := Try.f83) (n := 38) (res := [.tmp 6]) (by kernel_rfl) rfl rfl rfl rfl rfl (fun C => ?_)
  refine AW.go ?_
  refine AW.loopS (fun i : Nat => ⟨38, [(13, .pv (.int .i64 i)), (1, .pv (.int .u8 x)), (2, .pv (.sl 1 (lsP ls))), (3, .ptr 3 0), (7, .ptr 12 0)], [(3, .cells 110 ((bytes (xorN k x i)).map SV.pv)), (12, .cells 135 (hsC h00))]⟩) (fun i => i ≤ 64) (fun i => 64 - i) [13, 1, 2, 3, 7] [3, 12] 0 (by omega) ?_ (hs := by simp only [go_sem, ↓reduceIte, xorN_0] <;> rfl)
  rintro i hi K hK
  refine AW.go ?_
  refine AW.cond rfl (fun hc => ?_) (fun hc => ?_)
  · have hlt : i < 64 := by have := of_decide_eq_true hc; omega
    have l1 : (i < 64) = True := eq_true hlt
    obtain ⟨a, ha⟩ : ∃ a, k[i]? = some a := ⟨k[i], List.getElem?_eq_getElem (by omega)⟩
    have ha256 : a < 256 := hkb a (List.mem_of_getElem? ha)
    have g1 := bcs_get (xorN_get (x := x) ha)
    have g2 : ((bytes (xorN k x i)).map SV.pv).length = 64 := by rw [bcs_len, xorN_len, hk]
    have g2' : (xorN k x i).length = 64 := by rw [xorN_len, hk]
    have g3 : ((bytes (xorN k x i)).map SV.pv).set i (.pv (.int .u8 ((a ^^^ x : Nat) : Int))) = (bytes (xorN k x (i + 1))).map SV.pv := by rw [bcs_set, xorN_set ha]
    have g4 := ibits_xor8 (a := a) (b := x) ha256 hx
    have e6 : IntKind.i64.wrap ((i : Int) + 1) = ((i + 1 : Nat) : Int) := wrap_i64_succ (by omega)
    refine AW.go ?_ (by simp only [go_sem, ↓reduceIte, l1, g1, g2, g2', g3, g4, e6, List.length_map] <;> rfl)
    exact AW.again hK (i + 1) (by omega) (by omega)
  have hge : i = 64 := by have := of_decide_eq_false hc; omega
  subst hge
  rw [xorN_all _ _ _ (by omega)]
  have hkl : (xorK k x).length = 64 := by rw [xorK_len, hk]
  generalize xorK k x = kk at *
  refine AW.go ?_
  refine AW.sliceO (off := 0) (l := 0) (h := 64) rfl rfl rfl rfl rfl rfl rfl (by omega) (by omega) (by omega) ⟨_, rfl⟩ ?_ (hT := tk_110)
  have hlo : (((bytes kk).map SV.pv).drop (0 + 0)).take (64 - 0) = (bytes kk).map SV.pv := take_all _ _ (by rw [bcs_len, hkl])
  refine AW.callE (args := [.ptr 1000 0, .pv (.sl 1 (bytes kk))]) (fun _ => 12) (Write_fn h00 kk rfl (by show 0 + kk.length < 2 ^ 60; omega)) (.ptr rfl (.lendO rfl hlo (by rw [bytes_length, hkl]) (all_one_bytes kk) (le_maxLen 64) .nil)) ?_
  have h1 := (HC.zero).wr (b := kk)
  rw [List.nil_append] at h1
  generalize wr h00 kk = h at *
  refine AW.go ?_
  refine AW.loopS (fun j : Nat => ⟨38, [(28, .pv (.int .i64 j)), (26, .pv (.sl 1 (lsP ls))), (27, .pv (.int .i64 ls.length)), (7, .ptr 12 0)], [(12, .cells 135 (hsC ((ls.take j).foldl wr h)))]⟩) (fun j => j ≤ ls.length ∧ HC (kk ++ (ls.take j).flatten) ((ls.take j).foldl wr h)) (fun j => ls.length - j) [28, 26, 27, 7] [12] 0 ⟨by omega, by simpa using h1.1⟩ ?_
  rintro j ⟨hj, hc1⟩ K hK
  refine AW.go ?_
  refine AW.cond rfl (fun hc => ?_) (fun hc => ?_)
  · have hlt : j < ls.length := by have := of_decide_eq_true hc; omega
    obtain ⟨b, hb⟩ : ∃ b, ls[j]? = some b := ⟨ls[j], List.getElem?_eq_getElem hlt⟩
    have g1 := lsP_get hb
    have hft := flat_takeH ls j b hb
    have hfo := fold_take ls j b hb h
    have hfl := flat_le ls (j + 1)
    rw [hft, List.length_append] at hfl
    have hc2 := (hc1.wr (b := b)).1
    have hn1 := hc1.n
    have hp1 := hc1.len
    rw [List.length_append] at hn1
    rw [List.append_assoc, ← hft] at hc2
    rw [← hfo] at hc2
    have e6 : IntKind.i64.wrap ((j : Int) + 1) = ((j + 1 : Nat) : Int) := wrap_i64_succ (by omega)
    have l1 : (j < ls.length) = True := eq_true hlt
    generalize (ls.take j).foldl wr h = h1 at *
    refine AW.go ?_ (by simp only [go_sem, ↓reduceIte, g1] <;> rfl)
    refine AW.callE (fun _ => 12) (Write_fn h1 b hp1 (by omega)) (.ptr rfl (.pv _ .nil)) ?_
    refine AW.go ?_ (by simp only [go_sem, ↓reduceIte, e6] <;> rfl)
    exact AW.again hK (j + 1) (by exact ⟨by omega, hc2⟩) (by omega) (hs := by simp only [go_sem, ↓reduceIte, hfo] <;> rfl)
  have hge : j = ls.length := by have := of_decide_eq_false hc; omega
  subst hge
  rw [List.take_length] at *
  refine AW.go ?_
  refine AW.callE (fun _ => 12) (hSum_fn _ _ hc1 (by rw [List.length_append]; omega)) (.ptr rfl .nil) ?_
  refine AW.freeze (p := .slot 37) (by simp only [go_sem, ↓reduceIte, freeze, freezeO] <;> rfl) ?_
  refine AW.go ?_
  refine AW.finE (.pv _ .nil) rfl

theorem all_fn (key : List Nat) (ls : List (List Nat)) (hkb : ∀ x ∈ key, x < 256) (hkl : key.length < 2 ^ 58) (hl : ls.flatten.length < 2 ^ 58) (hln : ls.length < 2 ^ 40) : Fn Try.prog 69 [] [.pv (.sl 1 (bytes key)), .pv (.sl 1 (lsP ls))] (fun rs H' => rs = [.pv (.sl 1 (bytes (hmac key ls.flatten)))] ∧ H' = []) := by
  refine Fn.of_body (fn := Try.f69) (n := 20) (res := [.tmp 4]) (by kernel_rfl) rfl rfl rfl rfl rfl (fun C => ?_)
  have hkl2 := kpad_len key
  have hkb2 := kpad_lt hkb
  have hko := kof_len key
  have hcp := kof_copyZ key
  have hl2 : ([sha (xorK (kpad key) 54 ++ ls.flatten)] : List (List Nat)).flatten.length < 2 ^ 58 := by simp [sha_len]
  have hmac_eq : hmac key ls.flatten = sha (xorK (kpad key) 92 ++ ([sha (xorK (kpad key) 54 ++ ls.flatten)] : List (List Nat)).flatten) := by simp [hmac]
  rw [hmac_eq]
  refine AW.go ?_
  refine AW.joinS (fun _ : Unit => ⟨20, [(0, .pv (.sl 1 (bytes (kof key)))), (1, .pv (.sl 1 (lsP ls))), (5, .ptr 5 0)], [(5, .cells 110 ((bytes z64).map SV.pv))]⟩) (fun _ => True) [0, 1, 5] [5] ?_ ?_
  · intro K hK
    refine AW.cond rfl (fun hc => ?_) (fun hc => ?_)
    · have hlt : 64 < key.length := by have := of_decide_eq_true hc; omega
      have hko : kof key = sha key := if_pos hlt
      refine AW.go ?_
      refine AW.callE (fun _ => 0) (shaSum_fn key (by omega)) (.pv _ .nil) ?_
      refine AW.freeze (p := .slot 10) (by simp only [go_sem, ↓reduceIte, freeze, freezeO] <;> rfl) ?_
      refine AW.go ?_
      exact AW.meet hK () trivial (by simp only [go_sem, ↓reduceIte]) (by simp only [go_sem, ↓reduceIte, hko] <;> rfl)
    · have hlt : ¬ 64 < key.length := by have := of_decide_eq_false hc; omega
      have hko : kof key = key := if_neg hlt
      refine AW.go ?_
      exact AW.meet hK () trivial (by simp only [go_sem, ↓reduceIte]) (by simp only [go_sem, ↓reduceIte, hko] <;> rfl)
  rintro _ -
  generalize kof key = k at *
  refine AW.go ?_
  refine AW.sliceO (off := 0) (l := 0) (h := 64) rfl rfl rfl rfl rfl rfl rfl (by omega) (by omega) (by omega) ⟨_, rfl⟩ ?_ (hT := tk_110)
  refine AW.go ?_
  refine AW.copyO (ez := 0) (off := 0 + 0) (n := 64 - 0) (kk := k.length) (xs := bytes k) rfl rfl ?_ rfl rfl (all_one_bytes k) ?_ ?_ (hT := tk_23)
  · rw [bcs_len, z64_len]; decide
  · rw [bytes_length]; omega
  rw [bytes_take, List.take_length, setCells_b _ _ (by rw [z64_len]; omega), hcp]
  have hlen : ((bytes (kpad key)).map SV.pv).length = 64 := by rw [bcs_len, hkl2]
  have hall : allPV (List.take 64 ((bytes (kpad key)).map SV.pv)) = some (bytes (kpad key)) := by rw [List.take_of_length_le (by omega), allPV_map]
  refine AW.go ?_
  refine AW.calmS ?_
  refine CK.reads [[], [], []] ?_ (by simp only [go_sem, ↓reduceIte, hlen, hall] <;> rfl)
  refine CK.call (ps := [_, _, _]) [15, 16] (summed_fn (kpad key) 54 ls hkl2 hkb2 (by decide) hl hln) ?_
  refine CK.listZ [17] ?_
  refine CK.call (ps := [_, _, _]) [14, 18] (summed_fn (kpad key) 92 [sha (xorK (kpad key) 54 ++ ls.flatten)] hkl2 hkb2 (by decide) hl2 (by simp)) ?_
  refine CK.done (M := 6) 1 mixed ?_
  refine AW.seqs (fuel := 0) (listed' := Array.replicate 7 true) [6] ?_ (by decide +kernel)
  -- 6: t4 := = t19
  refine AW.gg ?_
  refine AW.anyDone (by decide +kernel) ?_
  refine AW.go ?_
  refine AW.finE (.pv _ .nil) rfl

theorem mac_fn (key m : List Nat) (hkb : ∀ x ∈ key, x < 256) (hkl : key.length < 2 ^ 58) (hl : m.length < 2 ^ 58) : Fn Try.prog 49 [] [.pv (.sl 1 (bytes key)), .pv (.sl 1 (bytes m))] (fun rs H' => rs = [.pv (.sl 1 (bytes (hmac key m)))] ∧ H' = []) := by
  refine Fn.of_body (fn := Try.f49) (n := 9) (res := [.tmp 4]) (by kernel_rfl) rfl rfl rfl rfl rfl (fun C => ?_)
  have e : hmac key m = hmac key [m].flatten := by simp
  rw [e]
  refine AW.go ?_
  refine AW.freeze (p := .slot 7) (by simp only [go_sem, ↓reduceIte, freeze, freezeO] <;> rfl) ?_
  refine AW.callE (args := [.pv (.sl 1 (bytes key)), .pv (.sl 1 (lsP [m]))]) (fun _ => 0) (all_fn key [m] hkb hkl (by simpa using hl) (by simp)) (.pv _ (.pv _ .nil)) ?_
  refine AW.go ?_
  refine AW.finE (.pv _ .nil) rfl
end Go.Ck

set_option linter.unusedVariables false
set_option maxRecDepth 10000
namespace Go.Ck
open Go.Proofs
theorem clone_bytes (l : List Nat) (hl : l.length ≤ room) : Fn Try.prog 57 [] [.pv (.sl 1 (bytes l))] (fun rs H' => rs = [.own 5 (bytes l)] ∧ H' = []) := by
  refine Fn.of_body (fn := Try.f57) (n := 8) (res := [.tmp 2]) (by kernel_rfl) rfl rfl rfl rfl rfl (fun C => ?_)
  refine AW.go ?_
  refine AW.eqNil (.inl rfl) rfl rfl rfl tk_23 (by simp only [go_sem, ↓reduceIte] <;> rfl) rfl rfl rfl (fun b hb => ?_)
  refine AW.go ?_
  refine AW.cond (b := b) (by simp only [go_sem, ↓reduceIte] <;> rfl) (fun h1 => ?_) (fun h1 => ?_)
  · have hx : l = [] := by simpa [bytes] using hb h1
    subst hx
    refine AW.go ?_
    refine AW.finE (.move rfl .nil) rfl
  · refine AW.go ?_ (by simp only [go_sem, ↓reduceIte, hl] <;> rfl)
    refine AW.finE (.move rfl .nil) rfl

theorem with_fn (xs ys : List Nat) (hl : xs.length + ys.length ≤ room) : Fn Try.prog 58 [] [.own 5 (bytes xs), .pv (.sl 1 (bytes ys))] (fun rs H' => rs = [.own 5 (bytes (xs ++ ys))] ∧ H' = []) := by
  refine Fn.of_body (fn := Try.f58) (n := 8) (res := [.tmp 4]) (by kernel_rfl) rfl rfl rfl rfl rfl (fun C => ?_)
  refine AW.go ?_ (by simp only [go_sem, ↓reduceIte, hl] <;> rfl)
  refine AW.finE (.move rfl .nil) rfl
end Go.Ck

set_option linter.unusedVariables false
namespace Go.Ck
def leb (v : Nat) : List Nat := if v < 128 then [v] else (v % 128 + 128) :: leb (v / 128)
termination_by v
decreasing_by omega
theorem leb_lt {v : Nat} (h : v < 128) : leb v = [v] := by rw [leb, if_pos h]
theorem leb_ge {v : Nat} (h : ¬ v < 128) : leb v = (v % 128 + 128) :: leb (v / 128) := by rw [leb, if_neg h]
theorem leb_pos (v : Nat) : 0 < (leb v).length := by
  by_cases h : v < 128
  · rw [leb_lt h]; simp
  · rw [leb_ge h]; simp
theorem leb_len (n : Nat) : ∀ v, v < 128 ^ (n + 1) → (leb v).length ≤ n + 1 := by
  induction n with
  | zero => intro v h; rw [leb_lt (by omega)]; simp
  | succ n ih =>
    intro v h
    by_cases h1 : v < 128
    · rw [leb_lt h1]; simp
    · rw [leb_ge h1, List.length_cons]
      have := ih (v / 128) (by rw [Nat.div_lt_iff_lt_mul (by omega)]; rw [Nat.pow_succ] at h; omega)
      omega
theorem leb_len10 {v : Nat} (h : v < 2 ^ 64) : (leb v).length ≤ 10 := leb_len 9 v (by omega)
theorem leb_byte (v : Nat) : ∀ x ∈ leb v, x < 256 := by
  induction v using Nat.strongRecOn with
  | _ v ih =>
    by_cases h : v < 128
    · rw [leb_lt h]; simp; omega
    · rw [leb_ge h]
      intro x hx
      rcases List.mem_cons.1 hx with rfl | hx
      · omega
      · exact ih (v / 128) (by omega) x hx
theorem or128 {x : Nat} (h : x < 256) : x ||| 128 = x % 128 + 128 := by
  have : ∀ x : Fin 256, x.val ||| 128 = x.val % 128 + 128 := by decide +kernel
  exact this ⟨x, h⟩
end Go.Ck
namespace Go.Ck
/-- A number out of bytes; how many bytes it took; why there is none. -/
def rdv : Nat → Nat → List Nat → Nat × Nat × Int
  | _, _, [] => (0, 0, 2)
  | k, acc, x :: r => if k = 9 ∧ 1 < x then (0, 0, 3) else if 128 ≤ x then rdv (k + 1) (acc + x % 128 * 128 ^ k) r else if x = 0 ∧ 0 < k then (0, 0, 3) else (acc + x * 128 ^ k, k + 1, 0)
def readV (b : List Nat) : Nat × Nat × Int := rdv 0 0 (b.take 10)

theorem rdv_bound : ∀ (l : List Nat) (k acc : Nat), (rdv k acc l).2.1 ≤ k + l.length ∧ ((rdv k acc l).2.2 ≠ 0 → (rdv k acc l).1 = 0 ∧ (rdv k acc l).2.1 = 0) ∧ (rdv k acc l).2.1 ≤ k + l.length
  | [], k, acc => by simp [rdv]
  | x :: r, k, acc => by
    simp only [rdv]
    split
    · simp
    · split
      · have := rdv_bound r (k + 1) (acc + x % 128 * 128 ^ k)
        simp only [List.length_cons]
        refine ⟨by omega, this.2.1, by omega⟩
      · split
        · simp
        · simp
theorem readV_le (b : List Nat) : (readV b).2.1 ≤ b.length := by
  have := (rdv_bound (b.take 10) 0 0).1
  simp at this
  unfold readV
  omega
theorem rdv_lt : ∀ (l : List Nat) (k acc : Nat), k + l.length ≤ 10 → (∀ x ∈ l, x < 256) → acc < 128 ^ k → (rdv k acc l).1 < 2 ^ 64
  | [], k, acc, _, _, _ => by simp [rdv]
  | x :: r, k, acc, hk, hx, ha => by
    have hx0 := hx x (by simp)
    simp only [List.length_cons] at hk
    have hp : 128 ^ (k + 1) = 128 ^ k * 128 := Nat.pow_succ ..
    simp only [rdv]
    split
    · simp
    · rename_i h9
      split
      · refine rdv_lt r (k + 1) _ (by omega) (fun y hy => hx y (by simp [hy])) ?_
        rw [hp]
        have h1 : x % 128 * 128 ^ k ≤ 127 * 128 ^ k := Nat.mul_le_mul_right _ (by omega)
        omega
      · split
        · simp
        · simp only
          by_cases hk9 : k = 9
          · subst hk9
            have : x ≤ 1 := by omega
            have h1 : x * 128 ^ 9 ≤ 1 * 128 ^ 9 := Nat.mul_le_mul_right _ this
            omega
          · have h2 : 128 ^ k ≤ 128 ^ 8 := Nat.pow_le_pow_right (by omega) (by omega)
            have h1 : x * 128 ^ k ≤ 127 * 128 ^ k := Nat.mul_le_mul_right _ (by omega)
            omega
theorem readV_lt {b : List Nat} (hb : ∀ x ∈ b, x < 256) : (readV b).1 < 2 ^ 64 := rdv_lt _ 0 0 (by simp; omega) (fun x hx => hb x (List.mem_of_mem_take hx)) (by simp)
theorem andNot128 {x : Nat} (h : x < 256) : ibits .andNot .u8 (x : Int) 128 = ((x % 128 : Nat) : Int) := by
  have : ∀ x : Fin 256, ibits .andNot .u8 ((x.val : Nat) : Int) 128 = ((x.val % 128 : Nat) : Int) := by decide +kernel
  exact this ⟨x, h⟩
theorem or_shift {a x k : Nat} (ha : a < 128 ^ k) (hx : x * 128 ^ k < 2 ^ 64) (ha2 : a < 2 ^ 64) (hk : 7 * k ≤ 64) : ibits .or .u64 (a : Int) (shlI .u64 (x : Int) ((7 * k : Nat) : Int)) = ((a + x * 128 ^ k : Nat) : Int) := by
  have hp : (2 : Nat) ^ (7 * k) = 128 ^ k := by rw [Nat.pow_mul]
  rw [shlI_nat64 _ _ hk, hp, Nat.mod_eq_of_lt hx, ibits_or64 ha2 hx]
  congr 1
  have := Nat.two_pow_add_eq_or_of_lt (i := 7 * k) (b := a) (by rw [hp]; exact ha) x
  rw [hp] at this
  rw [Nat.or_comm, Nat.mul_comm x, ← this, Nat.add_comm]
end Go.Ck

set_option linter.unusedVariables false
set_option maxRecDepth 10000
namespace Go.Ck
open Go.Proofs
theorem append_fn (b : List Nat) (v : Nat) (hv : v < 2 ^ 64) (hl : b.length + 10 ≤ room) : Fn Try.prog 24 [] [.pv (.sl 1 (bytes b)), .pv (.int .u64 v)] (fun rs H' => rs = [.own 5 (bytes (b ++ leb v))] ∧ H' = []) := by
  refine Fn.of_body (fn := Try.f24) (n := 23) (res := [.tmp 4]) (by kernel_rfl) rfl rfl rfl rfl rfl (fun C => ?_)
  refine AW.go ?_
  refine AW.callE (fun _ => 0) (clone_bytes b (by omega)) (.pv _ .nil) ?_
  refine AW.go ?_
  have hlen := leb_len10 hv
  refine AW.loopS (fun a : List Nat × Nat => ⟨23, [(5, .own 5 (bytes a.1)), (1, .pv (.int .u64 a.2))], []⟩) (fun a => a.1 ++ leb a.2 = b ++ leb v ∧ a.2 < 2 ^ 64) (fun a => a.2) [5, 1] [] (b, v) ⟨rfl, hv⟩ ?_
  rintro ⟨o, u⟩ ⟨ho, hu⟩ K hK
  simp only at ho hu
  have hol : o.length + (leb u).length = b.length + (leb v).length := by rw [← List.length_append, ho, List.length_append]
  have hup := leb_pos u
  refine AW.go ?_
  refine AW.cond rfl (fun hb => ?_) (fun hb => ?_)
  · have hge : ¬ u < 128 := by simp at hb; omega
    refine AW.go ?_
    have e1 : ibits .or .u8 (IntKind.u8.wrap (u : Int)) 128 = ((u % 128 + 128 : Nat) : Int) := by
      rw [wrap_u8]
      have := ibits_or8 (a := u % 256) (b := 128) (by omega) (by omega)
      rw [or128 (by omega)] at this
      refine this.trans ?_
      congr 2; omega
    rw [e1]
    refine AW.callE (fun _ => 0) (with_fn o [u % 128 + 128] (by simp; omega)) (.move rfl (.lend rfl co_5 .nil)) ?_
    refine AW.go ?_
    have e2 : shrI .u64 (u : Int) 7 = ((u / 128 : Nat) : Int) := shrI_nat .u64 u 7 (by decide)
    refine AW.again hK (o ++ [u % 128 + 128], u / 128) ⟨?_, by simp only; omega⟩ (by simp only; omega) (by simp only [go_sem, ↓reduceIte]) (by simp only [go_sem, ↓reduceIte, e2])
    simp only [List.append_assoc, List.singleton_append]
    rw [← leb_ge hge, ho]
  · have hlt : u < 128 := by simp at hb; omega
    refine AW.go ?_
    have e1 : IntKind.u8.wrap (u : Int) = ((u : Nat) : Int) := wrap_u8_lt (by omega)
    rw [e1]
    refine AW.callE (fun _ => 0) (with_fn o [u] (by simp; omega)) (.move rfl (.lend rfl co_5 .nil)) ?_
    refine AW.go ?_
    refine AW.finE (.move rfl .nil) ?_
    rw [← ho, leb_lt hlt]
end Go.Ck

set_option linter.unusedVariables false
set_option maxRecDepth 10000
namespace Go.Ck
open Go.Proofs
abbrev curO (l : List Nat) : List (Nat × HO) := [(1000, .cells 87 [.pv (.sl 1 (bytes l))])]

attribute [go_sem] curO
theorem curNew_fn (l : List Nat) (hl : l.length ≤ room) : Fn Try.prog 33 [] [.pv (.sl 1 (bytes l))] (fun rs H' => rs = [.ptr 7 0] ∧ H' = [(7, .cells 87 [.pv (.sl 1 (bytes l))])]) := by
  refine Fn.of_body (fn := Try.f33) (n := 8) (res := [.tmp 2]) (by kernel_rfl) rfl rfl rfl rfl rfl (fun C => ?_)
  refine AW.go ?_
  refine AW.callE (fun _ => 0) (clone_bytes l hl) (.pv _ .nil) ?_
  refine AW.go ?_
  refine AW.finE (.ptr rfl .nil) rfl

theorem left_fn (l : List Nat) : Fn Try.prog 64 (curO l) [.ptr 1000 0] (fun rs H' => rs = [.pv (.int .i64 l.length)] ∧ H' = curO l) := by
  refine Fn.of_body (fn := Try.f64) (n := 8) (res := [.tmp 2]) (by kernel_rfl) rfl rfl rfl rfl rfl (fun C => ?_)
  refine AW.go ?_
  refine AW.finE (.pv _ .nil) rfl

theorem take_fn (l : List Nat) (n : Nat) (hn : n ≤ l.length) (hl : l.length ≤ room) : Fn Try.prog 78 (curO l) [.ptr 1000 0, .pv (.int .i64 n)] (fun rs H' => rs = [.own 5 (bytes (l.take n))] ∧ H' = curO (l.drop n)) := by
  refine Fn.of_body (fn := Try.f78) (n := 23) (res := [.tmp 4]) (by kernel_rfl) rfl rfl rfl rfl rfl (fun C => ?_)
  refine AW.go ?_ (by simp only [go_sem, ↓reduceIte, hn] <;> rfl)
  refine AW.callE (fun _ => 0) (clone_bytes (l.take n) (by simp; omega)) (.pv _ .nil) ?_
  have e : (((l.length : Int) - (n : Int)).toNat) = l.length - n := by omega
  have e2 : (bytes (l.drop n)).take (l.length - n) = bytes (l.drop n) := List.take_of_length_le (by simp [bytes])
  refine AW.go ?_ (by simp only [go_sem, ↓reduceIte, hn, e]; rw [← bytes_take, e2] <;> rfl)
  refine AW.finE (.move rfl .nil) rfl
end Go.Ck

set_option linter.unusedVariables false
set_option maxRecDepth 10000
namespace Go.Ck
open Go.Proofs
theorem curEnd_fn (l : List Nat) : Fn Try.prog 41 (curO l) [.ptr 1000 0] (fun rs H' => rs = [.pv (.int .i64 (if l = [] then 0 else 3))] ∧ H' = curO l) := by
  refine Fn.of_body (fn := Try.f41) (n := 12) (res := [.tmp 2]) (by kernel_rfl) rfl rfl rfl rfl rfl (fun C => ?_)
  refine AW.go ?_
  refine AW.condF rfl ?_
  refine AW.go ?_
  refine AW.callE id (left_fn l) (.ptr rfl .nil) ?_
  refine AW.go ?_
  refine AW.cond rfl (fun hb => ?_) (fun hb => ?_)
  · refine AW.go ?_
    refine AW.finE (.pv _ .nil) ?_
    rw [if_neg (by rintro rfl; simp at hb)]
  · refine AW.go ?_
    refine AW.finE (.pv _ .nil) ?_
    rw [if_pos (by simpa using hb)]

theorem curBytes_fn (l : List Nat) (n : Nat) (hl : l.length ≤ room) : Fn Try.prog 60 (curO l) [.ptr 1000 0, .pv (.int .i64 n)]
    (fun rs H' => rs = [.own 5 (bytes (if n ≤ l.length then l.take n else [])), .pv (.int .i64 (if n ≤ l.length then 0 else 2))] ∧ H' = curO (if n ≤ l.length then l.drop n else l)) := by
  refine Fn.of_body (fn := Try.f60) (n := 25) (res := [.tmp 4, .tmp 5]) (by kernel_rfl) rfl rfl rfl rfl rfl (fun C => ?_)
  refine AW.gg ?_
  refine AW.condF rfl ?_
  refine AW.go ?_
  refine AW.callE id (left_fn l) (.ptr rfl .nil) ?_
  refine AW.go ?_
  refine AW.cond rfl (fun hb => ?_) (fun hb => ?_)
  · have hn : ¬ n ≤ l.length := by simp at hb; omega
    simp only [if_neg hn]
    refine AW.go ?_
    refine AW.finE (.move rfl (.pv _ .nil)) rfl
  · have hn : n ≤ l.length := by simp at hb; omega
    simp only [if_pos hn]
    refine AW.go ?_
    refine AW.callE id (take_fn l n hn hl) (.ptr rfl (.pv _ .nil)) ?_
    refine AW.go ?_
    refine AW.finE (.move rfl (.pv _ .nil)) rfl
end Go.Ck
