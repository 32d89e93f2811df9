/- What is proved here: parts of the proofs of this seat's statements (a verified evaluator for calls over pure values, its laws, and contracts of functions). No condition. -/
import Derived.Test.YthjibccogjggbaaKo
import Derived.Test.YthjibccogjggbaaKs
import Derived.Shelf.Sort.Plain
import Derived.Test.YthjibccogjggbaaKn
import Derived.Test.YthjibccogjggbaaKu
import Derived.Test.YthjibccogjggbaaKt
import Derived.Test.YthjibccogjggbaaKd
import Derived.Test.YthjibccogjggbaaKj
import Derived.Lib.SlBytesConst
set_option linter.all false
set_option linter.unusedVariables false
set_option maxRecDepth 10000
namespace Go.Ck
open Go.Proofs
/-- What Len64's string tells. -/
theorem len64_fn (v : Nat) (hv : v < 2 ^ 64) : Fn Try.prog 98 [] [.pv (.int .u64 v)] (fun rs H' => rs = [.pv (.int .i64 (blen v : Nat))] ∧ H' = []) := by
  refine Fn.of_body (fn := Try.f98) (n := 25) (res := [.tmp 2]) (by kernel_rfl) rfl rfl rfl rfl rfl (fun C => ?_)
  have s32 : ∀ v : Nat, shrI .u64 (v : Int) 32 = ((v / 2 ^ 32 : Nat) : Int) := fun v => shrI_nat .u64 v 32 (by decide)
  have s16 : ∀ v : Nat, shrI .u64 (v : Int) 16 = ((v / 2 ^ 16 : Nat) : Int) := fun v => shrI_nat .u64 v 16 (by decide)
  have s8 : ∀ v : Nat, shrI .u64 (v : Int) 8 = ((v / 2 ^ 8 : Nat) : Int) := fun v => shrI_nat .u64 v 8 (by decide)
  refine AW.go ?_
  refine AW.joinS (fun a : Nat × Nat => ⟨25, [(0, .pv (.int .u64 a.1)), (2, .pv (.int .i64 a.2))], []⟩) (fun a => a.1 < 2 ^ 32 ∧ blen v = a.2 + blen a.1 ∧ a.2 ≤ 32) [0, 2] [] ?_ ?_
  · intro K hK
    refine AW.cond rfl (fun hc => ?_) (fun hc => ?_)
    · refine AW.go ?_
      refine AW.meet hK (v / 2 ^ 32, 32) ⟨by simp only; omega, ?_, by simp⟩ (by simp only [go_sem, ↓reduceIte]) (by simp only [go_sem, ↓reduceIte, s32] <;> rfl)
      exact blen_shift 32 (by simp at hc; omega)
    · refine AW.go ?_
      refine AW.meet hK (v, 0) ⟨by simp at hc; simp only; omega, by simp, by simp⟩
  rintro ⟨u, m⟩ ⟨hu, hm, hm2⟩
  simp only at hu hm hm2
  refine AW.go ?_
  refine AW.joinS (fun a : Nat × Nat => ⟨25, [(0, .pv (.int .u64 a.1)), (2, .pv (.int .i64 a.2))], []⟩) (fun a => a.1 < 2 ^ 16 ∧ blen v = a.2 + blen a.1 ∧ a.2 ≤ 48) [0, 2] [] ?_ ?_
  · intro K hK
    refine AW.cond rfl (fun hc => ?_) (fun hc => ?_)
    · have e : IntKind.i64.wrap ((m : Int) + 16) = ((m + 16 : Nat) : Int) := by rw [wrap_i64_of (by omega) (by omega)]; omega
      refine AW.go ?_
      refine AW.meet hK (u / 2 ^ 16, m + 16) ⟨by simp only; omega, ?_, by simp only; omega⟩ (by simp only [go_sem, ↓reduceIte]) (by simp only [go_sem, ↓reduceIte, s16, e] <;> rfl)
      have := blen_shift 16 (v := u) (by simp at hc; omega)
      simp only; omega
    · refine AW.go ?_
      refine AW.meet hK (u, m) ⟨by simp at hc; simp only; omega, hm, by simp only; omega⟩
  clear hu hm hm2
  rintro ⟨u, m⟩ ⟨hu, hm, hm2⟩
  simp only at hu hm hm2
  refine AW.go ?_
  refine AW.joinS (fun a : Nat × Nat => ⟨25, [(0, .pv (.int .u64 a.1)), (2, .pv (.int .i64 a.2))], []⟩) (fun a => a.1 < 2 ^ 8 ∧ blen v = a.2 + blen a.1 ∧ a.2 ≤ 56) [0, 2] [] ?_ ?_
  · intro K hK
    refine AW.cond rfl (fun hc => ?_) (fun hc => ?_)
    · have e : IntKind.i64.wrap ((m : Int) + 8) = ((m + 8 : Nat) : Int) := by rw [wrap_i64_of (by omega) (by omega)]; omega
      refine AW.go ?_
      refine AW.meet hK (u / 2 ^ 8, m + 8) ⟨by simp only; omega, ?_, by simp only; omega⟩ (by simp only [go_sem, ↓reduceIte]) (by simp only [go_sem, ↓reduceIte, s8, e] <;> rfl)
      have := blen_shift 8 (v := u) (by simp at hc; omega)
      simp only; omega
    · refine AW.go ?_
      refine AW.meet hK (u, m) ⟨by simp at hc; simp only; omega, hm, by simp only; omega⟩
  clear hu hm hm2
  rintro ⟨u, m⟩ ⟨hu, hm, hm2⟩
  simp only at hu hm hm2
  have e8 : IntKind.u8.wrap (u : Int) = (u : Int) := wrap_u8_lt hu
  refine AW.go ?_ (by simp only [go_sem, ↓reduceIte, e8] <;> rfl)
  refine AW.indexStr (UInt8.ofNat (bl8 u)) (ho := rfl) rfl rfl ?_ ?_
  · clear e8 hm
    revert u
    decide +kernel
  · have h8 := bl8_le u
    have ec : ((UInt8.ofNat (bl8 u)).toNat : Int) = (blen u : Nat) := by
      rw [UInt8.toNat_ofNat', Nat.mod_eq_of_lt (by omega), blen_bl8 hu]
    have hb8 := blen_le.2 hu
    have e1 : IntKind.i64.wrap ((blen u : Nat) : Int) = (blen u : Nat) := wrap_i64_nat (by omega)
    have e2 : IntKind.i64.wrap ((m : Int) + (blen u : Nat)) = ((blen v : Nat) : Int) := by rw [hm]; exact wrap_i64_nat (n := m + blen u) (by omega)
    refine AW.go ?_ (by simp only [go_sem, ↓reduceIte, ec, e1, e2] <;> rfl)
    refine AW.finE (.pv _ .nil) rfl
end Go.Ck

namespace Go.Proofs
open Go.Shelf
def Try.lays190_ren : Go.Shelf.Ren := ⟨fun | 190 => 56 | 125 => 77 | 258 => 76 | 128 => 97 | 129 => 98 | 302 => 88 | 303 => 89 | 304 => 90 | 305 => 91 | 306 => 92 | 307 => 93 | 308 => 94 | 309 => 95 | 310 => 96 | 333 => 104 | 329 => 105 | 330 => 106 | 334 => 107 | 335 => 108 | 336 => 109 | 344 => 114 | n => n, fun | 31 => 46 | 9 => 9 | 3 => 3 | 46 => 82 | 0 => 0 | 51 => 116 | 53 => 22 | 4 => 4 | 183 => 120 | 182 => 119 | 131 => 80 | 5 => 5 | 218 => 140 | 222 => 143 | 228 => 148 | 229 => 149 | n => n, fun | n => n⟩
theorem Try.lays190 : Go.Proofs.Lays.n190 Try.prog Try.lays190_ren := {
  mixed := by kernel_rfl
  f125 := Try.func77.trans (congrArg some (by kernel_rfl))
  f128 := Try.func97.trans (congrArg some (by kernel_rfl))
  f129 := Try.func98.trans (congrArg some (by kernel_rfl))
  f190 := Try.func56.trans (congrArg some (by kernel_rfl))
  f258 := Try.func76.trans (congrArg some (by kernel_rfl))
  f302 := Try.func88.trans (congrArg some (by kernel_rfl))
  f303 := Try.func89.trans (congrArg some (by kernel_rfl))
  f304 := Try.func90.trans (congrArg some (by kernel_rfl))
  f305 := Try.func91.trans (congrArg some (by kernel_rfl))
  f306 := Try.func92.trans (congrArg some (by kernel_rfl))
  f307 := Try.func93.trans (congrArg some (by kernel_rfl))
  f308 := Try.func94.trans (congrArg some (by kernel_rfl))
  f309 := Try.func95.trans (congrArg some (by kernel_rfl))
  f310 := Try.func96.trans (congrArg some (by kernel_rfl))
  f329 := Try.func105.trans (congrArg some (by kernel_rfl))
  f330 := Try.func106.trans (congrArg some (by kernel_rfl))
  f333 := Try.func104.trans (congrArg some (by kernel_rfl))
  f334 := Try.func107.trans (congrArg some (by kernel_rfl))
  f335 := Try.func108.trans (congrArg some (by kernel_rfl))
  f336 := Try.func109.trans (congrArg some (by kernel_rfl))
  f344 := Try.func114.trans (congrArg some (by kernel_rfl))
  t0 := Try.underlying0
  a0 := Try.isAgg0
  z0 := Try.sizeOf0
  v0 := Try.zeroValue0
  t3 := Try.underlying3
  a3 := Try.isAgg3
  z3 := Try.sizeOf3
  v3 := Try.zeroValue3
  t4 := Try.underlying4
  a4 := Try.isAgg4
  z4 := Try.sizeOf4
  v4 := Try.zeroValue4
  t5 := Try.underlying5
  a5 := Try.isAgg5
  z5 := Try.sizeOf5
  v5 := Try.zeroValue5
  t9 := Try.underlying9
  a9 := Try.isAgg9
  z9 := Try.sizeOf9
  v9 := Try.zeroValue9
  t31 := Try.underlying46
  a31 := Try.isAgg46
  z31 := Try.sizeOf46
  v31 := Try.zeroValue46
  t46 := Try.underlying82
  a46 := Try.isAgg82
  z46 := Try.sizeOf82
  v46 := Try.zeroValue82
  t51 := Try.underlying116
  a51 := Try.isAgg116
  z51 := Try.sizeOf116
  v51 := Try.zeroValue116
  t53 := Try.underlying22
  a53 := Try.isAgg22
  z53 := Try.sizeOf22
  v53 := Try.zeroValue22
  t131 := Try.underlying80
  a131 := Try.isAgg80
  z131 := Try.sizeOf80
  v131 := Try.zeroValue80
  t182 := Try.underlying119
  a182 := Try.isAgg119
  z182 := Try.sizeOf119
  v182 := Try.zeroValue119
  t183 := Try.underlying120
  a183 := Try.isAgg120
  z183 := Try.sizeOf120
  v183 := Try.zeroValue120
  t218 := Try.underlying140
  a218 := Try.isAgg140
  z218 := Try.sizeOf140
  v218 := Try.zeroValue140
  t222 := Try.underlying143
  a222 := Try.isAgg143
  z222 := Try.sizeOf143
  v222 := Try.zeroValue143
  t228 := Try.underlying148
  a228 := Try.isAgg148
  z228 := Try.sizeOf148
  v228 := Try.zeroValue148
  t229 := Try.underlying149
  a229 := Try.isAgg149
  z229 := Try.sizeOf149
  v229 := Try.zeroValue149 }
end Go.Proofs
namespace Go.Ck
open Go.Proofs
theorem sort_ok : SortOK Try.prog 56 := fun blk off cap ss w h1 h2 h3 => Any.slices_Sort_string Try.lays190 blk off cap ss w h1 h2 h3
theorem sort_is : ∃ fn, (Try.prog).funcs[56]? = some fn ∧ (fn.name == "runtime.NumGoroutine") = false ∧ fn.body.isNone = false := ⟨Try.f56, by kernel_rfl, rfl, rfl⟩
end Go.Ck

set_option linter.unusedVariables false
set_option maxRecDepth 100000
set_option maxHeartbeats 400000
namespace Go.Ck
open Go.Proofs
theorem len_fn (v : Nat) (hv : v < 2 ^ 64) : Fn Try.prog 77 [] [.pv (.int .u64 v)] (fun rs H' => rs = [.pv (.int .i64 (blen v : Nat))] ∧ H' = []) := by
  refine Fn.of_body (fn := Try.f77) (n := 8) (res := [.tmp 2]) (by kernel_rfl) rfl rfl rfl rfl rfl (fun C => ?_)
  refine AW.go ?_
  refine AW.condF rfl ?_
  refine AW.go ?_
  refine AW.callE (fun _ => 0) (len64_fn v hv) (.pv _ .nil) ?_
  refine AW.go ?_
  refine AW.finE (.pv _ .nil) rfl
theorem isort0_fn : Fn Try.prog 88 [] [.pv (.sl 1 []), .pv (.int .i64 0), .pv (.int .i64 0)] (fun rs H' => rs = [] ∧ H' = []) := by
  refine Fn.of_body (fn := Try.f88) (n := 49) (res := []) (by kernel_rfl) rfl rfl rfl rfl rfl (fun C => ?_)
  have e1 : IntKind.i64.wrap (0 + 1) = 1 := by decide
  refine AW.go ?_
  refine AW.loopS (fun _ : Unit => ⟨49, [(6, .pv (.int .i64 1)), (2, .pv (.int .i64 0))], []⟩) (fun _ => True) (fun _ => 0) [6, 2] [] () trivial ?_
  rintro _ - K hK
  refine AW.go ?_
  refine AW.condF rfl ?_
  refine AW.go ?_
  refine AW.finE .nil rfl
theorem pdq0_fn (k : Int) : Fn Try.prog 76 [] [.pv (.sl 1 []), .pv (.int .i64 0), .pv (.int .i64 0), .pv (.int .i64 k)] (fun rs H' => rs = [] ∧ H' = []) := by
  refine Fn.of_body (fn := Try.f76) (n := 134) (res := []) (by kernel_rfl) rfl rfl rfl rfl rfl (fun C => ?_)
  refine AW.go ?_
  refine AW.loopS (fun _ : Unit => ⟨134, [(0, .pv (.sl 1 [])), (1, .pv (.int .i64 0)), (2, .pv (.int .i64 0))], []⟩) (fun _ => True) (fun _ => 0) [0, 1, 2] [] () trivial ?_
  rintro _ - K hK
  refine AW.go ?_
  refine AW.condT rfl ?_
  refine AW.go ?_
  refine AW.callE (fun _ => 0) isort0_fn (.pv _ (.pv _ (.pv _ .nil))) ?_
  refine AW.go ?_
  refine AW.finE .nil rfl
theorem sort0_fn : Fn Try.prog 56 [] [.pv (.sl 1 [])] (fun rs H' => rs = [] ∧ H' = []) := by
  refine Fn.of_body (fn := Try.f56) (n := 11) (res := []) (by kernel_rfl) rfl rfl rfl rfl rfl (fun C => ?_)
  have e1 : IntKind.u64.wrap 0 = 0 := by decide
  refine AW.go ?_ (by simp only [go_sem, ↓reduceIte, e1] <;> rfl)
  refine AW.callE (fun _ => 0) (len_fn 0 (by decide)) (.pv _ .nil) ?_
  refine AW.go ?_
  refine AW.callE (fun _ => 0) (pdq0_fn _) (.pv _ (.pv _ (.pv _ (.pv _ .nil)))) ?_
  refine AW.go ?_
  refine AW.finE .nil rfl

theorem directory_fn (es : List Ent) (hl : es.length < 2 ^ 30) : Fn Try.prog 22 [] [.pv (.sl 2 (entsP es))] (fun rs H' => rs = [.own 9 (strs (dirS es)), .mp 12] ∧ H' = [(12, .mp (mpS (posK (dirS es) (dirS es).length) (nmS es)))]) := by
  refine Fn.of_body (fn := Try.f22) (n := 52) (res := [.tmp 2, .tmp 3]) (by kernel_rfl) rfl rfl rfl rfl rfl (fun C => ?_)
  have hroom : room = 140737488355328 := rfl
  refine AW.go ?_
  refine AW.unread ?_
  refine AW.go ?_
  refine AW.loopS (fun i : Nat => ⟨52, [(15, .pv (.int .i64 i)), (13, .pv (.sl 2 (entsP es))), (14, .pv (.int .i64 es.length)), (4, .mp 12), (5, .own 9 (strs (nmS (es.take i))))], [(12, .mp (mpS (fun _ => 0) (nmS (es.take i))))]⟩) (fun i => i ≤ es.length) (fun i => es.length - i) [15, 13, 14, 4, 5] [12] 0 (Nat.zero_le _) ?_
  rintro i hi K hK
  have hnl := nmS_len (es.take i)
  rw [List.length_take] at hnl
  refine AW.go ?_
  refine AW.cond rfl (fun hc => ?_) (fun hc => ?_)
  · have hlt : i < es.length := by have := of_decide_eq_true hc; omega
    obtain ⟨e, he⟩ : ∃ e, es[i]? = some e := ⟨es[i], List.getElem?_eq_getElem hlt⟩
    have hg := entsP_get he
    have hsu := nmS_succ he
    have e1 : IntKind.i64.wrap ((i : Int) + 1) = ((i + 1 : Nat) : Int) := wrap_i64_succ (by omega)
    have hml := mlook_mpS (fun _ => 0) e.1 (nmS (es.take i))
    generalize nmS (es.take i) = ns at *
    refine AW.go ?_ (by simp only [go_sem, ↓reduceIte, hg] <;> rfl)
    refine AW.lookup2 rfl rfl rfl hml tk_47 (by simp only [go_sem] <;> rfl) ze_3 ?_
    by_cases h : e.1 ∈ ns
    · simp only [if_pos h]
      rw [nmStep, if_pos h] at hsu
      refine AW.go ?_ (by simp only [go_sem, ↓reduceIte, mval] <;> rfl)
      refine AW.condF rfl ?_
      refine AW.go ?_ (by simp only [go_sem, ↓reduceIte, e1] <;> rfl)
      exact AW.again hK (i + 1) (by omega) (by omega) (hs := by simp only [go_sem, ↓reduceIte, hsu] <;> rfl)
    · simp only [if_neg h]
      rw [nmStep, if_neg h] at hsu
      have hms := mset_add (fun _ => 0) e.1 ns h
      have r1 : ((ns.length + 1) * 16 ≤ room) = True := eq_true (by omega)
      have r2 : (ns.length + 1 ≤ room) = True := eq_true (by omega)
      refine AW.go ?_ (by simp only [go_sem, ↓reduceIte, mval] <;> rfl)
      refine AW.condT rfl ?_
      refine AW.go ?_
      refine AW.mapSet rfl rfl rfl rfl hms tk_47 (by simp only [go_sem] <;> rfl) ?_
      refine AW.go ?_ (by simp only [go_sem, ↓reduceIte, e1, r1, r2, strs_snoc, List.length_cons, List.length_nil, Nat.zero_add] <;> rfl)
      exact AW.again hK (i + 1) (by omega) (by omega) (hs := by simp only [go_sem, ↓reduceIte, hsu] <;> rfl)
  have hge : i = es.length := by have := of_decide_eq_false hc; omega
  subst hge
  have hnn := nmS_nodup es
  have hsp := sortS_perm (nmS es)
  have hsn : (sortS (nmS es)).Nodup := hsp.nodup_iff.2 hnn
  have hnl2 := nmS_len es
  have hsl := sortS_len (nmS es)
  rw [List.take_length]
  unfold dirS
  generalize nmS es = ns at *
  refine AW.go ?_
  refine via (T := ?Tsort) (fun hT => ?_) ?_; rotate_left
  · by_cases hne : ns = []
    · have hs0 : sortS ns = ns := by rw [hne]; simp [sortS]
      have f0 : Fn Try.prog 56 [] [.pv (.sl 1 (strs ns))] (fun rs H' => rs = [] ∧ H' = []) := by rw [hne]; exact sort0_fn
      refine AW.callE (fun _ => 0) f0 (.lend rfl co_9 .nil) ?_
      refine AW.keepB [4, 5] [12] (s' := ⟨52, [(4, .mp 12), (5, .own 9 (strs (sortS ns)))], [(12, .mp (mpS (fun _ => 0) ns))]⟩) (by simp only [go_sem, ↓reduceIte]) (by simp only [go_sem, ↓reduceIte, hs0] <;> rfl) ?_
      exact hT ()
    · refine AW.sortOwn sort_ok sort_is rfl rfl hne (by omega) co_9 ?_
      refine AW.keepB [4, 5] [12] (by simp only [go_sem, ↓reduceIte]) (by simp only [go_sem, ↓reduceIte] <;> rfl) ?_
      exact hT ()
  generalize sortS ns = ls at *
  refine AW.go ?_
  refine AW.loopS (fun k : Nat => ⟨52, [(41, .pv (.int .i64 k)), (39, .al (.slot 5)), (40, .pv (.int .i64 ls.length)), (4, .mp 12), (5, .own 9 (strs ls))], [(12, .mp (mpS (posK ls k) ns))]⟩) (fun k => k ≤ ls.length) (fun k => ls.length - k) [41, 39, 40, 4, 5] [12] 0 (Nat.zero_le _) ?_ (hs := by simp only [go_sem, ↓reduceIte, posK_0] <;> rfl)
  rintro k hk K hK
  refine AW.go ?_
  refine AW.cond rfl (fun hc => ?_) (fun hc => ?_)
  · have hlt : k < ls.length := by have := of_decide_eq_true hc; omega
    obtain ⟨t, ht⟩ : ∃ t, ls[k]? = some t := ⟨ls[k], List.getElem?_eq_getElem hlt⟩
    have hg := strs_get ht
    have htn : t ∈ ns := hsp.mem_iff.1 (List.mem_of_getElem? ht)
    have hms := mset_old (posK ls k) t k ns htn hnn
    rw [posK_succ hsn ht] at hms
    have e1 : IntKind.i64.wrap ((k : Int) + 1) = ((k + 1 : Nat) : Int) := wrap_i64_succ (by omega)
    have l1 : (k < ls.length) = True := eq_true hlt
    refine AW.go ?_ (by simp only [go_sem, ↓reduceIte, hg, l1] <;> rfl)
    refine AW.mapSet rfl rfl rfl rfl hms tk_47 (by simp only [go_sem] <;> rfl) ?_
    refine AW.go ?_ (by simp only [go_sem, ↓reduceIte, e1] <;> rfl)
    exact AW.again hK (k + 1) (by omega) (by omega)
  have hge : k = ls.length := by have := of_decide_eq_false hc; omega
  subst hge
  refine AW.go ?_
  refine AW.finE (.move rfl (.mp rfl .nil)) rfl
end Go.Ck

set_option linter.unusedVariables false
namespace Go.Ck
open Go.RowKit
section
variable {P : Program} {R : Option Nat} {Φ : Exit → Cx → St → Prop} {k : List It} {C : Cx} {s : St}
/-- The two operations that lay a constant's bytes. -/
theorem AW.constB {all : Array Oper} {o1 o2 : Oper} {r : List Oper} {d1 d2 t e n eb : Nat} {ea : Bool} {ps : Array (Nat × Operand)} {z : PV} {xs : List PV} (hT : tk P t = .sl e 1 eb ea) (he : tk P e = .int .u8) (hz : zeroElem P e = some z)
    (hf : fillElems P 1 ps.toList (List.replicate n z) s = some (xs, s)) (h0 : 0 < n) (hn : n ≤ 1000) (h1 : xs.all PV.one = true) (hn1 : d1 < s.n)
    (hk : AW P R Φ .normal (.ops all r :: k) C (put d2 (.lit xs) (put d1 .dead s)))
    (hg1 : o1.guard = none := by rfl) (hd1' : o1.dst = some d1 := by rfl) (ho1 : o1.op = .buildSlice t n ps := by rfl) (hg2 : o2.guard = none := by rfl) (hd2 : o2.dst = some d2 := by rfl) (ho2 : o2.op = .convert t t (.tmp d1) := by rfl) : AW P R Φ .normal (.ops all (o1 :: o2 :: r) :: k) C s := fun B a w ha => by
  simp only [den]
  refine wpListIn_want (by simp [Region.wanted, hg1]) (fun c hc => by rw [ho1] at hc; cases hc) ?_
  obtain ⟨hdf, E, h⟩ := ha
  obtain ⟨hu, hce, _⟩ := tk_sl hT
  obtain ⟨ie, zv, hie, hzv, hzs, hro, hzl⟩ := zeroElem_sound (P := P) (w := w) (A := fun b => E.om b ∨ B.F b) hz
  have hsz : ie.size = 1 := by rw [← hce]; simp [Program.cellsOf, hie]
  have hr0 := made_ros hro n
  rw [hzl] at hr0
  obtain ⟨E1, cells', f1, f2, f3, f4, f5⟩ := fillElems_sound ps.toList h hf hr0 (fun x hx => by rw [List.eq_of_mem_replicate hx, hzl, hsz])
  have hl : xs.length = n := by simpa using f5
  have hone : flat xs = xs := flat_one h1
  rw [hone] at f3
  have hrun1 : (execOp a.eval o1).run P w = .ok (.value (.slice (some ⟨w.heap.size, 0, none⟩) n n)) (w.alloc (.cells cells' e)) := by
    have := run_buildSlice (P := P) w t e n (ps.map fun (i, x) => (i, a.eval x)) cells' ie zv hu hie hzv (by rw [hsz]; omega) (by rw [hsz]; omega) (by
      rw [Array.toList_map, hsz]
      rw [hsz] at f1
      exact f1)
    simp [execOp, ho1, this]
  rw [hrun1, Oper.uponIn_value, hd1']
  refine wpListIn_want (by simp [Region.wanted, hg2]) (fun c hc => by rw [ho2] at hc; cases hc) ?_
  have hsize : d1 < a.tmps.size := by rw [← h.size]; exact hn1
  have hev : (a.put (some d1) (.slice (some ⟨w.heap.size, 0, none⟩) n n)).eval (.tmp d1) = .slice (some ⟨w.heap.size, 0, none⟩) n n := by
    show (a.tmps.setIfInBounds d1 _).getD d1 undef = _
    simp [Array.getD_eq_getD_getElem?, hsize]
  have hrun2 : (execOp (a.put (some d1) (.slice (some ⟨w.heap.size, 0, none⟩) n n)).eval o2).run P (w.alloc (.cells cells' e)) = .ok (.value (.slice (some ⟨w.heap.size, 0, none⟩) n n)) (w.alloc (.cells cells' e (cells'.size, cells'.size + 1))) := by
    have := Lib.run_convert_bytes_const (P := P) w t e cells' n n hu (tk_int he)
    simp [execOp, ho2, hev, this]
  rw [hrun2, Oper.uponIn_value, hd2]
  have hw2 : (w.alloc (.cells cells' e (cells'.size, cells'.size + 1))).heap = w.heap.push (.cells cells' e (cells'.size, cells'.size + 1)) := rfl
  have hgr : Grow (fun _ => False) w (w.alloc (.cells cells' e (cells'.size, cells'.size + 1))) := ⟨rfl, rfl, rfl, by rw [hw2]; simp, fun b hb _ => by rw [hw2, Array.getElem?_push, if_neg (by omega)]⟩
  have hE1 := f2.world hgr (fun b hb => hb.elim) (fun _ => False) (fun b hb => hb.elim)
  obtain ⟨hc, hfree⟩ := hE1.clear d1
  have hE2 := hc.setDead (.slice (some ⟨w.heap.size, 0, none⟩) n n) (by rw [clear_n]; exact hn1) hfree
  have hput : put d1 .dead s = setSlot d1 .dead (clear d1 s) := by
    unfold put
    rw [if_pos hn1]
    have : (if SV.dead.on (.slot d1) = true then SV.dead else SV.dead) = SV.dead := by split <;> rfl
    rw [this]
  rw [hput] at hk
  have hnA : ¬ ((E1.addOm fun _ => False).om w.heap.size ∨ B.F w.heap.size) := by
    rintro ((h2 | h2) | h2)
    · have := (f2.om_lt _ h2).1; omega
    · exact h2
    · have h3 := f2.flt _ h2
      have h4 := f2.gr.size
      omega
  have hros : ROs (fun b => (E1.addOm fun _ => False).om b ∨ B.F b) (w.alloc (.cells cells' e (cells'.size, cells'.size + 1))) xs cells'.toList := f3.mono (fun b hb hn => ⟨by
    rintro ((h2 | h2) | h2)
    · exact hn (.inl h2)
    · exact h2
    · exact hn (.inr h2), hgr.block b hb (fun h => h)⟩)
  have hrs : RS P (fun b => (E1.addOm fun _ => False).om b ∨ B.F b) (E1.addOm fun _ => False) (w.alloc (.cells cells' e (cells'.size, cells'.size + 1))) (.lit xs) (.slice (some ⟨w.heap.size, 0, none⟩) n n) := by
    have := RS.lit (P := P) (A := fun b => (E1.addOm fun _ => False).om b ∨ B.F b) (E := E1.addOm fun _ => False) (w := w.alloc (.cells cells' e (cells'.size, cells'.size + 1))) xs w.heap.size cells' e (cells'.size, cells'.size + 1) hnA (by rw [hw2]; simp) hros
    rw [hl] at this; exact this
  have hE3 := hE2.putGood d2 (v := .lit xs) ⟨rfl, by simp [SV.on], fun o ho => by simp [SV.pts] at ho⟩ hrs
  exact hk B _ _ ⟨by rw [put_defers, put_defers]; exact hdf, _, hE3⟩

/-- append onto it: a new row. -/
theorem AW.appendLit {all : Array Oper} {o : Oper} {r : List Oper} {d t tx e eb : Nat} {ea : Bool} {c : Call} {x y : Operand} {xs ys : List PV} {v : SV} (hx : ev s x = some (.lit xs)) (hy : ev s y = some v) (hys : elemsOf P s 1 v = some ys) (hx1 : xs.all PV.one = true) (hT : tk P t = .sl e 1 eb ea) (hsrc : (tk P tx).isSrc = true) (hz : zok P e = true) (hpos : 0 < ys.length)
    (hr1 : (xs.length + ys.length) * eb ≤ room) (hr2 : xs.length + ys.length ≤ room)
    (hk : AW P R Φ .normal (.ops all r :: k) C (put d (.own e (xs ++ ys)) s)) (hg : o.guard = none := by rfl) (hd : o.dst = some d := by rfl) (ho : o.op = .call c := by rfl) (hc : c.callee = .builtin .append := by rfl) (hca : c.args = #[x, y] := by rfl) (hct : c.argTypes = #[t, tx] := by rfl) : AW P R Φ .normal (.ops all (o :: r) :: k) C s := fun B a w ha => by
  simp only [den]
  refine wpListIn_want (by simp [Region.wanted, hg]) (fun c hc => by rw [ho] at hc; cases hc) ?_
  obtain ⟨hdf, E, h⟩ := ha
  obtain ⟨hu, hce, hbe⟩ := tk_sl hT
  obtain ⟨i, z, hi, hiz, hzs⟩ := zok_parts hz
  have hsz : i.size = 1 := by rw [← hce]; simp [Program.cellsOf, hi]
  have hby : i.bytes = eb := by rw [← hbe]; simp [Program.bytesOf, hi]
  have e1 := ev_rs h hx
  generalize hxe : a.eval x = v1 at e1
  cases e1 with | lit _ g cur e' fr hA hgc hro => ?_
  obtain ⟨news, h1, h2, h3⟩ := elems_src h hsrc (by decide) hys (ev_rs h hy)
  have hcs : cur.size = xs.length := by have := hro.1; simpa using this
  have hold : (Builtin.firstCells i.size xs.length (.slice (some ⟨g, 0, none⟩) xs.length xs.length)).run P w.drew = .ok cur.toList.toArray w.drew := by
    refine run_firstCells_some w.drew i.size xs.length ⟨g, 0, none⟩ xs.length xs.length cur.toList (by simp [hsz, hcs]) (fun j u hu' => ?_)
    have hg' : w.drew.heap[g]? = some (.cells cur e' fr) := hgc
    have : cur[j]? = some u := by simpa using hu'
    by_cases hj : j = 0 <;> simp [World.cell?, Addr.add, hg', hj, Addr.spot] <;> simpa [hj] using this
  have hns : (xs.length + ys.length) * i.bytes ≤ 140737488355328 := by rw [hby]; unfold room at hr1; exact hr1
  have hrun := run_append_grow_src (P := P) w t tx o.type e i z hu hi hiz (some ⟨g, 0, none⟩) xs.length xs.length cur.toList hold (a.eval y) ys.length news (by rw [hsz]; exact h1) (by omega) (by unfold room at hr2; omega) (growslice_fits (by omega) hns)
  have hrunO : (execOp a.eval o).run P w = .ok (.value (.slice (some ⟨w.heap.size, 0, none⟩) (xs.length + ys.length) (grownCap w (xs.length + ys.length) xs.length e))) (w.drew.alloc (.cells ((cur.toList ++ news).toArray ++ Builtin.zeroCells z.cells (grownCap w (xs.length + ys.length) xs.length e - (xs.length + ys.length))) e)) := by
    have hal : c.args.map a.eval = #[a.eval x, a.eval y] := by rw [hca]; simp
    simp [execOp, ho, resolve, hc, invoke, builtin, hal, hxe, hct, hrun]
  rw [hrunO, Oper.uponIn_value, hd]
  have hflat := flat_one hx1
  have h63 : xs.length + ys.length ≤ maxLen := by unfold room at hr2; simp only [maxLen]; omega
  have hnl : news.length = ys.length := by have := h1.newsLen; simpa using this
  have hge := grownCap_ge w (xs.length + ys.length) xs.length e
  have hcm := grownCap_le_maxLen w (xs.length + ys.length) xs.length e h63
  have hgr : Grow (fun _ => False) w (w.drew.alloc (.cells ((cur.toList ++ news).toArray ++ Builtin.zeroCells z.cells (grownCap w (xs.length + ys.length) xs.length e - (xs.length + ys.length))) e)) := ⟨rfl, rfl, rfl, by simp, fun b hb _ => heap_alloc_old w.drew _ hb⟩
  have hA : ∀ b, b < w.heap.size → ¬ (E.om b ∨ B.F b) → ¬ ((E.om b ∨ w.heap.size ≤ b ∧ b < (w.drew.alloc (.cells ((cur.toList ++ news).toArray ++ Builtin.zeroCells z.cells (grownCap w (xs.length + ys.length) xs.length e - (xs.length + ys.length))) e)).heap.size) ∨ B.F b) ∧ (w.drew.alloc (.cells ((cur.toList ++ news).toArray ++ Builtin.zeroCells z.cells (grownCap w (xs.length + ys.length) xs.length e - (xs.length + ys.length))) e)).heap[b]? = w.heap[b]? := by
    intro b hb' hn'
    refine ⟨?_, hgr.block b hb' (fun h => h)⟩
    rintro ((h3 | h3) | h3)
    · exact hn' (.inl h3)
    · omega
    · exact hn' (.inr h3)
  obtain ⟨E', hE⟩ := h.newOwn hgr (fun b hb' => hb'.elim) (e := e) (xs := xs ++ ys) (x := .slice (some ⟨w.heap.size, 0, none⟩) (xs.length + ys.length) (grownCap w (xs.length + ys.length) xs.length e)) d (by
    refine ⟨cur.toList ++ news, ?_, ?_, ?_, by rw [List.length_append]; exact h63⟩
    · rw [List.length_append, hce]
      refine ⟨by simp [hcs, hnl], .inr ⟨w.heap.size, _, _, rfl, Nat.zero_le _, heap_alloc_new w.drew _, hge, hcm, ?_, ?_⟩⟩
      · rw [Array.size_append, List.size_toArray, size_zeroCells, hzs, hsz]
        simp [hcs, hnl]
        omega
      · simp only [Array.toList_append]
        have : (xs.length + ys.length) * 1 = (cur.toList ++ news).length := by simp [hcs, hnl]
        rw [this]
        exact List.take_left
    · rw [flat_append, hflat]; exact (hro.mono hA).append (h2.mono hA)
    · intro c hc
      rw [hce]
      rcases List.mem_append.1 hc with hc | hc
      · have := List.all_eq_true.1 hx1 c hc
        cases c <;> first | rfl | (simp [PV.one] at this)
      · exact h3 c hc) (fun b hb' => by
    cases hb'
    right
    exact ⟨Nat.le_refl _, by simp⟩)
  refine hk B _ _ ⟨by rw [put_defers]; exact hdf, E', ?_⟩
  exact hE
end
/-- A struct's parts, all pure. -/
def partPK : Option (Nat × Nat × Bool) → List SV → Option SV → Option (List SV)
  | some (fo, fz, _), cs, some (.pv p) => if p.cells.length = fz ∧ fo + fz ≤ cs.length then some (setCells cs (p.cells.map .pv) fo) else none
  | _, _, _ => none
def partsP (fs : List (Nat × Nat × Bool)) (s : St) : List (Nat × Operand) → Option (List SV) → Option (List SV)
  | [], cs => cs
  | (i, x) :: r, some cs => partsP fs s r (partPK fs[i]? cs (ev s x))
  | _ :: _, none => none
theorem partsP_none (fs : List (Nat × Nat × Bool)) (s : St) (l : List (Nat × Operand)) : partsP fs s l none = none := by cases l <;> rfl
theorem partsP_nil (fs : List (Nat × Nat × Bool)) (s : St) (cs : List SV) : partsP fs s [] (some cs) = some cs := rfl
theorem partsP_cons (fs : List (Nat × Nat × Bool)) (s : St) (i : Nat) (x : Operand) (r : List (Nat × Operand)) (cs : List SV) : partsP fs s ((i, x) :: r) (some cs) = partsP fs s r (partPK fs[i]? cs (ev s x)) := rfl
theorem partPK_pv (fo fz : Nat) (b : Bool) (cs : List SV) (p : PV) : partPK (some (fo, fz, b)) cs (some (.pv p)) = if p.cells.length = fz ∧ fo + fz ≤ cs.length then some (setCells cs (p.cells.map .pv) fo) else none := rfl
attribute [go_sem] partsP_nil partsP_cons partPK_pv
theorem partsP_sound {P : Program} {fs : List (Nat × Nat × Bool)} {s t : St} (h : Le s t) : ∀ {l : List (Nat × Operand)} {z cs : List SV}, partsP fs s l (some z) = some cs → fillParts P fs l z t = some (cs, t)
  | [], z, cs, hf => by cases hf; rfl
  | (i, x) :: r, z, cs, hf => by
    simp only [partsP] at hf
    cases hx : ev s x with
    | none => rw [hx] at hf; cases hfi : fs[i]? <;> simp [hfi, partPK, partsP_none] at hf
    | some v =>
      rw [hx] at hf
      cases hfi : fs[i]? with
      | none => rw [hfi] at hf; simp [partPK, partsP_none] at hf
      | some f =>
        obtain ⟨fo, fz, b⟩ := f
        rw [hfi] at hf
        cases v with
        | pv p =>
          simp only [partPK] at hf
          split at hf
          · rename_i hc
            simp only [fillParts, hfi, h.ev hx, partCells, freeze]
            rw [if_pos (by simpa using hc)]
            exact partsP_sound h hf
          · rw [partsP_none] at hf; cases hf
        | _ => simp [partPK, partsP_none] at hf
section
variable {P : Program} {R : Option Nat} {Φ : Exit → Cx → St → Prop} {k : List It} {C : Cx} {s : St} {all : Array Oper}
theorem Does.build {o : Oper} {d ty : Nat} {fs : List (Nat × Nat × Bool)} {ps : Array (Nat × Operand)} {z cs : List SV} {p : PV} (hg : o.guard = none) (hd : o.dst = some d) (ho : o.op = .build ty ps) (hT : tk P ty = .st fs) (hz : zcs P ty = some z) (h1 : fs.all (fun f => f.2.1 != 0) = true) (hf : partsP fs s ps.toList (some z) = some cs) (hm : mkAgg cs = .pv p) : Does P o d s (.pv p) := fun R Φ k C all r t hle hl hn h => by
  refine AW.step (s' := put d (.pv p) t) hg ?_ ?_
  · unfold astep
    simp only [hd, ho, reads, Bool.false_eq_true, if_false, orElse, aeff, hT, hz]
    rw [if_pos h1, partsP_sound hle hf]
    simp only [hm]
  · rw [put_fresh hl hn rfl]; exact h
theorem CK.build {id i d ty : Nat} {fs : List (Nat × Nat × Bool)} {usl : List (List Nat)} {T : List (Nat × SV)} {o : Oper} {ps : Array (Nat × Operand)} {z cs : List SV} {p : PV} (us : List Nat) (h : CK P R Φ k C id all s (i + 1) (usl ++ [us]) (T ++ [(d, .pv p)]))
    (ho : all[i]? = some o := by rfl) (hg : o.guard = none := by rfl) (hd : o.dst = some d := by rfl) (hop : o.op = .build ty ps := by rfl) (hT : tk P ty = .st fs := by simp only [go_sem] <;> rfl) (hz : zcs P ty = some z := by simp only [go_sem] <;> rfl) (hf : partsP fs (subSt T us s) ps.toList (some z) = some cs := by simp only [go_sem, ↓reduceIte] <;> rfl) (hm : mkAgg cs = .pv p := by simp only [go_sem, ↓reduceIte] <;> rfl) (h1 : fs.all (fun f => f.2.1 != 0) = true := by rfl) : CK P R Φ k C id all s i usl T := fun hi hR =>
  h (by simp [hi]) (hR.add (by rw [hi]; exact ho) hg hd (.build hg hd hop hT hz h1 hf hm))
end
end Go.Ck
