/- The law's words: lists of entries, lasts, commands that are alike. -/
import Derived.Test.YtcihfjfbcfgidaaLend
import Derived.Test.YtcihfjfbcfgidaaStampEq
import Derived.Laws.StructEq
import Derived.Deep.MidRow
import Derived.Test.YtcihfjfbcfgidaaRefM8
import Derived.Deep.DeepCutAuto
namespace Go.Proofs.Ytcihfjfbcfgidaa
open Go.RowKit Go.Proofs.YtcihfjfbcfgidaaW.PrintLast
set_option linter.unusedVariables false

theorem exec_load_mid {a : Act} {o : Oper} {w : World} (ty : TypeId) (x : Operand) (ho : o.op = .load ty x) (b off : Nat) (hx : a.eval x = .pointer (some ⟨b, off, Option.none⟩)) (cs : List Value) (d : TypeDesc) (hc : w.rangeAt b off cs) (hu : Try.prog.underlying ty = some d) (hd : d.isRow = true) (hi : (Try.prog.info? ty).map (·.size) = some cs.length) : (execOp a.eval o).run Try.prog w = .ok (.value (.agg cs.toArray)) w := by
  unfold execOp
  simp only [ho, hx, Sem.run_bind, Sem.run_pure, Result.andThen_ok, run_loadAt_mid w b off ty cs d hc hu hd hi]

/-! ### Ent -/
structure Ent where
  nm : ByteArray
  a : Int
  b : Int
  c : Int
def Ent.cells (x : Ent) : List Value := [.string x.nm, .int .i64 x.a, .int .i64 x.b, .int .i64 x.c]
def Ents (w : World) (A : Option Addr) (l : List Ent) : Prop := ∀ (j : Nat) x, l[j]? = some x → ∃ b o, A = some ⟨b, o, Option.none⟩ ∧ ∀ (i : Nat) v, x.cells[i]? = some v → w.cell? ⟨b, o + j * 4 + i, Option.none⟩ = some v
theorem Ents.keeps {S : Nat → Prop} {w w' : World} {A : Option Addr} {l : List Ent} (h : Ents w A l) (hk : Keeps S w w') (hA : Off A S) : Ents w' A l := fun j x e => by
  obtain ⟨b, o, h1, h2⟩ := h j x e
  exact ⟨b, o, h1, fun i v hv => hk.cell (h2 i v hv) (hA b o h1)⟩
theorem Ents.grew {w w' : World} {A : Option Addr} {l : List Ent} (h : Ents w A l) (hk : Keeps None w w') : Ents w' A l := h.keeps hk (Off.none_ A)
theorem Ents.nil (w : World) (A : Option Addr) : Ents w A [] := fun j x e => by simp at e
set_option maxRecDepth 100000 in
theorem neq_Ent (x : Ent) (w : World) : (binOp .neq 43 (.agg #[.string x.nm, .int .i64 x.a, .int .i64 x.b, .int .i64 x.c]) (.agg #[.string x.nm, .int .i64 x.a, .int .i64 x.b, .int .i64 x.c])).run Try.prog w = .ok (.bool false) w := by
  go_simp
set_option maxRecDepth 100000 in
set_option maxHeartbeats 1600000 in
theorem same_Ent (A : Option Addr) (n c : Nat) (A' : Option Addr) (n' c' : Nat) (l : List Ent) (w : World) (h1 : Ents w A l) (h2 : Ents w A' l) (hn : l.length = n) (hn' : l.length = n') (hr : n ≤ 140737488351232) :
    Calls Try.prog 61 #[.slice A n c, .slice A' n' c'] w fun e w' => e = .returned (.bool true) ∧ Keeps None w w' := by
  subst hn
  subst hn'
  go_enter Try.func61, Try.ntmps61
  go_wp2
  go_loopw [5] (fun i wr => ∃ k : Nat, k ≤ l.length ∧ i = .int .i64 k ∧ Keeps None w wr) (fun i _ => l.length - (intOf i).toNat)
  case atStart => exact ⟨0, Nat.zero_le _, rfl, Keeps.refl _ _⟩
  case round =>
    obtain ⟨k, hk, rfl, hK⟩ := hrel
    by_cases hlt : k < l.length
    · obtain ⟨x, hx⟩ : ∃ x, l[k]? = some x := ⟨_, List.getElem?_eq_getElem hlt⟩
      obtain ⟨b, o, rfl, hc⟩ := (h1.grew hK) k x hx
      obtain ⟨b', o', rfl, hc'⟩ := (h2.grew hK) k x hx
      clear hx
      go_upto_region 6 with (fail)
      refine start_ (ds := []) (S := (fun w' => Keeps None wr w')) #[false, false, false, false, false, false, false, false, false] (by kernel_rfl) rfl rfl ((Keeps.refl _ _).drew) (fun hS0 => ?_)
      refine pure_ (i := 0) (N := some 17) (v := .slice (some ⟨b, o, Option.none⟩) l.length c) #[true, false, false, false, false, false, false, false, false] rfl rfl (by kernel_rfl) (fun _ _ _ h => h) (Or.inl ⟨wanted_none rfl, fun w => by rfl⟩) rfl ?_
      try simp only [Act.put, List.setIfInBounds_toArray, List.set_cons_zero, List.set_cons_succ]
      refine pure_ (i := 1) (N := some 18) (v := .int .i64 (k : Int)) #[true, true, false, false, false, false, false, false, false] rfl rfl (by kernel_rfl) (fun _ _ _ h => h) (Or.inl ⟨wanted_none rfl, fun w => by rfl⟩) rfl ?_
      try simp only [Act.put, List.setIfInBounds_toArray, List.set_cons_zero, List.set_cons_succ]
      refine pure_ (i := 2) (N := some 19) (v := .pointer (some ⟨b, o + k * 4, Option.none⟩)) #[true, true, true, false, false, false, false, false, false] rfl rfl (by kernel_rfl) (fun _ _ _ h => h) (Or.inl ⟨wanted_none rfl, fun w => by go_simp⟩) rfl ?_
      try simp only [Act.put, List.setIfInBounds_toArray, List.set_cons_zero, List.set_cons_succ]
      refine take_ (i := 3) (N := some 20) (v := .agg #[.string x.nm, .int .i64 x.a, .int .i64 x.b, .int .i64 x.c]) #[true, true, true, true, false, false, false, false, false] rfl rfl (by kernel_rfl) (fun _ _ _ h => h) (Or.inl ⟨wanted_none rfl, by intro w' hSw; exact exec_load_mid 43 (.tmp 19) rfl b (o + k * 4) rfl [.string x.nm, .int .i64 x.a, .int .i64 x.b, .int .i64 x.c] _ (fun i v hv => hSw.cell (hc i v hv) id) Try.underlying43 rfl (by kernel_rfl)⟩) hS0 rfl ?_
      try simp only [Act.put, List.setIfInBounds_toArray, List.set_cons_zero, List.set_cons_succ]
      refine pure_ (i := 4) (N := some 21) (v := .slice (some ⟨b', o', Option.none⟩) l.length c') #[true, true, true, true, true, false, false, false, false] rfl rfl (by kernel_rfl) (fun _ _ _ h => h) (Or.inl ⟨wanted_none rfl, fun w => by rfl⟩) rfl ?_
      try simp only [Act.put, List.setIfInBounds_toArray, List.set_cons_zero, List.set_cons_succ]
      refine pure_ (i := 5) (N := some 22) (v := .int .i64 (k : Int)) #[true, true, true, true, true, true, false, false, false] rfl rfl (by kernel_rfl) (fun _ _ _ h => h) (Or.inl ⟨wanted_none rfl, fun w => by rfl⟩) rfl ?_
      try simp only [Act.put, List.setIfInBounds_toArray, List.set_cons_zero, List.set_cons_succ]
      refine pure_ (i := 6) (N := some 23) (v := .pointer (some ⟨b', o' + k * 4, Option.none⟩)) #[true, true, true, true, true, true, true, false, false] rfl rfl (by kernel_rfl) (fun _ _ _ h => h) (Or.inl ⟨wanted_none rfl, fun w => by go_simp⟩) rfl ?_
      try simp only [Act.put, List.setIfInBounds_toArray, List.set_cons_zero, List.set_cons_succ]
      refine take_ (i := 7) (N := some 24) (v := .agg #[.string x.nm, .int .i64 x.a, .int .i64 x.b, .int .i64 x.c]) #[true, true, true, true, true, true, true, true, false] rfl rfl (by kernel_rfl) (fun _ _ _ h => h) (Or.inl ⟨wanted_none rfl, by intro w' hSw; exact exec_load_mid 43 (.tmp 23) rfl b' (o' + k * 4) rfl [.string x.nm, .int .i64 x.a, .int .i64 x.b, .int .i64 x.c] _ (fun i v hv => hSw.cell (hc' i v hv) id) Try.underlying43 rfl (by kernel_rfl)⟩) hS0 rfl ?_
      try simp only [Act.put, List.setIfInBounds_toArray, List.set_cons_zero, List.set_cons_succ]
      refine pure_ (i := 8) (N := some 25) (v := .bool false) #[true, true, true, true, true, true, true, true, true] rfl rfl (by kernel_rfl) (fun _ _ _ h => h) (Or.inl ⟨wanted_none rfl, fun w => by have q := neq_Ent x w; go_simp⟩) rfl ?_
      try simp only [Act.put, List.setIfInBounds_toArray, List.set_cons_zero, List.set_cons_succ]
      refine done_ (by kernel_rfl) ?_
      have hk6 := hK.trans hS0
      clear hS0
      go_wp2_with fail
      go_roundw
      case rel => exact ⟨k + 1, by omega, by go_num, hk6⟩
      case measure => simp [intOf]; omega
    · obtain rfl : k = l.length := by omega
      go_wp2
      go_ret
      exact ⟨rfl, hK⟩

/-! ### Las -/
structure Las where
  a : Int
  b : Int
  c : Int
  d : Int
  e : Int
  f : Int
  g : Int
def Las.cells (x : Las) : List Value := [.int .i64 x.a, .int .i64 x.b, .int .i64 x.c, .int .i64 x.d, .int .i64 x.e, .int .i64 x.f, .int .i64 x.g]
def Lass (w : World) (A : Option Addr) (l : List Las) : Prop := ∀ (j : Nat) x, l[j]? = some x → ∃ b o, A = some ⟨b, o, Option.none⟩ ∧ ∀ (i : Nat) v, x.cells[i]? = some v → w.cell? ⟨b, o + j * 7 + i, Option.none⟩ = some v
theorem Lass.keeps {S : Nat → Prop} {w w' : World} {A : Option Addr} {l : List Las} (h : Lass w A l) (hk : Keeps S w w') (hA : Off A S) : Lass w' A l := fun j x e => by
  obtain ⟨b, o, h1, h2⟩ := h j x e
  exact ⟨b, o, h1, fun i v hv => hk.cell (h2 i v hv) (hA b o h1)⟩
theorem Lass.grew {w w' : World} {A : Option Addr} {l : List Las} (h : Lass w A l) (hk : Keeps None w w') : Lass w' A l := h.keeps hk (Off.none_ A)
theorem Lass.nil (w : World) (A : Option Addr) : Lass w A [] := fun j x e => by simp at e
set_option maxRecDepth 100000 in
theorem neq_Las (x : Las) (w : World) : (binOp .neq 133 (.agg #[.int .i64 x.a, .int .i64 x.b, .int .i64 x.c, .int .i64 x.d, .int .i64 x.e, .int .i64 x.f, .int .i64 x.g]) (.agg #[.int .i64 x.a, .int .i64 x.b, .int .i64 x.c, .int .i64 x.d, .int .i64 x.e, .int .i64 x.f, .int .i64 x.g])).run Try.prog w = .ok (.bool false) w := by
  go_simp
set_option maxRecDepth 100000 in
set_option maxHeartbeats 1600000 in
theorem same_Las (A : Option Addr) (n c : Nat) (A' : Option Addr) (n' c' : Nat) (l : List Las) (w : World) (h1 : Lass w A l) (h2 : Lass w A' l) (hn : l.length = n) (hn' : l.length = n') (hr : n ≤ 140737488351232) :
    Calls Try.prog 67 #[.slice A n c, .slice A' n' c'] w fun e w' => e = .returned (.bool true) ∧ Keeps None w w' := by
  subst hn
  subst hn'
  go_enter Try.func67, Try.ntmps67
  go_wp2
  go_loopw [5] (fun i wr => ∃ k : Nat, k ≤ l.length ∧ i = .int .i64 k ∧ Keeps None w wr) (fun i _ => l.length - (intOf i).toNat)
  case atStart => exact ⟨0, Nat.zero_le _, rfl, Keeps.refl _ _⟩
  case round =>
    obtain ⟨k, hk, rfl, hK⟩ := hrel
    by_cases hlt : k < l.length
    · obtain ⟨x, hx⟩ : ∃ x, l[k]? = some x := ⟨_, List.getElem?_eq_getElem hlt⟩
      obtain ⟨b, o, rfl, hc⟩ := (h1.grew hK) k x hx
      obtain ⟨b', o', rfl, hc'⟩ := (h2.grew hK) k x hx
      clear hx
      go_upto_region 6 with (fail)
      refine start_ (ds := []) (S := (fun w' => Keeps None wr w')) #[false, false, false, false, false, false, false, false, false] (by kernel_rfl) rfl rfl ((Keeps.refl _ _).drew) (fun hS0 => ?_)
      refine pure_ (i := 0) (N := some 17) (v := .slice (some ⟨b, o, Option.none⟩) l.length c) #[true, false, false, false, false, false, false, false, false] rfl rfl (by kernel_rfl) (fun _ _ _ h => h) (Or.inl ⟨wanted_none rfl, fun w => by rfl⟩) rfl ?_
      try simp only [Act.put, List.setIfInBounds_toArray, List.set_cons_zero, List.set_cons_succ]
      refine pure_ (i := 1) (N := some 18) (v := .int .i64 (k : Int)) #[true, true, false, false, false, false, false, false, false] rfl rfl (by kernel_rfl) (fun _ _ _ h => h) (Or.inl ⟨wanted_none rfl, fun w => by rfl⟩) rfl ?_
      try simp only [Act.put, List.setIfInBounds_toArray, List.set_cons_zero, List.set_cons_succ]
      refine pure_ (i := 2) (N := some 19) (v := .pointer (some ⟨b, o + k * 7, Option.none⟩)) #[true, true, true, false, false, false, false, false, false] rfl rfl (by kernel_rfl) (fun _ _ _ h => h) (Or.inl ⟨wanted_none rfl, fun w => by go_simp⟩) rfl ?_
      try simp only [Act.put, List.setIfInBounds_toArray, List.set_cons_zero, List.set_cons_succ]
      refine take_ (i := 3) (N := some 20) (v := .agg #[.int .i64 x.a, .int .i64 x.b, .int .i64 x.c, .int .i64 x.d, .int .i64 x.e, .int .i64 x.f, .int .i64 x.g]) #[true, true, true, true, false, false, false, false, false] rfl rfl (by kernel_rfl) (fun _ _ _ h => h) (Or.inl ⟨wanted_none rfl, by intro w' hSw; exact exec_load_mid 133 (.tmp 19) rfl b (o + k * 7) rfl [.int .i64 x.a, .int .i64 x.b, .int .i64 x.c, .int .i64 x.d, .int .i64 x.e, .int .i64 x.f, .int .i64 x.g] _ (fun i v hv => hSw.cell (hc i v hv) id) Try.underlying133 rfl (by kernel_rfl)⟩) hS0 rfl ?_
      try simp only [Act.put, List.setIfInBounds_toArray, List.set_cons_zero, List.set_cons_succ]
      refine pure_ (i := 4) (N := some 21) (v := .slice (some ⟨b', o', Option.none⟩) l.length c') #[true, true, true, true, true, false, false, false, false] rfl rfl (by kernel_rfl) (fun _ _ _ h => h) (Or.inl ⟨wanted_none rfl, fun w => by rfl⟩) rfl ?_
      try simp only [Act.put, List.setIfInBounds_toArray, List.set_cons_zero, List.set_cons_succ]
      refine pure_ (i := 5) (N := some 22) (v := .int .i64 (k : Int)) #[true, true, true, true, true, true, false, false, false] rfl rfl (by kernel_rfl) (fun _ _ _ h => h) (Or.inl ⟨wanted_none rfl, fun w => by rfl⟩) rfl ?_
      try simp only [Act.put, List.setIfInBounds_toArray, List.set_cons_zero, List.set_cons_succ]
      refine pure_ (i := 6) (N := some 23) (v := .pointer (some ⟨b', o' + k * 7, Option.none⟩)) #[true, true, true, true, true, true, true, false, false] rfl rfl (by kernel_rfl) (fun _ _ _ h => h) (Or.inl ⟨wanted_none rfl, fun w => by go_simp⟩) rfl ?_
      try simp only [Act.put, List.setIfInBounds_toArray, List.set_cons_zero, List.set_cons_succ]
      refine take_ (i := 7) (N := some 24) (v := .agg #[.int .i64 x.a, .int .i64 x.b, .int .i64 x.c, .int .i64 x.d, .int .i64 x.e, .int .i64 x.f, .int .i64 x.g]) #[true, true, true, true, true, true, true, true, false] rfl rfl (by kernel_rfl) (fun _ _ _ h => h) (Or.inl ⟨wanted_none rfl, by intro w' hSw; exact exec_load_mid 133 (.tmp 23) rfl b' (o' + k * 7) rfl [.int .i64 x.a, .int .i64 x.b, .int .i64 x.c, .int .i64 x.d, .int .i64 x.e, .int .i64 x.f, .int .i64 x.g] _ (fun i v hv => hSw.cell (hc' i v hv) id) Try.underlying133 rfl (by kernel_rfl)⟩) hS0 rfl ?_
      try simp only [Act.put, List.setIfInBounds_toArray, List.set_cons_zero, List.set_cons_succ]
      refine pure_ (i := 8) (N := some 25) (v := .bool false) #[true, true, true, true, true, true, true, true, true] rfl rfl (by kernel_rfl) (fun _ _ _ h => h) (Or.inl ⟨wanted_none rfl, fun w => by have q := neq_Las x w; go_simp⟩) rfl ?_
      try simp only [Act.put, List.setIfInBounds_toArray, List.set_cons_zero, List.set_cons_succ]
      refine done_ (by kernel_rfl) ?_
      have hk6 := hK.trans hS0
      clear hS0
      go_wp2_with fail
      go_roundw
      case rel => exact ⟨k + 1, by omega, by go_num, hk6⟩
      case measure => simp [intOf]; omega
    · obtain rfl : k = l.length := by omega
      go_wp2
      go_ret
      exact ⟨rfl, hK⟩

/-! ### Com -/
structure Com where
  a : Int
  b : Int
  c : Int
  nm : ByteArray
  d : Int
  e : Int
  f : Int
  g : Int
  h : Int
def Com.cells (x : Com) : List Value := [.int .i64 x.a, .int .i64 x.b, .int .i64 x.c, .string x.nm, .int .i64 x.d, .int .i64 x.e, .int .i64 x.f, .int .i64 x.g, .int .i64 x.h]
def Coms (w : World) (A : Option Addr) (l : List Com) : Prop := ∀ (j : Nat) x, l[j]? = some x → ∃ b o, A = some ⟨b, o, Option.none⟩ ∧ ∀ (i : Nat) v, x.cells[i]? = some v → w.cell? ⟨b, o + j * 9 + i, Option.none⟩ = some v
theorem Coms.keeps {S : Nat → Prop} {w w' : World} {A : Option Addr} {l : List Com} (h : Coms w A l) (hk : Keeps S w w') (hA : Off A S) : Coms w' A l := fun j x e => by
  obtain ⟨b, o, h1, h2⟩ := h j x e
  exact ⟨b, o, h1, fun i v hv => hk.cell (h2 i v hv) (hA b o h1)⟩
theorem Coms.grew {w w' : World} {A : Option Addr} {l : List Com} (h : Coms w A l) (hk : Keeps None w w') : Coms w' A l := h.keeps hk (Off.none_ A)
theorem Coms.nil (w : World) (A : Option Addr) : Coms w A [] := fun j x e => by simp at e
set_option maxRecDepth 100000 in
theorem neq_Com (x : Com) (w : World) : (binOp .neq 60 (.agg #[.int .i64 x.a, .int .i64 x.b, .int .i64 x.c, .string x.nm, .int .i64 x.d, .int .i64 x.e, .int .i64 x.f, .int .i64 x.g, .int .i64 x.h]) (.agg #[.int .i64 x.a, .int .i64 x.b, .int .i64 x.c, .string x.nm, .int .i64 x.d, .int .i64 x.e, .int .i64 x.f, .int .i64 x.g, .int .i64 x.h])).run Try.prog w = .ok (.bool false) w := by
  go_simp
set_option maxRecDepth 100000 in
set_option maxHeartbeats 1600000 in
theorem same_Com (A : Option Addr) (n c : Nat) (A' : Option Addr) (n' c' : Nat) (l : List Com) (w : World) (h1 : Coms w A l) (h2 : Coms w A' l) (hn : l.length = n) (hn' : l.length = n') (hr : n ≤ 140737488351232) :
    Calls Try.prog 63 #[.slice A n c, .slice A' n' c'] w fun e w' => e = .returned (.bool true) ∧ Keeps None w w' := by
  subst hn
  subst hn'
  go_enter Try.func63, Try.ntmps63
  go_wp2
  go_loopw [5] (fun i wr => ∃ k : Nat, k ≤ l.length ∧ i = .int .i64 k ∧ Keeps None w wr) (fun i _ => l.length - (intOf i).toNat)
  case atStart => exact ⟨0, Nat.zero_le _, rfl, Keeps.refl _ _⟩
  case round =>
    obtain ⟨k, hk, rfl, hK⟩ := hrel
    by_cases hlt : k < l.length
    · obtain ⟨x, hx⟩ : ∃ x, l[k]? = some x := ⟨_, List.getElem?_eq_getElem hlt⟩
      obtain ⟨b, o, rfl, hc⟩ := (h1.grew hK) k x hx
      obtain ⟨b', o', rfl, hc'⟩ := (h2.grew hK) k x hx
      clear hx
      go_upto_region 6 with (fail)
      refine start_ (ds := []) (S := (fun w' => Keeps None wr w')) #[false, false, false, false, false, false, false, false, false] (by kernel_rfl) rfl rfl ((Keeps.refl _ _).drew) (fun hS0 => ?_)
      refine pure_ (i := 0) (N := some 17) (v := .slice (some ⟨b, o, Option.none⟩) l.length c) #[true, false, false, false, false, false, false, false, false] rfl rfl (by kernel_rfl) (fun _ _ _ h => h) (Or.inl ⟨wanted_none rfl, fun w => by rfl⟩) rfl ?_
      try simp only [Act.put, List.setIfInBounds_toArray, List.set_cons_zero, List.set_cons_succ]
      refine pure_ (i := 1) (N := some 18) (v := .int .i64 (k : Int)) #[true, true, false, false, false, false, false, false, false] rfl rfl (by kernel_rfl) (fun _ _ _ h => h) (Or.inl ⟨wanted_none rfl, fun w => by rfl⟩) rfl ?_
      try simp only [Act.put, List.setIfInBounds_toArray, List.set_cons_zero, List.set_cons_succ]
      refine pure_ (i := 2) (N := some 19) (v := .pointer (some ⟨b, o + k * 9, Option.none⟩)) #[true, true, true, false, false, false, false, false, false] rfl rfl (by kernel_rfl) (fun _ _ _ h => h) (Or.inl ⟨wanted_none rfl, fun w => by go_simp⟩) rfl ?_
      try simp only [Act.put, List.setIfInBounds_toArray, List.set_cons_zero, List.set_cons_succ]
      refine take_ (i := 3) (N := some 20) (v := .agg #[.int .i64 x.a, .int .i64 x.b, .int .i64 x.c, .string x.nm, .int .i64 x.d, .int .i64 x.e, .int .i64 x.f, .int .i64 x.g, .int .i64 x.h]) #[true, true, true, true, false, false, false, false, false] rfl rfl (by kernel_rfl) (fun _ _ _ h => h) (Or.inl ⟨wanted_none rfl, by intro w' hSw; exact exec_load_mid 60 (.tmp 19) rfl b (o + k * 9) rfl [.int .i64 x.a, .int .i64 x.b, .int .i64 x.c, .string x.nm, .int .i64 x.d, .int .i64 x.e, .int .i64 x.f, .int .i64 x.g, .int .i64 x.h] _ (fun i v hv => hSw.cell (hc i v hv) id) Try.underlying60 rfl (by kernel_rfl)⟩) hS0 rfl ?_
      try simp only [Act.put, List.setIfInBounds_toArray, List.set_cons_zero, List.set_cons_succ]
      refine pure_ (i := 4) (N := some 21) (v := .slice (some ⟨b', o', Option.none⟩) l.length c') #[true, true, true, true, true, false, false, false, false] rfl rfl (by kernel_rfl) (fun _ _ _ h => h) (Or.inl ⟨wanted_none rfl, fun w => by rfl⟩) rfl ?_
      try simp only [Act.put, List.setIfInBounds_toArray, List.set_cons_zero, List.set_cons_succ]
      refine pure_ (i := 5) (N := some 22) (v := .int .i64 (k : Int)) #[true, true, true, true, true, true, false, false, false] rfl rfl (by kernel_rfl) (fun _ _ _ h => h) (Or.inl ⟨wanted_none rfl, fun w => by rfl⟩) rfl ?_
      try simp only [Act.put, List.setIfInBounds_toArray, List.set_cons_zero, List.set_cons_succ]
      refine pure_ (i := 6) (N := some 23) (v := .pointer (some ⟨b', o' + k * 9, Option.none⟩)) #[true, true, true, true, true, true, true, false, false] rfl rfl (by kernel_rfl) (fun _ _ _ h => h) (Or.inl ⟨wanted_none rfl, fun w => by go_simp⟩) rfl ?_
      try simp only [Act.put, List.setIfInBounds_toArray, List.set_cons_zero, List.set_cons_succ]
      refine take_ (i := 7) (N := some 24) (v := .agg #[.int .i64 x.a, .int .i64 x.b, .int .i64 x.c, .string x.nm, .int .i64 x.d, .int .i64 x.e, .int .i64 x.f, .int .i64 x.g, .int .i64 x.h]) #[true, true, true, true, true, true, true, true, false] rfl rfl (by kernel_rfl) (fun _ _ _ h => h) (Or.inl ⟨wanted_none rfl, by intro w' hSw; exact exec_load_mid 60 (.tmp 23) rfl b' (o' + k * 9) rfl [.int .i64 x.a, .int .i64 x.b, .int .i64 x.c, .string x.nm, .int .i64 x.d, .int .i64 x.e, .int .i64 x.f, .int .i64 x.g, .int .i64 x.h] _ (fun i v hv => hSw.cell (hc' i v hv) id) Try.underlying60 rfl (by kernel_rfl)⟩) hS0 rfl ?_
      try simp only [Act.put, List.setIfInBounds_toArray, List.set_cons_zero, List.set_cons_succ]
      refine pure_ (i := 8) (N := some 25) (v := .bool false) #[true, true, true, true, true, true, true, true, true] rfl rfl (by kernel_rfl) (fun _ _ _ h => h) (Or.inl ⟨wanted_none rfl, fun w => by have q := neq_Com x w; go_simp⟩) rfl ?_
      try simp only [Act.put, List.setIfInBounds_toArray, List.set_cons_zero, List.set_cons_succ]
      refine done_ (by kernel_rfl) ?_
      have hk6 := hK.trans hS0
      clear hS0
      go_wp2_with fail
      go_roundw
      case rel => exact ⟨k + 1, by omega, by go_num, hk6⟩
      case measure => simp [intOf]; omega
    · obtain rfl : k = l.length := by omega
      go_wp2
      go_ret
      exact ⟨rfl, hK⟩
end Go.Proofs.Ytcihfjfbcfgidaa
