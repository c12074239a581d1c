/- The law's words: lists of messages that are told alike. -/
import Derived.Test.YtcihfjfbcfgidaaSameN
namespace Go.Proofs.Ytcihfjfbcfgidaa
open Go.RowKit Go.Proofs.YtcihfjfbcfgidaaW.PrintLast
set_option linter.unusedVariables false

theorem See.grew {w w' : World} {h : Hd} {u : Value} {o : OutS} (hs : See w h u o) (hk : Keeps None w w') : See w' h u o := by
  cases o with
  | no => exact hs
  | msgs kind round tag zs l =>
    obtain ⟨A, c, e, hz, hc⟩ := hs
    refine ⟨A, c, e, hz, fun j x hx => ?_⟩
    obtain ⟨b, D, m, h1, h2, h3⟩ := hc j x hx
    exact ⟨b, D, m, h1, h2.grew hk, fun i y hy => hk.cell (h3 i y hy) id⟩

set_option maxRecDepth 100000 in
set_option maxHeartbeats 6400000 in
theorem samemsgs_any (h : Hd) (o : OutS) (u u' : Value) (w : World) (hu : See w h u o) (hu' : See w h u' o) (hl : lnO o ≤ 140737488351232) :
    Calls Try.prog 25 #[u, u'] w fun e w' => e = .returned (.bool true) ∧ Keeps None w w' := by
  cases o with
  | no =>
    obtain rfl : u = .slice Option.none 0 0 := hu
    obtain rfl : u' = .slice Option.none 0 0 := hu'
    go_enter Try.func25, Try.ntmps25
    go_wp2
    go_loopw [5] (fun i wr => i = .int .i64 0 ∧ w = wr) (fun _ _ => 0)
    case atStart => exact ⟨rfl, rfl⟩
    case round =>
      obtain ⟨rfl, rfl⟩ := hrel
      go_wp2
      go_ret
      exact ⟨rfl, Keeps.refl _ _⟩
  | msgs kind round tag zs l =>
    obtain ⟨s1, s2⟩ := tag
    obtain ⟨A, c, rfl, hz, hA⟩ := hu
    obtain ⟨A', c', rfl, -, hA'⟩ := hu'
    have hl : l.length ≤ 140737488351232 := hl
    have hz : zs.length ≤ 140737488351232 := hz
    go_enter Try.func25, Try.ntmps25
    go_wp2
    go_loopw [5] (fun i wr => ∃ k : Nat, k ≤ l.length ∧ i = .int .i64 k ∧ Keeps None w wr) (fun i _ => l.length - (intOf i).toNat)
    case atStart => exact ⟨0, Nat.zero_le _, rfl, Keeps.refl _ _⟩
    case round =>
      obtain ⟨k, hk, rfl, hK⟩ := hrel
      by_cases hlt : k < l.length
      · obtain ⟨x, hx⟩ : ∃ x, l[k]? = some x := ⟨_, List.getElem?_eq_getElem hlt⟩
        obtain ⟨b, D, m, rfl, hD0, hc0⟩ := hA k x hx
        obtain ⟨b', D', m', rfl, hD0', hc0'⟩ := hA' k x hx
        have hD := hD0.grew hK
        have hD' := hD0'.grew hK
        have hc := fun i y hy => hK.cell (hc0 i y hy) id
        have hc' := fun i y hy => hK.cell (hc0' i y hy) id
        clear hx hD0 hD0' hc0 hc0'
        go_upto_region 6 with (fail)
        refine start_ (ds := []) (S := (fun w' => Keeps None wr w')) #[false, false, false, false, false, false, false, false, false, false] (by kernel_rfl) rfl rfl ((Keeps.refl _ _).drew) (fun hS0 => ?_)
        refine pure_ (i := 0) (N := some 17) (v := .slice (some ⟨b, 0, Option.none⟩) l.length c) #[true, false, false, false, false, false, false, false, false, false] rfl rfl (by kernel_rfl) (fun _ _ _ h => h) (Or.inl ⟨wanted_none rfl, fun w => by rfl⟩) rfl ?_
        try simp only [Act.put, List.setIfInBounds_toArray, List.set_cons_zero, List.set_cons_succ]
        refine pure_ (i := 1) (N := some 18) (v := .int .i64 (k : Int)) #[true, true, false, false, false, false, false, false, false, false] rfl rfl (by kernel_rfl) (fun _ _ _ h => h) (Or.inl ⟨wanted_none rfl, fun w => by rfl⟩) rfl ?_
        try simp only [Act.put, List.setIfInBounds_toArray, List.set_cons_zero, List.set_cons_succ]
        refine pure_ (i := 2) (N := some 19) (v := .pointer (some ⟨b, k * 30, Option.none⟩)) #[true, true, true, false, false, false, false, false, false, false] rfl rfl (by kernel_rfl) (fun _ _ _ h => h) (Or.inl ⟨wanted_none rfl, fun w => by go_simp⟩) rfl ?_
        try simp only [Act.put, List.setIfInBounds_toArray, List.set_cons_zero, List.set_cons_succ]
        refine take_ (i := 3) (N := some 20) (v := .agg #[.int .i64 kind, .bool true, .int .i64 h.client, .bool false, .int .i64 x, .int .i64 h.op, .int .i64 round, .int .i64 h.k0, .int .i64 h.k1, .int .i64 h.k2, .int .i64 h.k3, .int .i64 s1, .int .i64 s2, .int .i64 0, .int .i64 0, .slice D zs.length m, .int .i64 0, .int .i64 0, .int .i64 0, .string ⟨#[]⟩, .int .i64 0, .int .i64 0, .int .i64 0, .int .i64 0, .int .i64 0, .int .i64 0, .slice Option.none 0 0, .slice Option.none 0 0, .slice Option.none 0 0, .bool false]) #[true, true, true, true, false, false, false, false, false, false] rfl rfl (by kernel_rfl) (fun _ _ _ h => h) (Or.inl ⟨wanted_none rfl, by intro w' hSw; exact exec_load_mid 66 (.tmp 19) rfl b (k * 30) rfl [.int .i64 kind, .bool true, .int .i64 h.client, .bool false, .int .i64 x, .int .i64 h.op, .int .i64 round, .int .i64 h.k0, .int .i64 h.k1, .int .i64 h.k2, .int .i64 h.k3, .int .i64 s1, .int .i64 s2, .int .i64 0, .int .i64 0, .slice D zs.length m, .int .i64 0, .int .i64 0, .int .i64 0, .string ⟨#[]⟩, .int .i64 0, .int .i64 0, .int .i64 0, .int .i64 0, .int .i64 0, .int .i64 0, .slice Option.none 0 0, .slice Option.none 0 0, .slice Option.none 0 0, .bool false] _ (fun i v hv => hSw.cell (hc i v hv) id) Try.underlying66 rfl (by kernel_rfl)⟩) hS0 rfl ?_
        try simp only [Act.put, List.setIfInBounds_toArray, List.set_cons_zero, List.set_cons_succ]
        refine pure_ (i := 4) (N := some 21) (v := .slice (some ⟨b', 0, Option.none⟩) l.length c') #[true, true, true, true, true, false, false, false, false, false] rfl rfl (by kernel_rfl) (fun _ _ _ h => h) (Or.inl ⟨wanted_none rfl, fun w => by rfl⟩) rfl ?_
        try simp only [Act.put, List.setIfInBounds_toArray, List.set_cons_zero, List.set_cons_succ]
        refine pure_ (i := 5) (N := some 22) (v := .int .i64 (k : Int)) #[true, true, true, true, true, true, false, false, false, false] rfl rfl (by kernel_rfl) (fun _ _ _ h => h) (Or.inl ⟨wanted_none rfl, fun w => by rfl⟩) rfl ?_
        try simp only [Act.put, List.setIfInBounds_toArray, List.set_cons_zero, List.set_cons_succ]
        refine pure_ (i := 6) (N := some 23) (v := .pointer (some ⟨b', k * 30, Option.none⟩)) #[true, true, true, true, true, true, true, false, false, false] rfl rfl (by kernel_rfl) (fun _ _ _ h => h) (Or.inl ⟨wanted_none rfl, fun w => by go_simp⟩) rfl ?_
        try simp only [Act.put, List.setIfInBounds_toArray, List.set_cons_zero, List.set_cons_succ]
        refine take_ (i := 7) (N := some 24) (v := .agg #[.int .i64 kind, .bool true, .int .i64 h.client, .bool false, .int .i64 x, .int .i64 h.op, .int .i64 round, .int .i64 h.k0, .int .i64 h.k1, .int .i64 h.k2, .int .i64 h.k3, .int .i64 s1, .int .i64 s2, .int .i64 0, .int .i64 0, .slice D' zs.length m', .int .i64 0, .int .i64 0, .int .i64 0, .string ⟨#[]⟩, .int .i64 0, .int .i64 0, .int .i64 0, .int .i64 0, .int .i64 0, .int .i64 0, .slice Option.none 0 0, .slice Option.none 0 0, .slice Option.none 0 0, .bool false]) #[true, true, true, true, true, true, true, true, false, false] rfl rfl (by kernel_rfl) (fun _ _ _ h => h) (Or.inl ⟨wanted_none rfl, by intro w' hSw; exact exec_load_mid 66 (.tmp 23) rfl b' (k * 30) rfl [.int .i64 kind, .bool true, .int .i64 h.client, .bool false, .int .i64 x, .int .i64 h.op, .int .i64 round, .int .i64 h.k0, .int .i64 h.k1, .int .i64 h.k2, .int .i64 h.k3, .int .i64 s1, .int .i64 s2, .int .i64 0, .int .i64 0, .slice D' zs.length m', .int .i64 0, .int .i64 0, .int .i64 0, .string ⟨#[]⟩, .int .i64 0, .int .i64 0, .int .i64 0, .int .i64 0, .int .i64 0, .int .i64 0, .slice Option.none 0 0, .slice Option.none 0 0, .slice Option.none 0 0, .bool false] _ (fun i v hv => hSw.cell (hc' i v hv) id) Try.underlying66 rfl (by kernel_rfl)⟩) hS0 rfl ?_
        try simp only [Act.put, List.setIfInBounds_toArray, List.set_cons_zero, List.set_cons_succ]
        refine one_ (i := 8) (oi := ({ dst := some 25, op := Op.call { callee := Callee.value (Operand.func 48), args := #[Operand.tmp 20, Operand.tmp 24], argTypes := #[66, 66] }, type := 4, pos := "law.go:76", after := #[{ on := 3, ground := Ground.data }, { on := 7, ground := Ground.data }], guard := Option.none } : Oper)) (N := some 25) #[true, true, true, true, true, true, true, true, true, false] rfl rfl (by kernel_rfl) (by decide) ?_
        intro KK hKK
        refine goes_ Try.func48 (by kernel_rfl) rfl #[.agg #[.int .i64 kind, .bool true, .int .i64 h.client, .bool false, .int .i64 x, .int .i64 h.op, .int .i64 round, .int .i64 h.k0, .int .i64 h.k1, .int .i64 h.k2, .int .i64 h.k3, .int .i64 s1, .int .i64 s2, .int .i64 0, .int .i64 0, .slice D zs.length m, .int .i64 0, .int .i64 0, .int .i64 0, .string ⟨#[]⟩, .int .i64 0, .int .i64 0, .int .i64 0, .int .i64 0, .int .i64 0, .int .i64 0, .slice Option.none 0 0, .slice Option.none 0 0, .slice Option.none 0 0, .bool false], .agg #[.int .i64 kind, .bool true, .int .i64 h.client, .bool false, .int .i64 x, .int .i64 h.op, .int .i64 round, .int .i64 h.k0, .int .i64 h.k1, .int .i64 h.k2, .int .i64 h.k3, .int .i64 s1, .int .i64 s2, .int .i64 0, .int .i64 0, .slice D' zs.length m', .int .i64 0, .int .i64 0, .int .i64 0, .string ⟨#[]⟩, .int .i64 0, .int .i64 0, .int .i64 0, .int .i64 0, .int .i64 0, .int .i64 0, .slice Option.none 0 0, .slice Option.none 0 0, .slice Option.none 0 0, .bool false]] (wanted_none rfl) rfl rfl (by simp [Act.eval]) ?_
        refine (samemsg_any kind true h.client false x h.op round h.k0 h.k1 h.k2 h.k3 s1 s2 0 0 zs 0 0 0 ⟨#[]⟩ 0 0 0 0 0 0 [] [] [] false D m Option.none 0 Option.none 0 Option.none 0 D' m' Option.none 0 Option.none 0 Option.none 0 _ (hD.grew hS0) (hD'.grew hS0) hz (Ents.nil _ _) (Ents.nil _ _) (Lass.nil _ _) (Lass.nil _ _) (by simp) (by simp) (Coms.nil _ _) (Coms.nil _ _) (by simp)).mono ?_
        rintro e wS ⟨rfl, hkS⟩
        refine ⟨_, rfl, hKK.out _ _ (hS0.trans hkS) (fun hS1 => ?_)⟩
        try simp only [Act.put, List.setIfInBounds_toArray, List.set_cons_zero, List.set_cons_succ]
        refine pure_ (i := 9) (N := some 26) (v := .bool false) #[true, true, true, true, true, true, true, true, true, true] rfl rfl (by kernel_rfl) (fun _ _ _ h => h) (Or.inl ⟨wanted_none rfl, fun w => by go_simp⟩) rfl ?_
        try simp only [Act.put, List.setIfInBounds_toArray, List.set_cons_zero, List.set_cons_succ]
        refine done_ (by kernel_rfl) ?_
        have hk6 := hK.trans hS1
        clear hS0 hKK
        go_wp2_with fail
        go_roundw
        case rel => exact ⟨k + 1, by omega, by go_num, hk6⟩
        case measure => simp [intOf]; omega
      · obtain rfl : k = l.length := by omega
        go_wp2
        go_ret
        exact ⟨rfl, hK⟩
end Go.Proofs.Ytcihfjfbcfgidaa
