/- The document's machine: Done, Begin, Tick. -/
import Derived.Test.YtcihfjfbcfgidaaRefM3
import Derived.Laws.ResultCell
namespace Go.Proofs.Ytcihfjfbcfgidaa
open Go.RowKit Go.Maps Go.Proofs.YtcihfjfbcfgidaaW.PrintLast
set_option linter.unusedVariables false

theorem results_rd (tmps : Array Value) (w : World) (k : Nat) (b : Bool) (cs : List Value) (hp : tmps.getD 2 undef = .pointer (some ⟨k, 0, Option.none⟩)) (hb : tmps.getD 3 undef = .bool b) (hc : Blk w k 46 cs) (hl : cs.length = 11) :
    (results Try.f41 tmps).run Try.prog w = .ok (.tuple #[.agg cs.toArray, .bool b]) w := by
  rw [results_cell_tmp Try.results41, hp, hb]
  have h1 : (asAddr (.pointer (some ⟨k, 0, Option.none⟩))).run Try.prog w = .ok ⟨k, 0, Option.none⟩ w := rfl
  rw [h1]
  simp only [Result.andThen_ok, run_loadVar_row w k 46 46 cs.toArray (0, 0) _ hc.raw Try.underlying46 rfl (sizeRes (by simpa using hl))]

theorem wpList_store_res {ops : Array Oper} {rest : List Oper} {o : Oper} {a : Act} {w : World} {Q : Exit → Act → World → Prop} (hgd : o.guard = Option.none) (x y : Operand) (ho : o.op = .store 46 x y) (g : Nat) (cs cs0 : List Value) (hx : a.eval x = .pointer (some ⟨g, 0, Option.none⟩)) (hy : a.eval y = .agg cs.toArray) (hB : Blk w g 46 cs0) (hl0 : cs0.length = 11) (hl : cs.length = 11) (h1 : cs.toArray.all (·.oneCell') = true)
    (h : wpList Try.prog ops Q rest (a.put o.dst undef) (w.setRow g cs.toArray)) : wpList Try.prog ops Q (o :: rest) a w :=
  wpList_store_row hgd _ x y ho g cs.toArray hx hy _ _ hB.raw (sizeRes (by simpa using hl)) (by simpa using hl0.trans hl.symm) h1 h

def RDoneRaw (h : Hd) (B : Option Addr) (bn bc : Nat) (p t1 t2 err : Int) (w : World) (e : Ending) (w' : World) : Prop := Keeps None w w' ∧
  ((p ≠ 3 ∧ e = .returned (.tuple #[resultZ, .bool false])) ∨ (p = 3 ∧ err ≠ 0 ∧ e = .returned (.tuple #[.agg (resCells err (0, 0) (.slice Option.none 0 0)).toArray, .bool true])) ∨
    (p = 3 ∧ err = 0 ∧ e = .returned (.tuple #[.agg (resCells 0 (t1, t2) (if h.wr then .slice Option.none 0 0 else .slice B bn bc)).toArray, .bool true])))
set_option maxRecDepth 100000 in
set_option maxHeartbeats 1600000 in
theorem refdone_raw (r : Nat) (h : Hd) (rsz round : Int) (gv : Value) (B : Option Addr) (bn bc : Nat) (p : Int) (av vv : Value) (t1 t2 err : Int) (w : World)
    (hB : Blk w r 86 (rcells h rsz gv round (.slice B bn bc) p av vv t1 t2 err)) :
    Calls Try.prog 41 #[.pointer (some ⟨r, 0, Option.none⟩)] w (RDoneRaw h B bn bc p t1 t2 err w) := by
  obtain ⟨z, hz⟩ : ∃ z, z = w.heap.size := ⟨_, rfl⟩
  obtain ⟨W1, hW1⟩ : ∃ W, W = w.alloc (.cells #[.int .i64 0, .string ⟨#[]⟩, .int .i64 0, .int .i64 0, .int .i64 0, .slice Option.none 0 0, .slice Option.none 0 0, .int .i64 0, .int .i64 0, .int .i64 0, .int .i64 0] 46) := ⟨_, rfl⟩
  have kW1 : Keeps None w W1 := by rw [hW1]; exact (Keeps.refl _ _).alloc _
  have hZ : Blk W1 z 46 [.int .i64 0, .string ⟨#[]⟩, .int .i64 0, .int .i64 0, .int .i64 0, .slice Option.none 0 0, .slice Option.none 0 0, .int .i64 0, .int .i64 0, .int .i64 0, .int .i64 0] := by rw [hW1, hz]; exact Blk.new _ _ _
  have hB1 := hB.grew kW1
  have m11 := hB1.cell 11 _ rfl
  have m16 := hB1.cell 16 _ rfl
  have m0 := hB1.cell 0 _ rfl
  have m14 := hB1.cell 14 _ rfl
  have m15 := hB1.cell 15 _ rfl
  have m10 := hB1.cell 10 _ rfl
  go_enter Try.func41, Try.ntmps41
  go_upto_region 1 with (fail)
  rw [← hW1, ← hz]
  have hzw : w.heap.size ≤ z := by omega
  clear hW1 hz
  by_cases hp : p = 3
  · obtain ⟨ta, tb⟩ := test_eq hp
    by_cases he : err = 0
    · obtain ⟨tc, td⟩ := test_eq he
      go_upto_region 6 with (fail)
      clear ta tb tc td
      obtain ⟨x, hx⟩ : ∃ x, x = W1.heap.size := ⟨_, rfl⟩
      obtain ⟨W2, hW2⟩ : ∃ W, W = W1.alloc (.cells #[.int .i64 0, .string ⟨#[]⟩, .int .i64 0, .int .i64 0, .int .i64 0, .slice Option.none 0 0, .slice Option.none 0 0, .int .i64 0, .int .i64 t1, .int .i64 t2, .int .i64 0] 46) := ⟨_, rfl⟩
      have kW2 : Keeps None W1 W2 := by rw [hW2]; exact (Keeps.refl _ _).alloc _
      have hX : Blk W2 x 46 [.int .i64 0, .string ⟨#[]⟩, .int .i64 0, .int .i64 0, .int .i64 0, .slice Option.none 0 0, .slice Option.none 0 0, .int .i64 0, .int .i64 t1, .int .i64 t2, .int .i64 0] := by rw [hW2, hx]; exact Blk.new _ _ _
      rw [← hW2, ← hx]
      have hxge : W1.heap.size ≤ x := by omega
      clear hW2 hx
      have hZ2 := hZ.grew kW2
      have hB2 := hB1.grew kW2
      have m0 := hB2.cell 0 _ rfl
      have m10 := hB2.cell 10 _ rfl
      have x6 := hX.cell 6 _ rfl
      have f6 := hX.free 6
      have hzx : z ≠ x := by have := hZ.lt; omega
      obtain ⟨b, hb⟩ : ∃ b, b = h.wr := ⟨_, rfl⟩
      rw [← hb] at m0
      have HW := Lib.hid hb
      have HP := Lib.hid hp
      have HE := Lib.hid he
      clear hb hp he m11 m14 m15 m16
      cases b with
      | true =>
        go_upto_region 8 with (fail)
        go_wp2_with (first | (refine wpList_load_mid rfl 46 (.tmp 4) rfl x 0 rfl [.int .i64 0, .string ⟨#[]⟩, .int .i64 0, .int .i64 0, .int .i64 0, .slice Option.none 0 0, .slice Option.none 0 0, .int .i64 0, .int .i64 t1, .int .i64 t2, .int .i64 0] _ (fun j v hv => by rw [Nat.zero_add]; exact hX.cell j v hv) Try.underlying46 rfl (sizeRes (cs := #[.int .i64 0, .string ⟨#[]⟩, .int .i64 0, .int .i64 0, .int .i64 0, .slice Option.none 0 0, .slice Option.none 0 0, .int .i64 0, .int .i64 t1, .int .i64 t2, .int .i64 0]) rfl) ?_) | (refine wpList_store_res rfl (.tmp 2) (.tmp 36) rfl z [.int .i64 0, .string ⟨#[]⟩, .int .i64 0, .int .i64 0, .int .i64 0, .slice Option.none 0 0, .slice Option.none 0 0, .int .i64 0, .int .i64 t1, .int .i64 t2, .int .i64 0] _ rfl rfl hZ2 rfl rfl (by simp [Value.oneCell']) ?_))
        refine bodyPost_ret (results_rd _ _ z true [.int .i64 0, .string ⟨#[]⟩, .int .i64 0, .int .i64 0, .int .i64 0, .slice Option.none 0 0, .slice Option.none 0 0, .int .i64 0, .int .i64 t1, .int .i64 t2, .int .i64 0] rfl rfl (hZ2.setRow [.int .i64 0, .string ⟨#[]⟩, .int .i64 0, .int .i64 0, .int .i64 0, .slice Option.none 0 0, .slice Option.none 0 0, .int .i64 0, .int .i64 t1, .int .i64 t2, .int .i64 0]) rfl) rfl ⟨(kW1.trans kW2).andThen ((Keeps.refl (One z) _).setRow _ _ (fun _ => rfl)) (fun i hi e => by simp only [One] at e; omega), .inr (.inr ⟨HP.out, HE.out, by rw [← HW.out]; rfl⟩)⟩
      | false =>
        go_upto_region 8 with (fail)
        have hX3 : Blk (W2.setCell ⟨x, 6, Option.none⟩ (.slice B bn bc)) x 46 [.int .i64 0, .string ⟨#[]⟩, .int .i64 0, .int .i64 0, .int .i64 0, .slice Option.none 0 0, .slice B bn bc, .int .i64 0, .int .i64 t1, .int .i64 t2, .int .i64 0] := hX.set 6 (.slice B bn bc)
        have k3 : Keeps (One x) W2 (W2.setCell ⟨x, 6, Option.none⟩ (.slice B bn bc)) := (Keeps.refl (One x) W2).setCell ⟨x, 6, Option.none⟩ _ (fun _ => rfl)
        have hZ3 := hZ2.keeps k3 hzx
        obtain ⟨W3, hW3⟩ : ∃ W, W = W2.setCell ⟨x, 6, Option.none⟩ (.slice B bn bc) := ⟨_, rfl⟩
        rw [← hW3] at hX3 k3 hZ3
        rw [← hW3]
        clear hW3
        go_wp2_with (first | (refine wpList_load_mid rfl 46 (.tmp 4) rfl x 0 rfl [.int .i64 0, .string ⟨#[]⟩, .int .i64 0, .int .i64 0, .int .i64 0, .slice Option.none 0 0, .slice B bn bc, .int .i64 0, .int .i64 t1, .int .i64 t2, .int .i64 0] _ (fun j v hv => by rw [Nat.zero_add]; exact hX3.cell j v hv) Try.underlying46 rfl (sizeRes (cs := #[.int .i64 0, .string ⟨#[]⟩, .int .i64 0, .int .i64 0, .int .i64 0, .slice Option.none 0 0, .slice B bn bc, .int .i64 0, .int .i64 t1, .int .i64 t2, .int .i64 0]) rfl) ?_) | (refine wpList_store_res rfl (.tmp 2) (.tmp 36) rfl z [.int .i64 0, .string ⟨#[]⟩, .int .i64 0, .int .i64 0, .int .i64 0, .slice Option.none 0 0, .slice B bn bc, .int .i64 0, .int .i64 t1, .int .i64 t2, .int .i64 0] _ rfl rfl hZ3 rfl rfl (by simp [Value.oneCell']) ?_))
        refine bodyPost_ret (results_rd _ _ z true [.int .i64 0, .string ⟨#[]⟩, .int .i64 0, .int .i64 0, .int .i64 0, .slice Option.none 0 0, .slice B bn bc, .int .i64 0, .int .i64 t1, .int .i64 t2, .int .i64 0] rfl rfl (hZ3.setRow [.int .i64 0, .string ⟨#[]⟩, .int .i64 0, .int .i64 0, .int .i64 0, .slice Option.none 0 0, .slice B bn bc, .int .i64 0, .int .i64 t1, .int .i64 t2, .int .i64 0]) rfl) rfl ⟨((kW1.trans kW2).andThen k3 (fun i hi e => by simp only [One] at e; have := kW1.size; omega)).andThen ((Keeps.refl (One z) _).setRow _ _ (fun _ => rfl)) (fun i hi e => by simp only [One] at e; omega), .inr (.inr ⟨HP.out, HE.out, by rw [← HW.out]; rfl⟩)⟩
    · obtain ⟨tc, td⟩ := test_ne he
      go_upto_region 4 with (fail)
      clear ta tb tc td
      have HP := Lib.hid hp
      have HE := Lib.hid he
      clear hp he
      go_wp2_with (refine wpList_store_res rfl (.tmp 2) (.tmp 20) rfl z [.int .i64 err, .string ⟨#[]⟩, .int .i64 0, .int .i64 0, .int .i64 0, .slice Option.none 0 0, .slice Option.none 0 0, .int .i64 0, .int .i64 0, .int .i64 0, .int .i64 0] _ rfl rfl hZ rfl rfl (by simp [Value.oneCell']) ?_)
      refine bodyPost_ret (results_rd _ _ z true [.int .i64 err, .string ⟨#[]⟩, .int .i64 0, .int .i64 0, .int .i64 0, .slice Option.none 0 0, .slice Option.none 0 0, .int .i64 0, .int .i64 0, .int .i64 0, .int .i64 0] rfl rfl (hZ.setRow [.int .i64 err, .string ⟨#[]⟩, .int .i64 0, .int .i64 0, .int .i64 0, .slice Option.none 0 0, .slice Option.none 0 0, .int .i64 0, .int .i64 0, .int .i64 0, .int .i64 0]) rfl) rfl ⟨kW1.andThen ((Keeps.refl (One z) _).setRow _ _ (fun _ => rfl)) (fun i hi e => by simp only [One] at e; omega), .inr (.inl ⟨HP.out, HE.out, rfl⟩)⟩
  · obtain ⟨ta, tb⟩ := test_ne hp
    go_upto_region 2 with (fail)
    clear ta tb
    have HP := Lib.hid hp
    clear hp
    go_wp2_with (refine wpList_store_res rfl (.tmp 2) (.tmp 10) rfl z [.int .i64 0, .string ⟨#[]⟩, .int .i64 0, .int .i64 0, .int .i64 0, .slice Option.none 0 0, .slice Option.none 0 0, .int .i64 0, .int .i64 0, .int .i64 0, .int .i64 0] _ rfl rfl hZ rfl rfl (by simp [Value.oneCell']) ?_)
    refine bodyPost_ret (results_rd _ _ z false [.int .i64 0, .string ⟨#[]⟩, .int .i64 0, .int .i64 0, .int .i64 0, .slice Option.none 0 0, .slice Option.none 0 0, .int .i64 0, .int .i64 0, .int .i64 0, .int .i64 0] rfl rfl (hZ.setRow [.int .i64 0, .string ⟨#[]⟩, .int .i64 0, .int .i64 0, .int .i64 0, .slice Option.none 0 0, .slice Option.none 0 0, .int .i64 0, .int .i64 0, .int .i64 0, .int .i64 0]) rfl) rfl ⟨kW1.andThen ((Keeps.refl (One z) _).setRow _ _ (fun _ => rfl)) (fun i hi e => by simp only [One] at e; omega), .inl ⟨HP.out, rfl⟩⟩
theorem refdone_any (base r : Nat) (Z W : Nat → Prop) (h : Hd) (round : Int) (ph : Ph) (w : World) (hM : RMach w base Z W r h round ph) :
    Calls Try.prog 41 #[.pointer (some ⟨r, 0, Option.none⟩)] w fun e w' => ∃ u, e = .returned (doneV h ph u) ∧ Keeps None w w' ∧ ∃ A c, u = .slice A (doneD ph).length c ∧ Nums .u8 w A (doneD ph) := by
  obtain ⟨gv, rsz, bv, p, av, vv, t1, t2, err, hB, hG, hgz, hrs, hA, ⟨B, bn, bc, rfl⟩, ⟨av1, av2, av3, rfl⟩, ⟨vv1, vv2, vv3, rfl⟩⟩ := hM.out
  refine (refdone_raw r h rsz round gv B bn bc p _ _ t1 t2 err w hB).mono ?_
  rintro e w' ⟨hk, hd⟩
  cases ph with
  | fresh =>
    obtain ⟨rfl, -⟩ := hA
    rcases hd with ⟨-, rfl⟩ | ⟨h1, -⟩ | ⟨h1, -⟩
    · exact ⟨.slice Option.none 0 0, rfl, hk, Option.none, 0, rfl, Nums.nil _ _ _⟩
    · exact absurd h1 (by decide)
    · exact absurd h1 (by decide)
  | asking qs =>
    obtain ⟨rfl, -⟩ := hA
    rcases hd with ⟨-, rfl⟩ | ⟨h1, -⟩ | ⟨h1, -⟩
    · exact ⟨.slice Option.none 0 0, rfl, hk, Option.none, 0, rfl, Nums.nil _ _ _⟩
    · exact absurd h1 (by decide)
    · exact absurd h1 (by decide)
  | laying ss tag ds =>
    obtain ⟨rfl, -⟩ := hA
    rcases hd with ⟨-, rfl⟩ | ⟨h1, -⟩ | ⟨h1, -⟩
    · exact ⟨.slice Option.none 0 0, rfl, hk, Option.none, 0, rfl, Nums.nil _ _ _⟩
    · exact absurd h1 (by decide)
    · exact absurd h1 (by decide)
  | ended er tag ds =>
    obtain ⟨rfl, rfl, h0, h4⟩ := hA
    rcases hd with ⟨h1, -⟩ | ⟨-, h1, rfl⟩ | ⟨-, rfl, rfl⟩
    · exact absurd rfl h1
    · obtain ⟨-, rfl, rfl⟩ := h4 h1
      exact ⟨.slice Option.none 0 0, rfl, hk, Option.none, 0, rfl, Nums.nil _ _ _⟩
    · obtain ⟨rfl, rfl, h2, h3⟩ := h0 rfl
      cases hw : h.wr with
      | true =>
        obtain rfl := h2 hw
        exact ⟨.slice Option.none 0 0, rfl, hk, Option.none, 0, rfl, Nums.nil _ _ _⟩
      | false =>
        obtain ⟨A, c, e1, e2, -, -⟩ := h3 hw
        exact ⟨_, rfl, hk, A, c, e1, e2⟩

/-- What told tells, as it is looked at. -/
theorem told_see {w : World} {h : Hd} {base : Nat} {kind round s1 s2 : Int} {u : Value} {l : List Int} {D : Option Addr} {dc : Nat} {zs : List Int} (hown : w.ownsRow base 66 30 u l.length (tellsCells kind h.client h.op round h.k0 h.k1 h.k2 h.k3 s1 s2 (l.map fun x => (x, .slice D zs.length dc)))) (hD : Nums .u8 w D zs) (hz : zs.length ≤ MB) :
    See w h u (.msgs kind round (s1, s2) zs l) := by
  have hlen : (l.map fun x => ((x, .slice D zs.length dc) : Int × Value)).length = l.length := List.length_map _
  obtain ⟨A, c, e, hc⟩ := own_cells (by rw [hlen]; exact hown)
  rw [hlen] at e
  refine ⟨A, c, e, hz, fun j x hx => ?_⟩
  obtain ⟨b, hA, -, hcc⟩ := hc j (x, .slice D zs.length dc) (by rw [List.getElem?_map, hx]; rfl)
  exact ⟨b, D, dc, hA, hD, hcc⟩

theorem Dat.grew {P : Nat → Prop} {w w' : World} {v : Value} {ds : List Int} (h : Dat w P v ds) (hk : Keeps None w w') : Dat w' P v ds := h.keeps hk (fun _ _ => id)
theorem RMach.same {w w' : World} {base : Nat} {Z W : Nat → Prop} {r : Nat} {h : Hd} {round : Int} {ph : Ph} {out : OutS} {u : Value} (hM : RMach w base Z W r h round ph) (hk : Keeps None w w') (ho : See w' h u out) : RStep w base Z W r h round ph out (.returned u) w' :=
  ⟨Z, W, u, rfl, hM.grew hk, ho, fun _ e => e, fun _ e => .inl e, hk.of_none⟩

set_option maxRecDepth 100000 in
set_option maxHeartbeats 1600000 in
theorem reftick_any (base r : Nat) (Z W : Nat → Prop) (h : Hd) (round : Int) (ph : Ph) (w : World) (hM : RMach w base Z W r h round ph) :
    Calls Try.prog 26 #[.pointer (some ⟨r, 0, Option.none⟩)] w (RStep w base Z W r h round ph (tickF h round ph)) := by
  obtain ⟨gv, rsz, bv, p, av, vv, t1, t2, err, hB, hG, hgz, hrs, hA, ⟨B, bn, bc, rfl⟩, ⟨av1, av2, av3, rfl⟩, ⟨vv1, vv2, vv3, rfl⟩⟩ := hM.out
  have hgl := hM.ok.grp
  have m11 := hB.cell 11 _ rfl
  cases ph with
  | fresh =>
    obtain ⟨rfl, -⟩ := hA
    go_enter Try.func26, Try.ntmps26
    go_wp2_with fail
    go_ret
    exact hM.same (Keeps.refl _ _) rfl
  | ended er tag ds =>
    obtain ⟨rfl, -⟩ := hA
    go_enter Try.func26, Try.ntmps26
    go_wp2_with fail
    go_ret
    exact hM.same (Keeps.refl _ _) rfl
  | asking qs =>
    obtain ⟨rfl, ⟨ab, vb, hav, hvv, -, -, -, -, -, hab, -⟩, -⟩ := hA
    cases hav
    cases hvv
    go_enter Try.func26, Try.ntmps26
    go_wp2_with fail
    refine (reftold_any r h rsz round gv _ 1 _ t1 t2 err ab (fun s => (lookA qs s).isSome) 1 0 0 Option.none 0 0 w hB base hG hgl hab (.inl ⟨rfl, rfl, rfl, rfl, rfl⟩)).mono ?_
    rintro e w' ⟨u, rfl, hu, hk⟩
    go_wp2_with fail
    go_ret
    exact hM.same hk (told_see (zs := []) hu (Nums.nil _ _ _) (by simp))
  | laying ss tag ds =>
    obtain ⟨rfl, rfl, rfl, ⟨ab, vb, hav, hvv, -, -, -, -, -, hab, -⟩, ⟨D, dc, hd1, hd2, -, hd4⟩, -⟩ := hA
    cases hav
    cases hvv
    cases hd1
    go_enter Try.func26, Try.ntmps26
    go_wp2_with fail
    refine (reftold_any r h rsz round gv _ 2 _ tag.1 tag.2 err ab (fun s => decide (s ∈ ss)) 2 tag.1 tag.2 B ds.length bc w hB base hG hgl hab (.inr ⟨rfl, rfl, rfl, rfl, rfl⟩)).mono ?_
    rintro e w' ⟨u, rfl, hu, hk⟩
    go_wp2_with fail
    go_ret
    exact hM.same hk (told_see hu (hd2.grew hk) hd4)

theorem Rd.more {base : Nat} {Z W Z' W' : Nat → Prop} (hZ : ∀ b, Z b → Z' b) (n : Nat) (hlt : ∀ b, (b < base ∨ Z b) → b < n) (hW : ∀ b, W' b → W b ∨ n ≤ b) : ∀ b, Rd base Z W b → Rd base Z' W' b := fun b hb =>
  ⟨hb.1.imp id (hZ b), fun f => (hW b f).elim hb.2 (fun k => by have := hlt b hb.1; omega)⟩
/-- The blocks of a new round come to those that it owns and writes. -/
theorem newRound {w w' : World} {r : Nat} {h : Hd} {rsz round : Int} {gv bv : Value} {p t1 t2 err : Int} {e : Ending} {base : Nat} {Z W : Nat → Prop} (hF : FreshEnd r h rsz round gv bv p t1 t2 err w e w') (hr : W r) (hW : ∀ b, W b → Z b) (hZ : ∀ b, Z b → base ≤ b ∧ b < w.heap.size) :
    ∃ Z' W', (∀ b, Z b → Z' b) ∧ (∀ b, Z' b → Z b ∨ w.heap.size ≤ b) ∧ (∀ b, W b → W' b) ∧ (∀ b, W' b → W b ∨ w.heap.size ≤ b) ∧ (∀ b, W' b → Z' b) ∧ (∀ b, Z' b → base ≤ b ∧ b < w'.heap.size) ∧ (∀ b, Rd base Z W b → Rd base Z' W' b) ∧
      Arr w' (Rd base Z' W') W' r h.grp.length (.slice (some ⟨w.heap.size, 0, Option.none⟩) h.grp.length h.grp.length) (.slice (some ⟨w.heap.size + 1, 0, Option.none⟩) h.grp.length h.grp.length) (List.replicate h.grp.length (.bool false)) (fun _ => Option.none) := by
  obtain ⟨-, -, h1, h2, h3, hk⟩ := hF
  have hrr := hZ r (hW r hr)
  refine ⟨fun b => Z b ∨ b = w.heap.size ∨ b = w.heap.size + 1, fun b => W b ∨ b = w.heap.size ∨ b = w.heap.size + 1, fun b e => .inl e, fun b e => e.imp id (fun f => by omega), fun b e => .inl e, fun b e => e.imp id (fun f => by omega), fun b e => e.imp (hW b) id, fun b e => ?_, ?_, ?_⟩
  · rcases e with e | e
    · have := hZ b e; have := hk.size; omega
    · omega
  · refine Rd.more (fun b e => .inl e) w.heap.size (fun b e => ?_) (fun b e => e.imp id (fun f => by omega))
    rcases e with e | e
    · omega
    · exact (hZ b e).2
  · exact ⟨_, _, rfl, rfl, .inr (.inl rfl), .inr (.inr rfl), by omega, by omega, by omega, h1, h3, h2, fun i st ds hi e => by cases e⟩
theorem look_nilA (s : Int) : lookA [] s = Option.none := rfl
theorem map_const (l : List Int) (F : Int → Bool) (hF : ∀ s, F s = false) : (l.map fun s => Value.bool (F s)) = List.replicate l.length (.bool false) := by
  induction l with
  | nil => rfl
  | cons x l ih => rw [List.map_cons, hF x, ih]; rfl
theorem filter_all (l : List Int) (F : Int → Bool) (hF : ∀ s, F s = false) : (l.filter fun s => !F s) = l := by
  rw [List.filter_eq_self]
  intro a _
  rw [hF a]
  rfl

set_option maxRecDepth 100000 in
set_option maxHeartbeats 1600000 in
theorem refbegin_any (base r : Nat) (Z W : Nat → Prop) (h : Hd) (round : Int) (ph : Ph) (w : World) (hM : RMach w base Z W r h round ph) :
    Calls Try.prog 24 #[.pointer (some ⟨r, 0, Option.none⟩)] w (RStep w base Z W r h (beginF h round ph).1 (beginF h round ph).2.1 (beginF h round ph).2.2) := by
  obtain ⟨gv, rsz, bv, p, av, vv, t1, t2, err, hB, hG, hgz, hrs, hA, ⟨B, bn, bc, rfl⟩, ⟨av1, av2, av3, rfl⟩, ⟨vv1, vv2, vv3, rfl⟩⟩ := hM.out
  have hgl := hM.ok.grp
  have m11 := hB.cell 11 _ rfl
  have hlate : p ≠ 0 → Calls Try.prog 24 #[.pointer (some ⟨r, 0, Option.none⟩)] w fun e w' => e = .returned (.slice Option.none 0 0) ∧ w' = w := fun hp => by
    obtain ⟨ta, tb⟩ := test_ne hp
    go_enter Try.func24, Try.ntmps24
    go_wp2_with fail
    go_ret
    exact ⟨rfl, rfl⟩
  cases ph with
  | asking qs =>
    obtain ⟨rfl, -⟩ := hA
    exact (hlate (by decide)).mono fun e w' ⟨h1, h2⟩ => by rw [h1, h2]; exact hM.same (Keeps.refl _ _) rfl
  | laying ss tag ds =>
    obtain ⟨rfl, -⟩ := hA
    exact (hlate (by decide)).mono fun e w' ⟨h1, h2⟩ => by rw [h1, h2]; exact hM.same (Keeps.refl _ _) rfl
  | ended er tag ds =>
    obtain ⟨rfl, -⟩ := hA
    exact (hlate (by decide)).mono fun e w' ⟨h1, h2⟩ => by rw [h1, h2]; exact hM.same (Keeps.refl _ _) rfl
  | fresh =>
    obtain ⟨rfl, hdat⟩ := hA
    clear hlate
    have m8 := hB.cell 8 _ rfl
    by_cases hr : 1 ≤ round ∧ round ≤ 1099511627776
    · simp only [beginF, if_pos hr]
      obtain ⟨hr1, hr2⟩ := hr
      have f11 := hB.free 11
      have hB1 : Blk (w.setCell ⟨r, 11, Option.none⟩ (.int .i64 1)) r 86 (rcells h rsz gv round (.slice B bn bc) 1 (.slice av1 av2 av3) (.slice vv1 vv2 vv3) t1 t2 err) := hB.set 11 (.int .i64 1)
      have k1 : Keeps (One r) w (w.setCell ⟨r, 11, Option.none⟩ (.int .i64 1)) := (Keeps.refl (One r) w).setCell ⟨r, 11, Option.none⟩ _ (fun _ => rfl)
      have hgr : ∀ b, gv.ownBlock = some b → b ≠ r := fun b e f => (hgz b e).2 (f ▸ hM.r)
      have hG1 := hG.keeps k1 (fun b e f => hgr b e f)
      have hs1 : (w.setCell ⟨r, 11, Option.none⟩ (.int .i64 1)).heap.size = w.heap.size := by simp
      obtain ⟨W1, hW1⟩ : ∃ W, W = w.setCell ⟨r, 11, Option.none⟩ (.int .i64 1) := ⟨_, rfl⟩
      rw [← hW1] at hB1 k1 hG1 hs1
      go_enter Try.func24, Try.ntmps24
      go_upto_region 6 with (fail)
      rw [← hW1]
      clear hW1 m11 m8 f11
      go_wp2_with fail
      refine (reffresh_any r h rsz round gv _ 1 _ _ t1 t2 err W1 hB1 base hG1 hgl).mono ?_
      rintro e w2 hF
      have he := hF.1
      subst he
      obtain ⟨-, hB2, -, -, -, hk2⟩ := id hF
      obtain ⟨Z', W', z1, z2, z3, z4, z5, z6, z7, hArr⟩ := newRound hF hM.r hM.W (fun b e => by rw [hs1]; exact hM.Z b e)
      have hG2 := hG1.keeps hk2 (fun b e f => hgr b e f)
      obtain ⟨ab, vb, hav, hvv, b3, b4, b5, b6, b7, hab, hva⟩ := id hArr
      cases hav
      cases hvv
      have hab2 : Blk w2 W1.heap.size 4 (h.grp.map fun s => .bool ((fun _ => false) s)) := by rw [map_const _ _ (fun _ => rfl)]; exact hab
      have k12 : Keeps (One r) w w2 := k1.trans hk2
      go_wp2_with fail
      refine (reftold_any r h rsz round gv _ 1 _ t1 t2 err W1.heap.size (fun _ => false) 1 0 0 Option.none 0 0 w2 hB2 base hG2 hgl hab2 (.inl ⟨rfl, rfl, rfl, rfl, rfl⟩)).mono ?_
      rintro e w3 ⟨u, rfl, hu, hk3⟩
      rw [filter_all _ _ (fun _ => rfl)] at hu
      go_wp2_with fail
      go_ret
      refine ⟨Z', W', u, rfl, ⟨⟨gv, rsz, .slice B bn bc, 1, _, _, t1, t2, err, hB2.grew hk3, hG2.grew hk3, fun b e => ⟨z1 b (hgz b e).1, fun f => (z4 b f).elim (hgz b e).2 (fun k => by have := (hM.Z b (hgz b e).1).2; omega)⟩, hrs, ⟨rfl, ?_, fun e => ?_, ⟨by simp, fun q hq => by simp at hq, by unfold Hd.need; simp; omega⟩, hr1, hr2⟩, ⟨_, _, _, rfl⟩, ⟨_, _, _, rfl⟩, ⟨_, _, _, rfl⟩⟩, z3 _ hM.r, z5, fun b e => ⟨(z6 b e).1, Nat.lt_of_lt_of_le (z6 b e).2 hk3.size⟩, hM.ok⟩, told_see (zs := []) hu (Nums.nil _ _ _) (by simp), z1, fun b e => by rw [← hs1]; exact z2 b e, (k12.mono (fun b _ e => e ▸ hM.r)).trans hk3.of_none⟩
      · have hR := hArr.keeps hk3 (fun _ _ => id) (fun _ _ => id)
        rw [map_const _ _ (fun s => by rw [look_nilA]; rfl)]
        rwa [show ansF h [] = fun _ => Option.none from by funext i; unfold ansF; cases h.grp[i]? <;> rfl]
      · exact (((hdat e).keeps k12 (fun b hb f => hb.2 (f ▸ hM.r))).grew hk3).mono z7
    · simp only [beginF, if_neg hr]
      have HR := Lib.hid hr
      by_cases hr1 : round < 1
      case' pos =>
        have hr2 : True := trivial
        clear hr
        go_enter Try.func24, Try.ntmps24
        go_wp2_with fail
      case' neg =>
        have hr2 : 1099511627776 < round := by omega
        clear hr
        go_enter Try.func24, Try.ntmps24
        go_wp2_with fail
      all_goals
        refine (refend_any r h rsz round gv _ 0 _ _ t1 t2 err 4 w hB).mono ?_
        rintro e w2 ⟨rfl, hB2, hk2⟩
        go_wp2_with fail
        go_ret
        have kW := hk2.mono (T := W) (fun b _ e => e ▸ hM.r)
        exact ⟨Z, W, _, rfl, ⟨⟨gv, rsz, _, 3, _, _, t1, t2, 4, hB2, hG.keeps hk2 (fun b e f => (hgz b e).2 (f ▸ hM.r)), hgz, hrs, ⟨rfl, rfl, fun e => absurd e (by decide), fun _ => ⟨rfl, rfl, rfl⟩⟩, ⟨_, _, _, rfl⟩, ⟨_, _, _, rfl⟩, ⟨_, _, _, rfl⟩⟩, hM.r, hM.W, fun b e => ⟨(hM.Z b e).1, Nat.lt_of_lt_of_le (hM.Z b e).2 hk2.size⟩, hM.ok⟩, rfl, fun _ e => e, fun _ e => .inl e, kW⟩
end Go.Proofs.Ytcihfjfbcfgidaa
