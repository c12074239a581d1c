/- The document's net (cairnref16): its state; Pair and place. -/
import Derived.Test.YtcplogdaepmpnaaCountsState
namespace Go.Proofs.Ytcplogdaepmpnaa
open Go.RowKit

structure Rn (w : World) (r base : Nat) (v u : Value) (L : Way) (S : List Ad) : Prop where
  blk : Blk w r 48 [v, u]
  row : w.ownsRow base 33 6 v L.length L.cells
  sent : w.ownsRow base 27 2 u S.length (Ads.cells S)
  hr : base ≤ r
  data : ∀ x ∈ L, ∃ A c, x.1.dv = .slice A x.2.length c
def MineR (r : Nat) (v u : Value) : Nat → Prop := fun k => k = r ∨ v.ownBlock = some k ∨ u.ownBlock = some k
/-- What a value owns it owned before, or it is new. -/
def NewL (v v' : Value) (w : World) : Prop := ∀ b, v'.ownBlock = some b → v.ownBlock = some b ∨ w.heap.size ≤ b
section
variable {w w' : World} {r base : Nat} {v u : Value} {L : Way} {S : List Ad}
theorem Rn.keeps {T : Nat → Prop} (h : Rn w r base v u L S) (hk : Keeps T w w') (hT : ∀ b, MineR r v u b → ¬ T b) : Rn w' r base v u L S :=
  ⟨h.blk.keeps hk (hT r (.inl rfl)), owns_keeps h.row hk (fun b hb => hT b (.inr (.inl hb))), owns_keeps h.sent hk (fun b hb => hT b (.inr (.inr hb))), h.hr, h.data⟩
theorem Rn.grew (h : Rn w r base v u L S) (hk : Keeps None w w') : Rn w' r base v u L S := h.keeps hk (fun _ _ f => f)
theorem Rn.mine_ge (h : Rn w r base v u L S) : ∀ b, MineR r v u b → base ≤ b := fun b hb => by
  have := h.hr
  rcases hb with e | e | e
  · omega
  · exact (World.ownsRow.lt h.row b e).1
  · exact (World.ownsRow.lt h.sent b e).1
theorem Rn.mine_lt (h : Rn w r base v u L S) : ∀ b, MineR r v u b → b < w.heap.size := fun b hb => by
  rcases hb with e | e | e
  · rw [e]; exact h.blk.lt
  · exact (World.ownsRow.lt h.row b e).2
  · exact (World.ownsRow.lt h.sent b e).2
end

theorem pairsF_snoc (L : Way) (x : Pk × List Int) (p : Pr) : pairsF (L ++ [x]) p = pairsF L p + (if x.1.pair = p then 1 else 0) := pairs_snoc L x p
theorem pairsF_le (L : Way) (p : Pr) : pairsF L p ≤ L.length := List.countP_le_length

set_option maxRecDepth 100000 in
set_option maxHeartbeats 4000000 in
theorem rpair_any {r base : Nat} {v u : Value} {L : Way} {S : List Ad} (a b : Ad) (w : World) (hR : Rn w r base v u L S) (hn : L.length ≤ 1099511627776) :
    Calls Try.prog 39 #[.pointer (some ⟨r, 0, Option.none⟩), adV a, adV b] w fun e w' => e = .returned (.int .i64 (pairsF L (a, b) : Int)) ∧ Keeps None w w' := by
  obtain ⟨a1, a2⟩ := a
  obtain ⟨b1, b2⟩ := b
  obtain ⟨Av, cv, rfl⟩ := owns_slice hR.row
  simp only [adV]
  have k0 := ((Keeps.refl None w).alloc (.cells #[.bool a1, .int .i64 a2] 27)).alloc (.cells #[.bool b1, .int .i64 b2] 27)
  have hB1 := (Blk.new w 27 [.bool a1, .int .i64 a2]).alloc (.cells #[.bool b1, .int .i64 b2] 27)
  have hB2 : Blk ((w.alloc (.cells #[.bool a1, .int .i64 a2] 27)).alloc (.cells #[.bool b1, .int .i64 b2] 27)) (w.heap.size + 1) 27 [.bool b1, .int .i64 b2] := by
    have := Blk.new (w.alloc (.cells #[.bool a1, .int .i64 a2] 27)) 27 [.bool b1, .int .i64 b2]
    simpa using this
  go_enter Try.func39, Try.ntmps39
  go_wp2_with fail
  go_loopw [7, 8] (fun y i wr => ∃ k : Nat, k ≤ L.length ∧ i = .int .i64 k ∧ (∃ c : Nat, y = .int .i64 c ∧ c ≤ k ∧ Hid (c = pairsF (L.take k) ((a1, a2), (b1, b2)))) ∧ Keeps None ((w.alloc (.cells #[.bool a1, .int .i64 a2] 27)).alloc (.cells #[.bool b1, .int .i64 b2] 27)) wr) (fun _ i _ => L.length - (intOf i).toNat)
  case atStart => exact ⟨0, Nat.zero_le _, rfl, ⟨0, rfl, Nat.le_refl _, Lib.hid rfl⟩, Keeps.refl _ _⟩
  case round =>
    obtain ⟨k, hk, rfl, ⟨c, rfl, hck, hc⟩, hK⟩ := hrel
    have hA1 := hB1.grew hK
    have hA2 := hB2.grew hK
    have d0 := hA1.cell 0 _ rfl
    have d1 := hA1.cell 1 _ rfl
    have d2 := hA2.cell 0 _ rfl
    have d3 := hA2.cell 1 _ rfl
    have hRr := hR.grew (k0.trans hK)
    have v0 := hRr.blk.cell 0 _ rfl
    by_cases hlt : k < L.length
    · obtain ⟨x, hx⟩ : ∃ x, L[k]? = some x := ⟨_, List.getElem?_eq_getElem hlt⟩
      obtain ⟨bM, oM, rfl, hpk⟩ := (Pks.of_owns hRr.row).1 k x.1 (by rw [List.getElem?_map, hx]; rfl)
      have HT := Lib.hid (take_succ_of hx)
      obtain ⟨e0, e1⟩ := hpk.fr
      obtain ⟨e2, e3⟩ := hpk.to
      have hpr : x.1.pair = (x.1.fr, x.1.to) := rfl
      have HP := Lib.hid hpr
      obtain ⟨⟨⟨x1, x2⟩, xc, ⟨y1, y2⟩, xd⟩, xs⟩ := x
      clear hx hpk hpr
      simp only at e0 e1 e2 e3
      have hno : ¬ (x1 = a1 ∧ x2 = a2 ∧ y1 = b1 ∧ y2 = b2) → Hid (c = pairsF (L.take (k + 1)) ((a1, a2), (b1, b2))) := fun h => Lib.hid (by
        rw [HT.out, pairsF_snoc, ← hc.out, if_neg (fun e => by
          have e' : ((x1, x2), (y1, y2)) = ((a1, a2), (b1, b2)) := e
          simp only [Prod.mk.injEq] at e'
          exact h ⟨e'.1.1, e'.1.2, e'.2.1, e'.2.2⟩)]
        omega)
      have hstep : Keeps None ((w.alloc (.cells #[.bool a1, .int .i64 a2] 27)).alloc (.cells #[.bool b1, .int .i64 b2] 27)) wr := hK
      by_cases h1 : x1 = a1
      · subst h1
        by_cases h2 : x2 = a2
        · subst h2
          by_cases h3 : y1 = b1
          · subst h3
            by_cases h4 : y2 = b2
            · subst h4
              have HC : Hid (c + 1 = pairsF (L.take (k + 1)) ((x1, x2), (y1, y2))) := Lib.hid (by rw [HT.out, pairsF_snoc, ← hc.out]; simp [Pk.pair])
              have hw1 : IntKind.i64.wrap ((c : Int) + 1) = (c : Int) + 1 := by rw [IntKind.wrap_i64]; omega
              go_wp2_with fail
              go_quiet (fail)
              go_wp2_with fail
              go_roundw
              case rel => exact ⟨k + 1, by omega, by go_num, ⟨c + 1, by go_num, by omega, HC⟩, hstep.drewN _⟩
              case measure => simp [intOf]; omega
            · obtain ⟨q1, q2⟩ := test_ne h4
              have HC := hno (fun e => h4 e.2.2.2)
              clear hno
              go_wp2_with fail
              go_quiet (fail)
              go_wp2_with fail
              go_roundw
              case rel => exact ⟨k + 1, by omega, by go_num, ⟨c, rfl, by omega, HC⟩, hstep.drewN _⟩
              case measure => simp [intOf]; omega
          · have q1 : (y1 == b1) = false := by simp [h3]
            have HC := hno (fun e => h3 e.2.2.1)
            clear hno
            go_wp2_with fail
            go_quiet (fail)
            go_wp2_with fail
            go_roundw
            case rel => exact ⟨k + 1, by omega, by go_num, ⟨c, rfl, by omega, HC⟩, hstep.drewN _⟩
            case measure => simp [intOf]; omega
        · obtain ⟨q1, q2⟩ := test_ne h2
          have HC := hno (fun e => h2 e.2.1)
          clear hno
          go_wp2_with fail
          go_quiet (fail)
          go_wp2_with fail
          go_roundw
          case rel => exact ⟨k + 1, by omega, by go_num, ⟨c, rfl, by omega, HC⟩, hstep.drewN _⟩
          case measure => simp [intOf]; omega
      · have q1 : (x1 == a1) = false := by simp [h1]
        have HC := hno (fun e => h1 e.1)
        clear hno
        go_wp2_with fail
        go_quiet (fail)
        go_wp2_with fail
        go_roundw
        case rel => exact ⟨k + 1, by omega, by go_num, ⟨c, rfl, by omega, HC⟩, hstep.drewN _⟩
        case measure => simp [intOf]; omega
    · obtain rfl : k = L.length := by omega
      go_wp2_with fail
      go_ret
      exact ⟨ret_int (by have := hc.out; rw [List.take_of_length_le (Nat.le_refl _)] at this; rw [this]), k0.trans hK⟩

theorem place_none (L : Way) (a : Ad) (c : Int) (h : ∀ y ∈ L, y.1.named a c = false) : placeP (L.map (·.1)) a c = -1 := by
  unfold placeP
  have h1 : (L.map (·.1)).findIdx? (fun p => p.named a c) = none := by
    rw [List.findIdx?_eq_none_iff]
    intro p hp
    obtain ⟨y, hy, rfl⟩ := List.mem_map.1 hp
    exact h y hy
  rw [h1]
theorem place_at (L : Way) (k : Nat) (x : Pk × List Int) (a : Ad) (c : Int) (hx : L[k]? = some x) (h : ∀ y ∈ L.take k, y.1.named a c = false) (hn : x.1.named a c = true) : placeP (L.map (·.1)) a c = (k : Int) := by
  obtain ⟨hk, e⟩ := List.getElem?_eq_some_iff.1 hx
  unfold placeP
  have h1 : (L.map (·.1)).findIdx? (fun p => p.named a c) = some k := by
    rw [List.findIdx?_eq_some_iff_getElem]
    refine ⟨by simpa using hk, ?_, fun j hj => ?_⟩
    · simpa [e] using hn
    · have := h L[j] (by
        have h2 : (L.take k)[j]? = some L[j] := by rw [List.getElem?_take, if_pos hj]; exact List.getElem?_eq_getElem (by omega)
        exact List.mem_of_getElem? h2)
      rw [List.getElem_map, this]
      simp
  rw [h1]

set_option maxRecDepth 100000 in
set_option maxHeartbeats 4000000 in
theorem rplace_any {r base : Nat} {v u : Value} {L : Way} {S : List Ad} (a : Ad) (n : Int) (w : World) (hR : Rn w r base v u L S) (hn : L.length ≤ 1099511627776) :
    Calls Try.prog 47 #[.pointer (some ⟨r, 0, Option.none⟩), adV a, .int .i64 n] w fun e w' => e = .returned (.int .i64 (placeP (L.map (·.1)) a n)) ∧ Keeps None w w' := by
  obtain ⟨a1, a2⟩ := a
  obtain ⟨Av, cv, rfl⟩ := owns_slice hR.row
  simp only [adV]
  have k0 := (Keeps.refl None w).alloc (.cells #[.bool a1, .int .i64 a2] 27)
  have hB1 := Blk.new w 27 [.bool a1, .int .i64 a2]
  obtain ⟨P, hP⟩ : ∃ P, Hid (placeP (L.map (·.1)) (a1, a2) n = P) := ⟨_, Lib.hid rfl⟩
  rw [hP.out]
  go_enter Try.func47, Try.ntmps47
  go_wp2_with fail
  go_loopw [7] (fun i wr => ∃ k : Nat, k ≤ L.length ∧ i = .int .i64 k ∧ (∀ y ∈ L.take k, y.1.named (a1, a2) n = false) ∧ Keeps None (w.alloc (.cells #[.bool a1, .int .i64 a2] 27)) wr) (fun i _ => L.length - (intOf i).toNat)
  case atStart => exact ⟨0, Nat.zero_le _, rfl, fun y hy => by simp at hy, Keeps.refl _ _⟩
  case round =>
    obtain ⟨k, hk, rfl, hno, hK⟩ := hrel
    have hA1 := hB1.grew hK
    have d0 := hA1.cell 0 _ rfl
    have d1 := hA1.cell 1 _ rfl
    have hRr := hR.grew (k0.trans hK)
    have v0 := hRr.blk.cell 0 _ rfl
    by_cases hlt : k < L.length
    · obtain ⟨x, hx⟩ : ∃ x, L[k]? = some x := ⟨_, List.getElem?_eq_getElem hlt⟩
      obtain ⟨bM, oM, rfl, hpk⟩ := (Pks.of_owns hRr.row).1 k x.1 (by rw [List.getElem?_map, hx]; rfl)
      have hT := take_succ_of hx
      obtain ⟨e0, e1⟩ := hpk.fr
      have e2 := hpk 2 _ rfl
      have hat : x.1.named (a1, a2) n = true → P = (k : Int) := fun h => by rw [← hP.out]; exact place_at L k x _ _ hx hno h
      have hno' : x.1.named (a1, a2) n = false → ∀ y ∈ L.take (k + 1), y.1.named (a1, a2) n = false := fun h y hy => by
        rw [hT] at hy
        rcases List.mem_append.1 hy with h1 | h1
        · exact hno y h1
        · rw [List.mem_singleton.1 h1]; exact h
      obtain ⟨⟨⟨x1, x2⟩, xc, ⟨y1, y2⟩, xd⟩, xs⟩ := x
      clear hx hpk hT hno
      simp only at e0 e1 e2
      by_cases h1 : x1 = a1
      · subst h1
        by_cases h2 : x2 = a2
        · subst h2
          by_cases h3 : xc = n
          · subst h3
            have HC := Lib.hid (hat (by simp [Pk.named]))
            clear hat hno'
            go_wp2_with fail
            go_quiet (fail)
            go_wp2_with fail
            go_ret
            exact ⟨ret_int HC.out.symm, (k0.trans hK).drewN _⟩
          · obtain ⟨q1, q2⟩ := test_ne h3
            have HC := hno' (by simp [Pk.named, h3])
            clear hat hno'
            go_wp2_with fail
            go_quiet (fail)
            go_wp2_with fail
            go_roundw
            case rel => exact ⟨k + 1, by omega, by go_num, HC, hK.drewN _⟩
            case measure => simp [intOf]; omega
        · obtain ⟨q1, q2⟩ := test_ne h2
          have HC := hno' (by simp [Pk.named, h2])
          clear hat hno'
          go_wp2_with fail
          go_quiet (fail)
          go_wp2_with fail
          go_roundw
          case rel => exact ⟨k + 1, by omega, by go_num, HC, hK.drewN _⟩
          case measure => simp [intOf]; omega
      · have q1 : (x1 == a1) = false := by simp [h1]
        have HC := hno' (by simp [Pk.named, h1])
        clear hat hno'
        go_wp2_with fail
        go_quiet (fail)
        go_wp2_with fail
        go_roundw
        case rel => exact ⟨k + 1, by omega, by go_num, HC, hK.drewN _⟩
        case measure => simp [intOf]; omega
    · obtain rfl : k = L.length := by omega
      have HC : P = -1 := by rw [← hP.out]; exact place_none L _ _ (by rw [List.take_of_length_le (Nat.le_refl _)] at hno; exact hno)
      go_wp2_with fail
      go_ret
      exact ⟨ret_int HC.symm, k0.trans hK⟩
end Go.Proofs.Ytcplogdaepmpnaa
