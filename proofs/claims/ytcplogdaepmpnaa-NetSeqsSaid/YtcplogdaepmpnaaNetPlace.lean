/- The first packet of a name. -/
import Derived.Test.YtcplogdaepmpnaaNetSend
namespace Go.Proofs.Ytcplogdaepmpnaa
open Go.RowKit Go.Maps Go.ChangeMaps Go.WideElems

/-- Is it the packet of that name? -/
def Pk.named (p : Pk) (a : Ad) (c : Int) : Bool := decide (p.fr = a) && decide (p.ct = c)

set_option maxRecDepth 100000 in
set_option maxHeartbeats 1600000 in
theorem place1_any (p : Pk) (a : Ad) (c : Int) (ba bc : Nat) (w : World) (hA : Blk w ba 27 [.bool a.1, .int .i64 a.2]) (hC : Blk w bc 3 [.int .i64 c]) :
    Calls Try.prog 45 #[p.val, .pointer (some ⟨ba, 0, Option.none⟩), .pointer (some ⟨bc, 0, Option.none⟩)] w fun e w' => e = .returned (.bool (p.named a c)) ∧ Keeps None w w' := by
  obtain ⟨⟨f1, f2⟩, ct, ⟨t1, t2⟩, dv⟩ := p
  obtain ⟨a1, a2⟩ := a
  by_cases h1 : f1 = a1
  · subst h1
    by_cases h2 : f2 = a2
    · subst h2
      by_cases h3 : ct = c
      · subst h3
        have hb := Blk.new w 33 [.bool f1, .int .i64 f2, .int .i64 ct, .bool t1, .int .i64 t2, dv]
        have k0 := (Keeps.refl None w).alloc (.cells #[.bool f1, .int .i64 f2, .int .i64 ct, .bool t1, .int .i64 t2, dv] 33)
        have hA0 := hA.grew k0
        have hC0 := hC.grew k0
        have a0 := hA0.cell 0 _ rfl
        have a1' := hA0.cell 1 _ rfl
        have c0 := hC0.cell 0 _ rfl
        simp only [Pk.val]
        have b0 := hb.cell 0 _ rfl
        have b1 := hb.cell 1 _ rfl
        have b2 := hb.cell 2 _ rfl
        go_enter Try.func45, Try.ntmps45
        go_wp2_with fail
        go_ret
        exact ⟨ret_bool (by simp [Pk.named]), k0⟩
      · obtain ⟨q1, q2⟩ := test_ne h3
        have hb := Blk.new w 33 [.bool f1, .int .i64 f2, .int .i64 ct, .bool t1, .int .i64 t2, dv]
        have k0 := (Keeps.refl None w).alloc (.cells #[.bool f1, .int .i64 f2, .int .i64 ct, .bool t1, .int .i64 t2, dv] 33)
        have hA0 := hA.grew k0
        have hC0 := hC.grew k0
        have a0 := hA0.cell 0 _ rfl
        have a1' := hA0.cell 1 _ rfl
        have c0 := hC0.cell 0 _ rfl
        simp only [Pk.val]
        have b0 := hb.cell 0 _ rfl
        have b1 := hb.cell 1 _ rfl
        have b2 := hb.cell 2 _ rfl
        go_enter Try.func45, Try.ntmps45
        go_wp2_with fail
        go_ret
        exact ⟨ret_bool (by simp [Pk.named, h3]), k0⟩
    · obtain ⟨q1, q2⟩ := test_ne h2
      have hb := Blk.new w 33 [.bool f1, .int .i64 f2, .int .i64 ct, .bool t1, .int .i64 t2, dv]
      have k0 := (Keeps.refl None w).alloc (.cells #[.bool f1, .int .i64 f2, .int .i64 ct, .bool t1, .int .i64 t2, dv] 33)
      have hA0 := hA.grew k0
      have hC0 := hC.grew k0
      have a0 := hA0.cell 0 _ rfl
      have a1' := hA0.cell 1 _ rfl
      have c0 := hC0.cell 0 _ rfl
      simp only [Pk.val]
      have b0 := hb.cell 0 _ rfl
      have b1 := hb.cell 1 _ rfl
      have b2 := hb.cell 2 _ rfl
      go_enter Try.func45, Try.ntmps45
      go_wp2_with fail
      go_ret
      exact ⟨ret_bool (by simp [Pk.named, h2]), k0⟩
  · have q1 : (f1 == a1) = false := by simp [h1]
    have hb := Blk.new w 33 [.bool f1, .int .i64 f2, .int .i64 ct, .bool t1, .int .i64 t2, dv]
    have k0 := (Keeps.refl None w).alloc (.cells #[.bool f1, .int .i64 f2, .int .i64 ct, .bool t1, .int .i64 t2, dv] 33)
    have hA0 := hA.grew k0
    have hC0 := hC.grew k0
    have a0 := hA0.cell 0 _ rfl
    have a1' := hA0.cell 1 _ rfl
    have c0 := hC0.cell 0 _ rfl
    simp only [Pk.val]
    have b0 := hb.cell 0 _ rfl
    have b1 := hb.cell 1 _ rfl
    have b2 := hb.cell 2 _ rfl
    go_enter Try.func45, Try.ntmps45
    go_wp2_with fail
    go_ret
    exact ⟨ret_bool (by simp [Pk.named, h1]), k0⟩
/-! ### Rows of packets -/
/-- Packets lie there in a row. -/
def Pks (w : World) (A : Option Addr) (ps : List Pk) : Prop := ∀ (j : Nat) (p : Pk), ps[j]? = some p → ∃ b o, A = some ⟨b, o, Option.none⟩ ∧ PkAt w b (o + j * 6) p
theorem Pks.grew {w w' : World} {A : Option Addr} {ps : List Pk} (h : Pks w A ps) (hk : Keeps None w w') : Pks w' A ps := fun j p hp => by
  obtain ⟨b, o, e, h1⟩ := h j p hp
  exact ⟨b, o, e, h1.grew hk⟩
theorem Pks.nil (w : World) (A : Option Addr) : Pks w A [] := fun j p hp => by simp at hp
theorem Way.cells_get : ∀ (L : Way) (j : Nat) (x : Pk × List Int), L[j]? = some x → ∀ i v, x.1.cells[i]? = some v → L.cells[j * 6 + i]? = some v
  | [], j, x, h, _, _, _ => by simp at h
  | y :: r, 0, x, h, i, v, hv => by
    simp at h
    subst h
    simp only [Way.cells, List.flatMap_cons]
    rw [List.getElem?_append_left (by have := (List.getElem?_eq_some_iff.1 hv).1; omega)]
    simpa using hv
  | y :: r, j + 1, x, h, i, v, hv => by
    simp at h
    have := Way.cells_get r j x h i v hv
    simp only [Way.cells, List.flatMap_cons] at this ⊢
    rw [List.getElem?_append_right (by simp [Pk.cells]; omega)]
    rw [show (j + 1) * 6 + i - y.1.cells.length = j * 6 + i by simp [Pk.cells]; omega]
    exact this
theorem Pks.of_owns {w : World} {base n : Nat} {A : Option Addr} {c : Nat} {L : Way} (h : w.ownsRow base 33 6 (.slice A n c) L.length L.cells) : Pks w A (L.map (·.1)) ∧ L.length = n ∧ (∀ ad, A = some ad → ∃ g, ad = ⟨g, 0, Option.none⟩) := by
  rcases h.2 with ⟨e, h0⟩ | ⟨g, cap, cur, e, hb, hg, hn, hcap, hsz, hcur⟩
  · cases e
    have : L = [] := List.eq_nil_of_length_eq_zero h0
    subst this
    exact ⟨Pks.nil _ _, rfl, fun _ e => by cases e⟩
  · cases e
    refine ⟨fun j p hp => ⟨g, 0, rfl, fun i v hv => ?_⟩, rfl, fun _ e => by cases e; exact ⟨g, rfl⟩⟩
    rw [List.getElem?_map] at hp
    obtain ⟨x, hx, rfl⟩ := Option.map_eq_some_iff.1 hp
    have := Way.cells_get L j x hx i v hv
    rw [← hcur] at this
    rw [Nat.zero_add, cell_of_row w g _ cur _ _ hg]
    rw [List.getElem?_take] at this
    split at this
    · simpa using this
    · cases this

/-- Where the first of that name stands. -/
def placeP (ps : List Pk) (a : Ad) (c : Int) : Int := match ps.findIdx? (fun p => p.named a c) with | some j => (j : Int) | none => -1

theorem placeP_at {ps : List Pk} {a : Ad} {c : Int} {k : Nat} {x : Pk} (hx : ps[k]? = some x) (hN : ∀ y ∈ ps.take k, y.named a c = false) (hn : x.named a c = true) : placeP ps a c = (k : Int) := by
  have : ps.findIdx? (fun p => p.named a c) = some k := by
    rw [List.findIdx?_eq_some_iff_getElem]
    obtain ⟨hl, hg⟩ := List.getElem?_eq_some_iff.1 hx
    refine ⟨hl, by rw [hg]; exact hn, fun j hj => ?_⟩
    have := hN ps[j] (List.mem_take_iff_getElem.2 ⟨j, by omega, rfl⟩)
    simp [this]
  simp [placeP, this]
theorem placeP_none {ps : List Pk} {a : Ad} {c : Int} (hN : ∀ y ∈ ps, y.named a c = false) : placeP ps a c = -1 := by
  have : ps.findIdx? (fun p => p.named a c) = none := List.findIdx?_eq_none_iff.2 hN
  simp [placeP, this]

set_option maxRecDepth 100000 in
set_option maxHeartbeats 1600000 in
theorem indexfunc_any (A : Option Addr) (n cap : Nat) (ps : List Pk) (a : Ad) (c : Int) (ba bc : Nat) (w : World) (hP : Pks w A ps) (hn : ps.length = n) (hr : n ≤ 17592186044416) (hA : Blk w ba 27 [.bool a.1, .int .i64 a.2]) (hC : Blk w bc 3 [.int .i64 c]) :
    Calls Try.prog 44 #[.slice A n cap, .func (.func 45) #[] #[.pointer (some ⟨ba, 0, Option.none⟩), .pointer (some ⟨bc, 0, Option.none⟩)]] w fun e w' => e = .returned (.int .i64 (placeP ps a c)) ∧ Keeps None w w' := by
  subst hn
  go_enter Try.func44, Try.ntmps44
  go_wp2
  go_loopw [8] (fun i wr => ∃ k : Nat, k ≤ ps.length ∧ i = .int .i64 k ∧ Hid (∀ x ∈ ps.take k, x.named a c = false) ∧ Keeps None w wr) (fun i _ => ps.length - (intOf i).toNat)
  case atStart => exact ⟨0, Nat.zero_le _, rfl, Lib.hid (by simp), Keeps.refl _ _⟩
  case round =>
    obtain ⟨k, hk, rfl, hN, hK⟩ := hrel
    by_cases hlt : k < ps.length
    · obtain ⟨x, hx⟩ : ∃ x, ps[k]? = some x := ⟨_, List.getElem?_eq_getElem hlt⟩
      obtain ⟨b, o, rfl, hx1⟩ := hP k x hx
      have HX := Lib.hid hx
      have hxr := hx1.grew hK
      clear hx hx1
      go_wp2_with (first
        | (with_reducible refine wpList_load_pk rfl (.tmp 14) rfl b (o + k * 6) x rfl hxr ?_))
      refine (place1_any x a c ba bc wr (hA.grew hK) (hC.grew hK)).mono ?_
      rintro e w2 ⟨rfl, hk2⟩
      have hK2 := hK.trans hk2
      cases hnm : x.named a c with
      | true =>
        have HP : Hid (placeP ps a c = (k : Int)) := Lib.hid (placeP_at HX.out hN.out hnm)
        go_wp2_with fail
        go_ret
        exact ⟨ret_int HP.out.symm, hK2⟩
      | false =>
        have HN : Hid (∀ y ∈ ps.take (k + 1), y.named a c = false) := Lib.hid (by
          rw [take_succ_of HX.out]
          intro y hy
          rcases List.mem_append.1 hy with h | h
          · exact hN.out y h
          · rw [List.mem_singleton.1 h]; exact hnm)
        clear hnm
        go_wp2_with fail
        go_roundw
        case rel => exact ⟨k + 1, by omega, by go_num, HN, hK2⟩
        case measure => simp [intOf]; omega
    · obtain rfl : k = ps.length := by omega
      have HP : Hid (placeP ps a c = -1) := Lib.hid (placeP_none (by have := hN.out; rwa [List.take_of_length_le (Nat.le_refl _)] at this))
      go_wp2_with fail
      go_ret
      exact ⟨ret_int HP.out.symm, hK⟩

set_option maxRecDepth 100000 in
set_option maxHeartbeats 1600000 in
theorem place_any (g base : Nat) (v : Value) (m1 m2 : Nat) (L : Way) (n : Nat) (sn : Ad → Int) (mn : Pr → Int) (a : Ad) (c : Int) (w : World) (hN : Nt w g base v m1 m2 L n sn mn) (hn : n ≤ 1099511627776) :
    Calls Try.prog 31 #[.pointer (some ⟨g, 0, Option.none⟩), adV a, .int .i64 c] w fun e w' => e = .returned (.int .i64 (placeP (L.map (·.1)) a c)) ∧ Keeps None w w' := by
  obtain ⟨a1, a2⟩ := a
  obtain ⟨Av, cv, rfl⟩ := owns_slice hN.row
  simp only [adV]
  have hA := (Blk.new w 27 [.bool a1, .int .i64 a2]).alloc (.cells #[.int .i64 c] 3)
  have hC := Blk.new (w.alloc (.cells #[.bool a1, .int .i64 a2] 27)) 3 [.int .i64 c]
  rw [World.size_alloc] at hC
  have k0 := ((Keeps.refl None w).alloc (.cells #[.bool a1, .int .i64 a2] 27)).alloc (.cells #[.int .i64 c] 3)
  have hN0 := hN.grew k0
  have c0 := hN0.blk.cell 0 _ rfl
  have hm := hN.most
  go_enter Try.func31, Try.ntmps31
  go_wp2_with fail
  refine (indexfunc_any Av L.length cv (L.map (·.1)) (a1, a2) c w.heap.size (w.heap.size + 1) _ (Pks.of_owns hN0.row).1 (by simp) (by omega) hA hC).mono ?_
  rintro e w2 ⟨rfl, hk2⟩
  go_wp2_with fail
  go_ret
  exact ⟨rfl, k0.trans hk2⟩
end Go.Proofs.Ytcplogdaepmpnaa
