/- The walk of TallyTakes. -/
import Derived.Test.YtghbgcmhahndkaaOpen
import Derived.Test.YtghbgcmhahndkaaShows
namespace Go.Proofs.Ytghbgcmhahndkaa
open Go.RowKit Go.Maps
set_option linter.unusedVariables false

theorem uniq_nodup : ∀ (l acc : List Int), acc.Nodup → (l.foldl (fun acc s => if s ∈ acc then acc else acc ++ [s]) acc).Nodup
  | [], acc, h => h
  | x :: l, acc, h => by
    rw [List.foldl_cons]
    refine uniq_nodup l _ ?_
    split
    · exact h
    · next hx =>
      rw [List.nodup_append]
      exact ⟨h, by simp, fun a ha b hb => by simp at hb; subst hb; exact fun e => hx (e ▸ ha)⟩
theorem uniqF_nodup (l : List Int) : (uniqF l).Nodup := uniq_nodup l [] List.nodup_nil

/-- What is said of the blocks of a tally. -/
structure TalBelow (B g bm : Nat) (v : Value) : Prop where
  g : g < B
  bm : bm < B
  v : ∀ b, v.ownBlock = some b → b < B
theorem Tal.below {w : World} {g base : Nat} {v : Value} {grp : List Int} {need : Int} {bm : Nat} {got : List (Int × Int)} (h : Tal w g base v grp need bm got) : TalBelow w.heap.size g bm v := by
  obtain ⟨D, ⟨es, clock, h1, _⟩, _⟩ := h.map
  exact ⟨h.blk.lt, lt_of_block h1, fun b e => (h.row.lt b e).2⟩
theorem RT.other {w w' : World} {r rbase : Nat} {G : Value} {bv bh : Nat} {grp : List Int} {need : Int} {got : List (Int × Int)} {g bm : Nat} {v : Value} (h : RT w r rbase G bv bh grp need got) (hB : TalBelow rbase g bm v) (hk : Keeps (One bm) w w') : RT w' r rbase G bv bh grp need got := by
  have hb := h.hb
  have h1 := hB.bm
  exact h.keeps hk (fun e => by have : r = bm := e; omega) (fun e => by have : bv = bm := e; omega) (fun e => by have : bh = bm := e; omega) (fun b e f => by have : b = bm := f; have := (h.row.lt b e).1; omega)
theorem Tal.other {w w' : World} {g base : Nat} {v : Value} {grp : List Int} {need : Int} {bm : Nat} {got : List (Int × Int)} {rbase bv bh : Nat} (h : Tal w g base v grp need bm got) (hB : TalBelow rbase g bm v) (hb : rbase ≤ bv ∧ rbase ≤ bh) (hk : Keeps (Pair2 bv bh) w w') : Tal w' g base v grp need bm got := by
  have h1 := hB.g
  have h2 := hB.bm
  exact h.keeps hk (fun e => by rcases e with e | e <;> omega) (fun e => by rcases e with e | e <;> omega) (fun b e f => by have := hB.v b e; rcases f with f | f <;> omega)
theorem Tal.upto {w w' : World} {g base : Nat} {v : Value} {grp : List Int} {need : Int} {bm : Nat} {got : List (Int × Int)} {gb : Nat} (h : Tal w g base v grp need bm got) (hb : gb < base) (hk : Keeps (One gb) w w') : Tal w' g base v grp need bm got := by
  have h1 := h.hg
  exact h.keeps hk (fun e => by have : g = gb := e; omega) (fun e => by have : bm = gb := e; omega) (fun b e f => by have : b = gb := f; have := (h.row.lt b e).1; omega)

namespace tallyTakes
def LawEnd (w : World) (e : Ending) (w' : World) : Prop := e = .returned (.bool true) ∧ Below w.heap.size w w'

/-- The three blocks that a vote may turn. -/
def Three (a b c : Nat) : Nat → Prop := fun k => k = a ∨ k = b ∨ k = c

set_option maxRecDepth 100000 in
set_option maxHeartbeats 6400000 in
theorem walk (A : Option Addr) (n cap : Nat) (zs : List Int) (need : Int) (B : Option Addr) (m cap' : Nat) (vs : List Vo) (w : World) (hA : Nums .i64 w A zs) (hn : zs.length = n) (hr : n ≤ 17592186043904) (hwf : ∀ s ∈ zs, (Lit.int .i64 s).wf = true) (hB : Vs w B vs) (hm : vs.length = m) (hvf : ∀ x ∈ vs, x.Fine) (hrm : m * 24 ≤ 140737488351232) :
    Calls Try.prog 4 #[.slice A n cap, .int .i64 need, .slice B m cap'] w (LawEnd w) := by
  subst hn
  subst hm
  have WF := Lib.hid (fun s (hs : s ∈ uniqF zs) => hwf s ((uniqF_mem zs s).1 hs))
  have VF := Lib.hid hvf
  have hul := uniqF_len zs
  clear hwf hvf
  go_enter Try.func4, Try.ntmps4
  go_wp2_with fail
  refine (known_any w).mono ?_
  rintro e w1 ⟨rfl, hk1⟩
  go_wp2_with fail
  refine (lend_any A zs.length cap zs w1 (hA.grew hk1) rfl hr).mono ?_
  rintro e w2 ⟨gb, rfl, hgb, hb2, hk2⟩
  have hK2 := hk1.trans hk2
  have hgw : w.heap.size ≤ gb := Nat.le_trans hk1.size hgb
  clear hk1 hk2 hgb
  go_wp2_with fail
  refine (new_any (some ⟨gb, 0, Option.none⟩) zs.length (zs.length + 67) zs need w2 (lentCells_nums hb2) rfl (by omega)).mono ?_
  rintro e w3 ⟨v, rfl, hT3, hk3⟩
  have hb3 := hb2.grew hk3
  have hgl := hb2.lt
  obtain ⟨g, hg⟩ : ∃ g, g = w2.heap.size + 1 := ⟨_, rfl⟩
  obtain ⟨bm, hbm⟩ : ∃ b, b = w2.heap.size := ⟨_, rfl⟩
  rw [← hg, ← hbm] at hT3
  rw [← hg]
  rw [← hbm] at hgl
  have hK3 := hK2.trans hk3
  clear hg hbm hK2 hk3 hb2
  go_wp2_with fail
  refine (back_any gb zs.length zs A zs.length cap w3 hb3 rfl (hA.grew hK3) rfl hr).mono ?_
  rintro e w4 ⟨rfl, hd4⟩
  have hT4 := Drew.tal hT3 hd4
  have hb4 := hb3.grew (hd4.keeps None)
  have hK4 := hK3.trans (hd4.keeps None)
  clear hT3 hb3 hK3 hd4
  go_wp2_with fail
  go_loopw [9] (fun i wr => ∃ k : Nat, k ≤ zs.length ∧ i = .int .i64 k ∧ (∃ cs : List Value, Blk wr gb 3 cs ∧ ∀ j, j < zs.length → ∃ x, cs[j]? = some (.int .i64 x)) ∧ Tal wr g bm v (uniqF zs) need bm [] ∧ Keeps None w wr) (fun i _ => zs.length - (intOf i).toNat)
  case atStart =>
    refine ⟨0, Nat.zero_le _, rfl, ⟨_, hb4, fun j hj => ⟨zs[j], ?_⟩⟩, hT4, hK4⟩
    unfold lentCells
    rw [List.getElem?_append_left (by simpa using hj), List.getElem?_map, List.getElem?_eq_getElem hj]
    rfl
  case round =>
    clear hT4 hb4 hK4
    obtain ⟨k, hk, rfl, ⟨cs, hb, hcs⟩, hT, hK⟩ := hrel
    by_cases hlt : k < zs.length
    · obtain ⟨x, hx⟩ := hcs k hlt
      have hc := hb.cell k _ hx
      have hf := hb.free k
      have HX := Lib.hid hcs
      clear hx hcs
      obtain ⟨y, hy⟩ : ∃ y, y = wrap64 (x + 1) := ⟨_, rfl⟩
      have hks : Keeps (One gb) wr (wr.setCell ⟨gb, k, Option.none⟩ (.int .i64 y)) := (Keeps.refl _ _).setCell _ _ (fun _ => rfl)
      have hn := Lib.hid (show ∀ j, j < zs.length → ∃ x, (cs.set k (.int .i64 y))[j]? = some (.int .i64 x) from fun j hj => by
        rw [List.getElem?_set]
        obtain ⟨x', hx'⟩ := HX.out j hj
        split
        · next e => subst e; rw [if_pos (List.getElem?_eq_some_iff.1 hx').1]; exact ⟨_, rfl⟩
        · exact ⟨_, hx'⟩)
      rw [hy] at hks hn
      have hT2 := hT.upto hgl hks
      have hK2 := hK.bm hks hgw
      clear hy hks
      go_wp2_with fail
      go_roundw
      case rel => exact ⟨k + 1, by omega, by go_num, ⟨_, hb.set k _, hn.out⟩, hT2, hK2⟩
      case measure => simp [intOf]; omega
    · clear hb hcs
      go_wp2_with fail
      refine (refnew_any A zs.length cap zs need wr (hA.grew hK) rfl (by omega)).mono ?_
      rintro e w5 ⟨r, G, bv, bh, rfl, hR5, hk5⟩
      have hBel := hT.below
      have hT5 := hT.grew hk5
      have hK5 := hK.trans hk5
      obtain ⟨rb, hrb⟩ : ∃ rb, rb = wr.heap.size := ⟨_, rfl⟩
      rw [← hrb] at hR5 hBel
      clear hrb hT hK hk5 hlt hk hA
      go_wp2_with fail
      have hbw : w.heap.size ≤ bm := by omega
      go_loopw [11] (fun i wr => ∃ (k : Nat) (got : List (Int × Int)), k ≤ vs.length ∧ i = .int .i64 k ∧ Tal wr g bm v (uniqF zs) need bm got ∧ RT wr r rb G bv bh (uniqF zs) need got ∧ Hid (Fit (uniqF zs) got) ∧ Keeps None w wr) (fun i _ => vs.length - (intOf i).toNat)
      case atStart => exact ⟨0, [], Nat.zero_le _, rfl, hT5, hR5, Lib.hid (Fit.nil _), hK5⟩
      case round =>
        clear hT5 hR5 hK5
        obtain ⟨k, got, hk, rfl, hT, hR, hF, hK⟩ := hrel
        by_cases hlt : k < vs.length
        · obtain ⟨⟨s, x, lo⟩, hy⟩ : ∃ y, vs[k]? = some y := ⟨_, List.getElem?_eq_getElem hlt⟩
          obtain ⟨b, o, rfl, c0, c1, c2⟩ := hB k _ hy
          obtain ⟨fs, fx⟩ := VF.out _ (List.mem_of_getElem? hy)
          simp only at c0 c1 c2 fs fx
          have held : ∀ w', Keeps None w w' → (Keeps None w w' ∧ w'.cell? ⟨b, o + k * 3, Option.none⟩ = some (.int .i64 s) ∧ w'.cell? ⟨b, o + k * 3 + 1, Option.none⟩ = some (.int .i64 x) ∧ w'.cell? ⟨b, o + k * 3 + 2, Option.none⟩ = some (.bool lo)) := fun w' h => ⟨h, h.cell c0 id, h.cell c1 id, h.cell c2 id⟩
          have HELD := Lib.hid held
          have FS := Lib.hid fs
          have FX := Lib.hid fx
          have hgot := hF.out.le
          obtain ⟨Bk, hBk⟩ : ∃ Bk, Bk = TookB (uniqF zs) need got s := ⟨_, rfl⟩
          have HBK := Lib.hid hBk
          have hrb := hR.hb
          obtain ⟨hrb1, hrb2, hrb3⟩ := hrb
          have hbb := hBel.bm
          clear held hy fs fx hBk
          cases lo with
          | false =>
            cases Bk
            all_goals
              go_wp2_with fail
              first | go_region_held (fun w' => Keeps None w w' ∧ w'.cell? ⟨b, o + k * 3, Option.none⟩ = some (.int .i64 s) ∧ w'.cell? ⟨b, o + k * 3 + 1, Option.none⟩ = some (.int .i64 x) ∧ w'.cell? ⟨b, o + k * 3 + 2, Option.none⟩ = some (.bool false))
                (first | assumption | exact HELD.out _ hK.drew | exact HELD.out _ (by assumption))
                (first
                  | (go_at_call 19; refine (take_any g bm v (uniqF zs) need bm got s x _ (Drew.tal hT ⟨1, rfl⟩) FS.out FX.out (by omega) (by omega)).mono ?_; rintro e w2 ⟨rfl, hTz, hkz⟩; rw [← HBK.out]; have hRz := (hR.drew ⟨1, rfl⟩).other hBel hkz; have hk2 : Keeps None w w2 := hK.drew.bm hkz hbw)
                  | (go_at_call 20; refine (reftake_any r rb G bv bh (uniqF zs) need got s x _ hRz (by omega) hF.out (uniqF_nodup zs)).mono ?_; rintro e w3 ⟨rfl, hRy, hky⟩; rw [← HBK.out]; have hTy := hTz.other hBel ⟨hrb2, hrb3⟩ hky; have hk3 : Keeps None w w3 := hk2.andThen hky (fun i hi e => by rcases e with e | e <;> omega); have hF3 := Lib.hid (hF.out.took (need := need) (s := s) (x := x) (uniqF_nodup zs)))
                  | (go_at_call 21; refine (shows_any g bm v bm r rb G bv bh (uniqF zs) need _ _ hTy hRy WF.out (by omega) hF3.out).mono ?_; rintro e w4 ⟨rfl, hkx⟩; have hTx := hTy.grew hkx; have hRx := hRy.grew hkx; have hk4 : Keeps None w w4 := hk3.trans hkx)) | fail
            all_goals
              go_wp2_with fail
              go_roundw
              case rel => first | exact ⟨k + 1, _, by omega, by go_num, hTx, hRx, hF3, hk4⟩ | exact ⟨k + 1, _, by omega, by go_num, hTy, hRy, hF3, hk3⟩
              case measure => simp [intOf]; omega
          | true =>
            cases Bk
            all_goals
              go_wp2_with fail
              first | go_region_held3 (fun w' => Keeps None w w' ∧ w'.cell? ⟨b, o + k * 3, Option.none⟩ = some (.int .i64 s) ∧ w'.cell? ⟨b, o + k * 3 + 1, Option.none⟩ = some (.int .i64 x) ∧ w'.cell? ⟨b, o + k * 3 + 2, Option.none⟩ = some (.bool true))
                (first | assumption | exact HELD.out _ hK.drew | exact HELD.out _ (by assumption))
                (first
                  | (go_at_call 19; refine (take_any g bm v (uniqF zs) need bm got s x _ (Drew.tal hT ⟨1, rfl⟩) FS.out FX.out (by omega) (by omega)).mono ?_; rintro e w2 ⟨rfl, hTz, hkz⟩; rw [← HBK.out]; have hRz := (hR.drew ⟨1, rfl⟩).other hBel hkz; have hk2 : Keeps None w w2 := hK.drew.bm hkz hbw)
                  | (go_at_call 20; refine (reftake_any r rb G bv bh (uniqF zs) need got s x _ hRz (by omega) hF.out (uniqF_nodup zs)).mono ?_; rintro e w3 ⟨rfl, hRy, hky⟩; rw [← HBK.out]; have hTy := hTz.other hBel ⟨hrb2, hrb3⟩ hky; have hk3 : Keeps None w w3 := hk2.andThen hky (fun i hi e => by rcases e with e | e <;> omega); have hF3 := Lib.hid (hF.out.took (need := need) (s := s) (x := x) (uniqF_nodup zs)))
                  | (go_at_call 21; refine (shows_any g bm v bm r rb G bv bh (uniqF zs) need _ _ hTy hRy WF.out (by omega) hF3.out).mono ?_; rintro e w4 ⟨rfl, hkx⟩; have hTx := hTy.grew hkx; have hRx := hRy.grew hkx; have hk4 : Keeps None w w4 := hk3.trans hkx)) | fail
            all_goals
              go_wp2_with fail
              go_roundw
              case rel => first | exact ⟨k + 1, _, by omega, by go_num, hTx, hRx, hF3, hk4⟩ | exact ⟨k + 1, _, by omega, by go_num, hTy, hRy, hF3, hk3⟩
              case measure => simp [intOf]; omega
        · go_wp2_with fail
          refine (shows_any g bm v bm r rb G bv bh (uniqF zs) need got wr hT hR WF.out (by omega) hF.out).mono ?_
          rintro e w6 ⟨rfl, hk6⟩
          have hT6 := hT.grew hk6
          have hR6 := hR.grew hk6
          have hK6 := hK.trans hk6
          clear hT hR hk6
          go_wp2_with fail
          refine (shows_any g bm v bm r rb G bv bh (uniqF zs) need got w6 hT6 hR6 WF.out (by omega) hF.out).mono ?_
          rintro e w7 ⟨rfl, hk7⟩
          have hK7 := hK6.trans hk7
          go_wp2_with fail
          go_ret
          exact ⟨rfl, hK7.to_below⟩
end tallyTakes
end Go.Proofs.Ytghbgcmhahndkaa
