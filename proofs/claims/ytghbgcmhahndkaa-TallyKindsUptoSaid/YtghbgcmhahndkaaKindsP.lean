/- TallyKinds, in plain terms: what three tallies of one row of votes hold; what stands beside them. -/
import Derived.Test.YtghbgcmhahndkaaKGotP
import Derived.Test.YtghbgcmhahndkaaKGotS
import Derived.Test.YtghbgcmhahndkaaKGotZ
import Derived.Test.YtghbgcmhahndkaaVotes
import Derived.Laws.BitsLemmas
import Derived.IntWalk
namespace Go.Proofs.Ytghbgcmhahndkaa
open Go.RowKit Go.Maps
set_option linter.unusedVariables false

theorem uniq_nodup2 : ∀ (l acc : List Int), acc.Nodup → (l.foldl (fun acc s => if s ∈ acc then acc else acc ++ [s]) acc).Nodup
  | [], acc, h => h
  | x :: l, acc, h => by
    rw [List.foldl_cons]
    refine uniq_nodup2 l _ ?_
    split
    · exact h
    · next hx =>
      rw [List.nodup_append]
      exact ⟨h, by simp, fun a ha b hb => by simp at hb; subst hb; exact fun e => hx (e ▸ ha)⟩
theorem uniqF_nd (l : List Int) : (uniqF l).Nodup := uniq_nodup2 l [] List.nodup_nil
theorem nodup_len : ∀ (a b : List Int), a.Nodup → (∀ x ∈ a, x ∈ b) → a.length ≤ b.length
  | [], b, _, _ => Nat.zero_le _
  | x :: a, b, h, hs => by
    obtain ⟨h1, h2⟩ := List.nodup_cons.1 h
    have hx := hs x (by simp)
    have ih := nodup_len a (b.erase x) h2 (fun y hy => (List.mem_erase_of_ne (fun e => h1 (by rw [← e]; exact hy))).2 (hs y (by simp [hy])))
    rw [List.length_erase_of_mem hx] at ih
    have : 0 < b.length := List.length_pos_of_mem hx
    simp only [List.length_cons]
    omega

theorem lookV_fst (got : List (Int × Value)) (s : Int) : (TG.lookV got s).isSome = decide (s ∈ got.map (·.1)) := by
  unfold TG.lookV
  induction got with
  | nil => rfl
  | cons p got ih =>
    rw [List.find?_cons]
    by_cases e : p.1 = s
    · simp [e]
    · have e' : (p.1 == s) = false := by simpa using e
      rw [e']
      simp only [ih, List.map_cons, List.mem_cons]
      congr 1
      simp [Ne.symm e]
/-- The keys of a tally. -/
theorem takes_keys {grp : List Int} {need : Int} {got : List (Int × Value)} {ws : List Int} (h : got.map (·.1) = ws) (hl : (ws.length : Int) < need) (s : Int) : TG.takes grp need got s = (decide (s ∈ grp) && !decide (s ∈ ws)) := by
  unfold TG.takes
  have hg : got.length = ws.length := by rw [← h, List.length_map]
  rw [lookV_fst, h, hg, show decide (need ≤ (ws.length : Int)) = false from decide_eq_false (by omega)]
  cases decide (s ∈ grp) <;> cases decide (s ∈ ws) <;> rfl
theorem tookB_keys {grp : List Int} {need : Int} {got : List (Int × Value)} {ws : List Int} (h : got.map (·.1) = ws) (hn : (grp.length : Int) < need) (hws : ws.Nodup) (hsub : ∀ x ∈ ws, x ∈ grp) (s : Int) : TG.TookB grp need got s = false := by
  have hle := nodup_len ws grp hws hsub
  unfold TG.TookB
  rw [takes_keys h (by omega)]
  by_cases h1 : s ∈ grp
  · by_cases h2 : s ∈ ws
    · simp [h2]
    · have hl2 := nodup_len (s :: ws) grp (List.nodup_cons.2 ⟨h2, hws⟩) (fun x hx => by rcases List.mem_cons.1 hx with rfl | hx; exact h1; exact hsub x hx)
      have hg : got.length = ws.length := by rw [← h, List.length_map]
      simp only [List.length_cons] at hl2
      rw [hg, show decide (need ≤ (ws.length : Int) + 1) = false from decide_eq_false (by omega)]
      simp
  · simp [h1]
/-- What has come behind a vote. -/
def freshK (l ws : List Int) (s : Int) : Bool := decide (s ∈ l) && !decide (s ∈ ws)
theorem took_keys {l : List Int} {need : Int} {got : List (Int × Value)} {ws : List Int} (h : got.map (·.1) = ws) (hl : (ws.length : Int) < need) (s : Int) (x : Value) : TG.tookF (uniqF l) need got s x = if freshK l ws s then got ++ [(s, x)] else got := by
  unfold TG.tookF
  rw [takes_keys h hl, show decide (s ∈ uniqF l) = decide (s ∈ l) by simp [uniqF_mem]]
  rfl
theorem hasF_keys {grp : List Int} {got : List (Int × Value)} {ws : List Int} (h : got.map (·.1) = ws) (hg : grp.Nodup) (hws : ws.Nodup) (hsub : ∀ x ∈ ws, x ∈ grp) : (TG.hasF grp got).length = ws.length := by
  have e : TG.hasF grp got = grp.filter fun s => decide (s ∈ ws) := by
    unfold TG.hasF
    congr 1
    funext s
    rw [lookV_fst, h]
  rw [e]
  refine Nat.le_antisymm (nodup_len _ _ (hg.filter _) (fun x hx => by have := (List.mem_filter.1 hx).2; simpa using this)) (nodup_len _ _ hws (fun x hx => List.mem_filter.2 ⟨hsub x hx, by simpa using hx⟩))
/-- What Got goes over is what was taken. -/
theorem zip_look : ∀ (grp : List Int) (got : List (Int × Value)) (p : Int × Value), p ∈ (TG.hasF grp got).zip (TG.ansF grp got) → TG.lookV got p.1 = some p.2
  | [], got, p, h => by simp [TG.hasF] at h
  | s :: grp, got, p, h => by
    have ih := zip_look grp got p
    unfold TG.hasF TG.ansF at h ih
    rw [List.filter_cons, List.filterMap_cons] at h
    cases hl : TG.lookV got s with
    | none => rw [hl] at h; simp only [Option.isSome_none, Bool.false_eq_true, if_false] at h; exact ih h
    | some c =>
      rw [hl] at h
      simp only [Option.isSome_some, if_true, List.zip_cons_cons, List.mem_cons] at h
      rcases h with rfl | h
      · exact hl
      · exact ih h
/-- The Pairs that were handed in. -/
def pvK (b : Nat) : Value := .agg #[.string ⟨#[112]⟩, .slice (some ⟨b, 0, Option.none⟩) 2 2]
def gotPK (ws : List Int) (bs : List Nat) : List (Int × Value) := (ws.zip bs).map fun x => (x.1, pvK x.2)
theorem gotPK_keys {ws : List Int} {bs : List Nat} (h : bs.length = ws.length) : (gotPK ws bs).map (·.1) = ws := by
  unfold gotPK
  rw [List.map_map]
  have : ((fun x : Int × Value => x.1) ∘ fun x : Int × Nat => (x.1, pvK x.2)) = Prod.fst := rfl
  rw [this, List.map_fst_zip (by omega)]
theorem gotPK_snoc {ws : List Int} {bs : List Nat} (h : bs.length = ws.length) (s : Int) (b : Nat) : gotPK (ws ++ [s]) (bs ++ [b]) = gotPK ws bs ++ [(s, pvK b)] := by
  unfold gotPK
  rw [List.zip_append h.symm]
  simp
def gotZK (ws : List Int) (g : Nat) : List (Int × Value) := ws.map fun s => (s, .pointer (some ⟨g, 0, Option.none⟩))
theorem gotZK_keys (ws : List Int) (g : Nat) : (gotZK ws g).map (·.1) = ws := by unfold gotZK; rw [List.map_map]; simp [Function.comp_def]
theorem gotZK_snoc (ws : List Int) (g : Nat) (s : Int) : gotZK (ws ++ [s]) g = gotZK ws g ++ [(s, .pointer (some ⟨g, 0, Option.none⟩))] := by simp [gotZK]
/-- Which list belongs to a server. -/
theorem gotPK_look {ws : List Int} {bs : List Nat} (h : bs.length = ws.length) {s : Int} {c : Value} (hl : TG.lookV (gotPK ws bs) s = some c) : ∃ (i : Nat) (b : Nat), ws[i]? = some s ∧ bs[i]? = some b ∧ c = pvK b := by
  have hm := TG.lookV_mem hl
  unfold gotPK at hm
  obtain ⟨x, hx, e⟩ := List.mem_map.1 hm
  obtain ⟨i, hi⟩ := List.getElem?_of_mem hx
  obtain ⟨h1, h2⟩ := List.getElem?_zip_eq_some.1 hi
  cases e
  exact ⟨i, x.2, h1, h2, rfl⟩

/-- What stands beside the tallies: who counted, their lists. -/
structure KSide (B wr' : Nat) (w : World) (b5 b8 b9 g : Nat) (ws : List Int) (bs : List Nat) (who lsv : Value) : Prop where
  c5 : Blk w b5 49 [.pointer (some ⟨g, 0, Option.none⟩)]
  c8 : Blk w b8 27 [who]
  c9 : Blk w b9 57 [lsv]
  row : Row .i64 3 w B who ws
  ls : w.ownsRow B 27 1 lsv bs.length (bs.map fun b => Value.slice (some ⟨b, 0, Option.none⟩) 2 2)
  bl : ∀ b ∈ bs, B ≤ b ∧ (∃ x y, Blk w b 3 [.int .i64 x, .int .i64 y]) ∧ who.ownBlock ≠ some b
  low : b5 < B ∧ b8 < B ∧ b9 < B ∧ b5 ≠ b8 ∧ b5 ≠ b9 ∧ b8 ≠ b9
theorem KSide.keeps {S : Nat → Prop} {B n : Nat} {w w' : World} {b5 b8 b9 g : Nat} {ws : List Int} {bs : List Nat} {who lsv : Value} (h : KSide B n w b5 b8 b9 g ws bs who lsv) (hk : Keeps S w w') (hS : ∀ b, S b → b < B ∧ b ≠ b5 ∧ b ≠ b8 ∧ b ≠ b9) : KSide B n w' b5 b8 b9 g ws bs who lsv :=
  ⟨h.c5.keeps hk (fun e => (hS _ e).2.1 rfl), h.c8.keeps hk (fun e => (hS _ e).2.2.1 rfl), h.c9.keeps hk (fun e => (hS _ e).2.2.2 rfl), h.row.keeps hk (fun b e f => by have := (h.row.lt b e).1; have := (hS b f).1; omega), owns_keeps h.ls hk (fun b e f => by have := (World.ownsRow.lt h.ls b e).1; have := (hS b f).1; omega),
    fun b hb => by
      obtain ⟨h1, ⟨x, y, h2⟩, h3⟩ := h.bl b hb
      exact ⟨h1, ⟨x, y, h2.keeps hk (fun f => by have := (hS b f).1; omega)⟩, h3⟩, h.low⟩
theorem KSide.grew {B n : Nat} {w w' : World} {b5 b8 b9 g : Nat} {ws : List Int} {bs : List Nat} {who lsv : Value} (h : KSide B n w b5 b8 b9 g ws bs who lsv) (hk : Keeps None w w') : KSide B n w' b5 b8 b9 g ws bs who lsv := h.keeps hk (fun _ f => f.elim)
/-- Behind some votes. -/
structure KAll (w0 wr : World) (B : Nat) (l : List Int) (bR b5 b8 b9 gS mS : Nat) (vS : Value) (gP mP : Nat) (vP : Value) (gZ mZ : Nat) (vZ : Value) (ws : List Int) (bs : List Nat) (gotS : List (Int × Value)) (who lsv : Value) : Prop where
  tS : KS.Tal wr gS mS vS (uniqF l) ((l.length : Int) + 1) mS gotS
  tP : KP.Tal wr gP mP vP (uniqF l) ((l.length : Int) + 1) mP (gotPK ws bs)
  tZ : KZ.Tal wr gZ mZ vZ (uniqF l) ((l.length : Int) + 1) mZ (gotZK ws gS)
  side : KSide B 0 wr b5 b8 b9 gS ws bs who lsv
  keys : gotS.map (·.1) = ws
  len : bs.length = ws.length
  one : ∀ p ∈ gotS, ∃ c : ByteArray, p.2 = .string c ∧ c.size = 1
  nd : ws.Nodup
  sub : ∀ x ∈ ws, x ∈ l
  res : Blk wr bR 4 [.bool false]
  keeps : Keeps None w0 wr
theorem KAll.short {w0 wr : World} {B : Nat} {l : List Int} {bR b5 b8 b9 gS mS : Nat} {vS : Value} {gP mP : Nat} {vP : Value} {gZ mZ : Nat} {vZ : Value} {ws : List Int} {bs : List Nat} {gotS : List (Int × Value)} {who lsv : Value} (h : KAll w0 wr B l bR b5 b8 b9 gS mS vS gP mP vP gZ mZ vZ ws bs gotS who lsv) : ws.length ≤ (uniqF l).length :=
  nodup_len _ _ h.nd (fun x hx => (uniqF_mem l x).2 (h.sub x hx))
/-- Where everything lies. -/
structure KLie (w0 : World) (B bR b5 b8 b9 gS mS : Nat) (vS : Value) (gP mP : Nat) (vP : Value) (gZ mZ : Nat) (vZ : Value) : Prop where
  a : w0.heap.size ≤ bR ∧ bR < mS ∧ mS < gS ∧ gS < b5
  s : ∀ b, vS.ownBlock = some b → mS ≤ b ∧ b < b5
  b : b5 < mP ∧ mP < gP ∧ gP < mZ
  p : ∀ b, vP.ownBlock = some b → mP ≤ b ∧ b < mZ
  c : mZ < gZ ∧ gZ < b8 ∧ b8 < b9 ∧ b9 < B
  z : ∀ b, vZ.ownBlock = some b → mZ ≤ b ∧ b < b8
section
variable {w0 wr w' : World} {B : Nat} {l : List Int} {bR b5 b8 b9 gS mS : Nat} {vS : Value} {gP mP : Nat} {vP : Value} {gZ mZ : Nat} {vZ : Value} {ws : List Int} {bs : List Nat} {gotS : List (Int × Value)} {who lsv : Value}
theorem KAll.grew (h : KAll w0 wr B l bR b5 b8 b9 gS mS vS gP mP vP gZ mZ vZ ws bs gotS who lsv) (hk : Keeps None wr w') : KAll w0 w' B l bR b5 b8 b9 gS mS vS gP mP vP gZ mZ vZ ws bs gotS who lsv :=
  ⟨h.tS.grew hk, h.tP.grew hk, h.tZ.grew hk, h.side.grew hk, h.keys, h.len, h.one, h.nd, h.sub, h.res.grew hk, h.keeps.trans hk⟩
end
/-- A number of seven bits is one letter. -/
theorem and127 (x : Int) : 0 ≤ bits .and .i64 x 127 ∧ bits .and .i64 x 127 ≤ 127 := by
  have h : bits .and .i64 x 127 = IntKind.i64.wrap (((BitVec.ofInt 64 x &&& BitVec.ofInt 64 127).toNat : Nat) : Int) := rfl
  have h2 : (BitVec.ofInt 64 x &&& BitVec.ofInt 64 127).toNat ≤ 127 := by
    rw [BitVec.toNat_and]
    have : (BitVec.ofInt 64 127).toNat = 127 := by decide
    rw [this]
    exact Nat.and_le_right
  rw [h, IntKind.wrap_i64]
  omega
theorem letter (x : Int) : (Utf8.encode (wrap32 (bits .and .i64 x 127))).size = 1 := by
  obtain ⟨h1, h2⟩ := and127 x
  obtain ⟨c, hc⟩ : ∃ c, c = bits .and .i64 x 127 := ⟨_, rfl⟩
  rw [← hc] at h1 h2 ⊢
  have hw : wrap32 c = c := IntWalk.wrap32_in c (by omega)
  rw [hw]
  have hv : Utf8.valid c = true := by
    unfold Utf8.valid
    simp
    omega
  unfold Utf8.encode
  simp only [hv, if_true]
  rw [if_pos (by omega)]
  rfl
section
variable {w0 wr w' : World} {B : Nat} {l : List Int} {bR b5 b8 b9 gS mS : Nat} {vS : Value} {gP mP : Nat} {vP : Value} {gZ mZ : Nat} {vZ : Value} {ws : List Int} {bs : List Nat} {gotS : List (Int × Value)} {who lsv : Value}
theorem KAll.need (h : KAll w0 wr B l bR b5 b8 b9 gS mS vS gP mP vP gZ mZ vZ ws bs gotS who lsv) : (ws.length : Int) < (l.length : Int) + 1 := by
  have := h.short
  have := uniqF_len l
  omega
end
theorem rows_unlike {w : World} {B B' e e' s s' n n' : Nat} {v v' : Value} {xs xs' : List Value} (h : w.ownsRow B e s v n xs) (h' : w.ownsRow B' e' s' v' n' xs') (he : e ≠ e') {b : Nat} (hb : v.ownBlock = some b) : v'.ownBlock ≠ some b := fun hb' => by
  obtain ⟨c1, h1⟩ := KS.owns_obj h hb
  obtain ⟨c2, h2⟩ := KS.owns_obj h' hb'
  rw [h1] at h2
  cases h2
  exact he rfl
theorem row_blk_unlike {w : World} {B e s n b t : Nat} {v : Value} {xs cs : List Value} (h : w.ownsRow B e s v n xs) (hb : Blk w b t cs) (he : e ≠ t) : v.ownBlock ≠ some b := fun e1 => by
  obtain ⟨c1, h1⟩ := KS.owns_obj h e1
  rw [hb] at h1
  cases h1
  exact he rfl
section
variable {B n : Nat} {w X wA : World} {b5 b8 b9 g : Nat} {ws : List Int} {bs : List Nat} {who lsv v' : Value}
theorem KSide.pushWho (h : KSide B n w b5 b8 b9 g ws bs who lsv) (kA : Keeps None w X) (hBw : B ≤ w.heap.size) {s : Int} (hr : Row .i64 3 wA B v' (ws ++ [s])) (hk : Keeps (OwnB who) X wA) (hl : v'.ownBlock = who.ownBlock ∨ v'.ownBlock = some X.heap.size) : KSide B n (wA.setCell ⟨b8, 0, Option.none⟩ v') b5 b8 b9 g (ws ++ [s]) bs v' lsv := by
  have hx := kA.size
  have hX := h.grew kA
  have hwl := hX.row.lt
  have ks : Keeps (One b8) wA (wA.setCell ⟨b8, 0, Option.none⟩ v') := (Keeps.refl _ _).setCell _ _ (fun _ => rfl)
  have hlow := h.low
  have hno : ∀ b, b < B → ¬ OwnB who b := fun b hb e => by have := (hwl b e).1; omega
  have hv' : ∀ b, v'.ownBlock = some b → B ≤ b := fun b e => (hr.lt b e).1
  have hls : ∀ b, lsv.ownBlock = some b → ¬ OwnB who b := fun b e f => rows_unlike hX.row.raw hX.ls (by decide) f e
  refine ⟨(hX.c5.keeps hk (hno _ hlow.1)).keeps ks hlow.2.2.2.1, (hX.c8.keeps hk (hno _ hlow.2.1)).set 0 v', (hX.c9.keeps hk (hno _ hlow.2.2.1)).keeps ks (fun e => hlow.2.2.2.2.2 e.symm), hr.keeps ks (fun b e f => by have := hv' b e; simp only [One] at f; omega), owns_keeps (owns_keeps hX.ls hk hls) ks (fun b e f => by have := (World.ownsRow.lt hX.ls b e).1; simp only [One] at f; omega), fun b hb => ?_, h.low⟩
  obtain ⟨h1, ⟨x, y, h2⟩, h3⟩ := h.bl b hb
  have hbl := h2.lt
  refine ⟨h1, ⟨x, y, ((h2.grew kA).keeps hk (fun e => h3 e)).keeps ks (fun e => by simp only [One] at e; omega)⟩, fun e => ?_⟩
  rcases hl with l | l
  · exact h3 (l ▸ e)
  · rw [e] at l; cases l; omega
theorem KSide.pushLs (h : KSide B n w b5 b8 b9 g ws bs who lsv) (kA : Keeps None w X) {b : Nat} {x0 y0 : Int} (hb : Blk w b 3 [.int .i64 x0, .int .i64 y0]) (hbB : B ≤ b) (hbw : who.ownBlock ≠ some b) (hr : wA.ownsRow B 27 1 v' (bs.length + 1) ((bs.map fun b => Value.slice (some ⟨b, 0, Option.none⟩) 2 2) ++ [.slice (some ⟨b, 0, Option.none⟩) 2 2])) (hk : Keeps (OwnB lsv) X wA) : KSide B n (wA.setCell ⟨b9, 0, Option.none⟩ v') b5 b8 b9 g ws (bs ++ [b]) who v' := by
  have hX := h.grew kA
  have hwl := World.ownsRow.lt hX.ls
  have ks : Keeps (One b9) wA (wA.setCell ⟨b9, 0, Option.none⟩ v') := (Keeps.refl _ _).setCell _ _ (fun _ => rfl)
  have hlow := h.low
  have hno : ∀ b, b < B → ¬ OwnB lsv b := fun b hb e => by have := (hwl b e).1; omega
  have blk : ∀ c, B ≤ c → (∃ x y, Blk w c 3 [.int .i64 x, .int .i64 y]) → ∃ x y, Blk (wA.setCell ⟨b9, 0, Option.none⟩ v') c 3 [.int .i64 x, .int .i64 y] := fun c hc ⟨x, y, h2⟩ => ⟨x, y, ((h2.grew kA).keeps hk (fun e => row_blk_unlike hX.ls (h2.grew kA) (by decide) e)).keeps ks (fun e => by simp only [One] at e; omega)⟩
  refine ⟨(hX.c5.keeps hk (hno _ hlow.1)).keeps ks hlow.2.2.2.2.1, (hX.c8.keeps hk (hno _ hlow.2.1)).keeps ks hlow.2.2.2.2.2, (hX.c9.keeps hk (hno _ hlow.2.2.1)).set 0 v', (hX.row.keeps hk (fun c e f => rows_unlike hX.ls hX.row.raw (by decide) f e)).keeps ks (fun c e f => by have := (hX.row.lt c e).1; simp only [One] at f; omega), ?_, fun c hc => ?_, h.low⟩
  · have := owns_keeps hr ks (fun c e f => by have := (World.ownsRow.lt hr c e).1; simp only [One] at f; omega)
    simpa using this
  · rcases List.mem_append.1 hc with hc | hc
    · obtain ⟨h1, h2, h3⟩ := h.bl c hc
      exact ⟨h1, blk c h1 h2, h3⟩
    · obtain rfl := List.mem_singleton.1 hc
      exact ⟨hbB, blk c hbB ⟨x0, y0, hb⟩, hbw⟩
end
theorem eq_nilP (w : World) (f : Fn) (b c : Array Value) : (binOp .eql 62 (.func f b c) .nilFunc).run Try.prog w = .ok (.bool false) w := by
  have h : ∀ d : Nat, (Op.equalIn (d + 1) 62 (.func f b c) .nilFunc).run Try.prog w = .ok false w := fun d => by
    simp [Op.equalIn, run_underlying Try.underlying62]
  simp only [binOp]
  simp [Op.equal, Op.maxDepth, h 9999]
theorem eq_nilS (w : World) (f : Fn) (b c : Array Value) : (binOp .eql 65 (.func f b c) .nilFunc).run Try.prog w = .ok (.bool false) w := by
  have h : ∀ d : Nat, (Op.equalIn (d + 1) 65 (.func f b c) .nilFunc).run Try.prog w = .ok false w := fun d => by
    simp [Op.equalIn, run_underlying Try.underlying65]
  simp only [binOp]
  simp [Op.equal, Op.maxDepth, h 9999]
theorem eq_nilZ (w : World) (f : Fn) (b c : Array Value) : (binOp .eql 68 (.func f b c) .nilFunc).run Try.prog w = .ok (.bool false) w := by
  have h : ∀ d : Nat, (Op.equalIn (d + 1) 68 (.func f b c) .nilFunc).run Try.prog w = .ok false w := fun d => by
    simp [Op.equalIn, run_underlying Try.underlying68]
  simp only [binOp]
  simp [Op.equal, Op.maxDepth, h 9999]
theorem KSide.mark {B n : Nat} {w : World} {b5 b8 b9 g : Nat} {ws : List Int} {bs : List Nat} {who lsv : Value} (h : KSide B n w b5 b8 b9 g ws bs who lsv) {b : Nat} (hb : b ∈ bs) (v : Int) : KSide B n (w.setCell ⟨b, 1, Option.none⟩ (.int .i64 v)) b5 b8 b9 g ws bs who lsv := by
  obtain ⟨h1, ⟨x, y, h2⟩, h3⟩ := h.bl b hb
  have hlow := h.low
  have ks : Keeps (One b) w (w.setCell ⟨b, 1, Option.none⟩ (.int .i64 v)) := (Keeps.refl _ _).setCell _ _ (fun _ => rfl)
  refine ⟨h.c5.keeps ks (fun e => by simp only [One] at e; omega), h.c8.keeps ks (fun e => by simp only [One] at e; omega), h.c9.keeps ks (fun e => by simp only [One] at e; omega), h.row.keeps ks (fun c e f => h3 (by rw [e]; simp only [One] at f; rw [f])), owns_keeps h.ls ks (fun c e f => row_blk_unlike h.ls h2 (by decide) (by rw [e]; simp only [One] at f; rw [f])), fun c hc => ?_, h.low⟩
  obtain ⟨g1, ⟨x', y', g2⟩, g3⟩ := h.bl c hc
  by_cases e : c = b
  · subst e
    exact ⟨g1, ⟨x', v, by simpa using g2.set 1 (.int .i64 v)⟩, g3⟩
  · exact ⟨g1, ⟨x', y', g2.keeps ks (fun f => e f)⟩, g3⟩
/-- An element of what Got goes over. -/
theorem zip_pick {α : Type} {grp : List Int} {got : List (Int × Value)} {bs : List α} {f : α → Value} (hf : bs.map f = TG.ansF grp got) {pre : List (Int × α)} {x : Int × α} (h : (pre ++ [x]) <+: (TG.hasF grp got).zip bs) : TG.lookV got x.1 = some (f x.2) := by
  have hm : x ∈ (TG.hasF grp got).zip bs := h.subset (by simp)
  refine zip_look grp got (x.1, f x.2) ?_
  rw [← hf, List.zip_map_right]
  exact List.mem_map.2 ⟨x, hm, rfl⟩
theorem KSide.keepsNew {S : Nat → Prop} {B n : Nat} {w w' : World} {b5 b8 b9 g : Nat} {ws : List Int} {bs : List Nat} {who lsv : Value} (h : KSide B n w b5 b8 b9 g ws bs who lsv) (hk : Keeps S w w') (hS : ∀ b, S b → B ≤ b) (hb : ∀ b ∈ bs, ¬ S b) (hw : ∀ b, who.ownBlock = some b → ¬ S b) (hl : ∀ b, lsv.ownBlock = some b → ¬ S b) : KSide B n w' b5 b8 b9 g ws bs who lsv := by
  have hlow := h.low
  refine ⟨h.c5.keeps hk (fun e => by have := hS _ e; omega), h.c8.keeps hk (fun e => by have := hS _ e; omega), h.c9.keeps hk (fun e => by have := hS _ e; omega), h.row.keeps hk hw, owns_keeps h.ls hk hl, fun b hb' => ?_, h.low⟩
  obtain ⟨h1, ⟨x, y, h2⟩, h3⟩ := h.bl b hb'
  exact ⟨h1, ⟨x, y, h2.keeps hk (hb b hb')⟩, h3⟩
theorem neq_ptr (w : World) (g : Nat) : (binOp .neq 49 (.pointer (some ⟨g, 0, Option.none⟩)) (.pointer (some ⟨g, 0, Option.none⟩))).run Try.prog w = .ok (.bool false) w := by
  have h : ∀ d : Nat, (Op.equalIn (d + 1) 49 (.pointer (some ⟨g, 0, Option.none⟩)) (.pointer (some ⟨g, 0, Option.none⟩))).run Try.prog w = .ok true w := fun d => by
    simp [Op.equalIn, run_underlying Try.underlying49, sameAddr]
  simp only [binOp]
  simp [Op.equal, Op.maxDepth, h 9999]
end Go.Proofs.Ytghbgcmhahndkaa
