/- Texts for LawBlkOne, part 4 of 6. -/
import Derived.Test.YtlamdhekjlnccaaZLawBlkOne3
import Derived.Laws.CopyRow
/- Blocks (chapter 11): what they are, when they are one, as bytes, and read; no program in sight. -/
namespace Go.Proofs.Ytlamdhekjlnccaa
namespace K

/-- An entry. -/
structure En where
  kind : Int
  text : ByteArray
  table : Int
  doc : Int
  ver : Int
  data : V
  hash : List Int
  gone : Bool
  ab : Int
  ae : Int
def noE : En := ⟨0, noT, 0, 0, 0, zV, Dig.Z32, false, 0, 0⟩
/-- A block. -/
structure Bk where
  index : Int
  time : Int
  txn : Int
  prev : List Int
  ents : List En
def noB : Bk := ⟨0, 0, 0, Dig.Z32, []⟩
/-- Has an entry nothing but its kind? -/
def nilE (e : En) : Prop := e.text.size = 0 ∧ e.table = 0 ∧ e.doc = 0 ∧ e.ver = 0 ∧ e.data = zV ∧ e.hash = Dig.Z32 ∧ e.gone = false ∧ e.ab = 0 ∧ e.ae = 0
/-- Is an entry one, but for its Data? -/
def formE (e : En) : Prop :=
  if e.kind = 1 then 1 ≤ e.text.size ∧ e.text.size ≤ 4096 ∧ nilE { e with text := noT }
  else if e.kind = 2 then (1 ≤ e.table ∧ e.table ≤ 64) ∧ (1 ≤ e.doc ∧ e.doc ≤ 65536) ∧ (0 ≤ e.ver ∧ e.ver ≤ 2147483648) ∧ nilE { e with data := zV, hash := Dig.Z32, gone := false, table := 0, doc := 0, ver := 0 } ∧ (e.gone = true → e.data = zV)
  else if e.kind = 3 then (1 ≤ e.table ∧ e.table ≤ 64) ∧ (1 ≤ e.doc ∧ e.doc ≤ 65536) ∧ (1 ≤ e.ver ∧ e.ver ≤ 2147483648) ∧ nilE { e with table := 0, doc := 0, ver := 0 }
  else if e.kind = 4 then (0 ≤ e.ab ∧ e.ab ≤ 2147483648) ∧ (0 ≤ e.ae ∧ e.ae ≤ 2147483648) ∧ nilE { e with ab := 0, ae := 0 }
  else if e.kind = 5 ∨ e.kind = 7 then (1 ≤ e.table ∧ e.table ≤ 64) ∧ 1 ≤ e.text.size ∧ e.text.size ≤ 40 ∧ nilE { e with table := 0, text := noT }
  else if e.kind = 6 then (1 ≤ e.table ∧ e.table ≤ 64) ∧ nilE { e with table := 0 }
  else False
open Classical in
/-- What is wrong with an entry. -/
noncomputable def chkE (e : En) : Int :=
  if formE e then (if e.kind ≠ 2 ∨ e.gone = true then 0 else if (encR e.data).2 ≠ 0 then (encR e.data).2 else if hashR e.data = e.hash then 0 else 18) else 3
/-- An entry's bytes. -/
def layE (e : En) : List Int :=
  e.kind :: (uvB e.table.toNat ++ (uvB e.doc.toNat ++ (uvB e.ver.toNat ++ (uvB e.text.size ++ (byI e.text ++ (uvB e.ab.toNat ++ (uvB e.ae.toNat ++ (if e.kind = 2 then e.hash else []))))))))
/-- What stands behind them. -/
def layD (data : Bool) (e : En) : List Int :=
  if e.kind = 2 then (if e.gone = true ∨ data = false then [0] else 1 :: (uvB (encR e.data).1.length ++ (encR e.data).1)) else []
def headL (b : Bk) : List Int := uvB b.index.toNat ++ (uvB b.time.toNat ++ (uvB b.txn.toNat ++ b.prev))
def layB (data : Bool) (b : Bk) : List Int := headL b ++ (uvB b.ents.length ++ b.ents.flatMap fun e => layE e ++ layD data e)
/-- What is wrong with a block. -/
noncomputable def chkB (b : Bk) : Int :=
  if (0 ≤ b.index ∧ b.index ≤ 2147483648) ∧ (0 ≤ b.time ∧ b.time ≤ 9007199254740992) ∧ (0 ≤ b.txn ∧ b.txn ≤ 9007199254740992) ∧ (1 ≤ b.ents.length ∧ b.ents.length ≤ 200) then
    (if firstBad (b.ents.map chkE) ≠ 0 then firstBad (b.ents.map chkE) else if 262144 < (layB true b).length then 5 else 0) else 1

/-- A number, 2^53 at most. -/
def rdN (l : List Int) : Rd Nat := (rdU l).bind fun v r => if 9007199254740992 < v then .bad 3 else .ok v r
/-- So many bytes. -/
def rdX (n : Nat) (l : List Int) : Rd (List Int) := if l.length < n then .bad 2 else .ok (l.take n) (l.drop n)
def bytS (l : List Int) : ByteArray := ⟨(l.map fun c => UInt8.ofNat c.toNat).toArray⟩
/-- What stands behind a revision's hash. -/
def rdD (e : En) (l : List Int) : Rd En := (rdB l).bind fun c r =>
  if c = 0 then .ok { e with gone := true } r
  else if c = 1 then (rdN r).bind fun n r => (rdX n r).bind fun p r => match readV true p with
    | .ok v _ => .ok { e with data := v } r
    | .bad _ => .bad 3
  else .bad 3
/-- An entry. -/
def rdE (l : List Int) : Rd En := (rdB l).bind fun k r => (rdN r).bind fun t r => (rdN r).bind fun d r => (rdN r).bind fun v r => (rdN r).bind fun n r => (rdX n r).bind fun s r => (rdN r).bind fun a r => (rdN r).bind fun b r =>
  if k = 2 then (rdX 32 r).bind fun h r => rdD ⟨k, bytS s, t, d, v, zV, h, false, a, b⟩ r else .ok ⟨k, bytS s, t, d, v, zV, Dig.Z32, false, a, b⟩ r
def rdEs : Nat → List En → List Int → Rd (List En)
  | 0, es, l => .ok es l
  | n + 1, es, l => (rdE l).bind fun e r => rdEs n (es ++ [e]) r
def rdBk (l : List Int) : Rd Bk := (rdN l).bind fun i r => (rdN r).bind fun t r => (rdN r).bind fun x r => (rdX 32 r).bind fun p r => (rdN r).bind fun n r => (rdEs n [] r).bind fun es r => .ok ⟨i, t, x, p, es⟩ r
/-- What Decode tells. -/
noncomputable def readB (l : List Int) : Rd Bk := match rdBk l with
  | .bad e => .bad e
  | .ok b r => if 0 < r.length then .bad 3 else if chkB b ≠ 0 then .bad (chkB b) else .ok b r

theorem ext_rdN : Ext rdN := Ext.bind ext_rdU fun v => Ext.ite (Ext.bad 3) (Ext.ok v)
theorem ext_rdX (n : Nat) : Ext (rdX n) := by
  intro l s
  unfold rdX
  by_cases h : l.length < n
  · rw [if_pos h]; exact .inl rfl
  · rw [if_neg h]
    simp only
    rw [if_neg (by rw [List.length_append]; omega), List.take_append_of_le_length (by omega), List.drop_append_of_le_length (by omega)]
theorem ext_rdD (e : En) : Ext (rdD e) := Ext.bind ext_rdB fun _ => Ext.ite (Ext.ok _) (Ext.ite (Ext.bind ext_rdN fun n => Ext.bind (ext_rdX n) fun p => by
  cases readV true p with
  | ok v r => exact Ext.ok _
  | bad e => exact Ext.bad 3) (Ext.bad 3))
theorem ext_rdE : Ext rdE := Ext.bind ext_rdB fun _ => Ext.bind ext_rdN fun _ => Ext.bind ext_rdN fun _ => Ext.bind ext_rdN fun _ => Ext.bind ext_rdN fun n => Ext.bind (ext_rdX n) fun _ => Ext.bind ext_rdN fun _ => Ext.bind ext_rdN fun _ =>
  Ext.ite (Ext.bind (ext_rdX 32) fun _ => ext_rdD _) (Ext.ok _)
theorem ext_rdEs : ∀ (n : Nat) (es : List En), Ext (rdEs n es)
  | 0, es => Ext.ok es
  | n + 1, es => Ext.bind ext_rdE fun e => ext_rdEs n (es ++ [e])
theorem ext_rdBk : Ext rdBk := Ext.bind ext_rdN fun _ => Ext.bind ext_rdN fun _ => Ext.bind ext_rdN fun _ => Ext.bind (ext_rdX 32) fun _ => Ext.bind ext_rdN fun n => Ext.bind (ext_rdEs n []) fun _ => Ext.ok _

theorem rdN_enc {u : Nat} (h : u ≤ 9007199254740992) (r : List Int) : rdN (uvB u ++ r) = .ok u r := by
  unfold rdN
  rw [rdU_enc (by omega)]
  simp only [Rd.bind]
  rw [if_neg (by omega)]
theorem rdX_enc (p r : List Int) : rdX p.length (p ++ r) = .ok p r := by
  unfold rdX
  rw [if_neg (by rw [List.length_append]; omega), List.take_left', List.drop_left'] <;> rfl
theorem bytS_byI (s : ByteArray) : bytS (byI s) = s := mk_byI s
theorem nat_int {x : Int} (h : 0 ≤ x) : ((x.toNat : Nat) : Int) = x := Int.toNat_of_nonneg h
/-- What the checks of an entry say of what stands in it. -/
theorem formE_rng {e : En} (h : formE e) : (1 ≤ e.kind ∧ e.kind ≤ 7) ∧ (0 ≤ e.table ∧ e.table ≤ 64) ∧ (0 ≤ e.doc ∧ e.doc ≤ 65536) ∧ (0 ≤ e.ver ∧ e.ver ≤ 2147483648) ∧ e.text.size ≤ 4096 ∧ (0 ≤ e.ab ∧ e.ab ≤ 2147483648) ∧ (0 ≤ e.ae ∧ e.ae ≤ 2147483648) ∧
    (e.kind ≠ 2 → e.data = zV ∧ e.hash = Dig.Z32 ∧ e.gone = false) ∧ (e.gone = true → e.data = zV) := by
  unfold formE nilE at h
  by_cases k1 : e.kind = 1
  · rw [if_pos k1] at h
    obtain ⟨h1, h2, h3, h4, h5, h6, h7, h8, h9, h10, h11⟩ := h
    simp only at h3 h4 h5 h6 h7 h8 h9 h10 h11
    exact ⟨by omega, by omega, by omega, by omega, by omega, by omega, by omega, fun _ => ⟨h7, h8, h9⟩, fun h => by rw [h9] at h; cases h⟩
  rw [if_neg k1] at h
  by_cases k2 : e.kind = 2
  · rw [if_pos k2] at h
    obtain ⟨a1, a2, a3, ⟨h3, h4, h5, h6, h7, h8, h9, h10, h11⟩, h12⟩ := h
    simp only at h3 h4 h5 h6 h7 h8 h9 h10 h11
    exact ⟨by omega, by omega, by omega, by omega, by omega, by omega, by omega, fun h => absurd k2 h, h12⟩
  rw [if_neg k2] at h
  by_cases k3 : e.kind = 3
  · rw [if_pos k3] at h
    obtain ⟨a1, a2, a3, h3, h4, h5, h6, h7, h8, h9, h10, h11⟩ := h
    simp only at h3 h4 h5 h6 h7 h8 h9 h10 h11
    exact ⟨by omega, by omega, by omega, by omega, by omega, by omega, by omega, fun _ => ⟨h7, h8, h9⟩, fun h => by rw [h9] at h; cases h⟩
  rw [if_neg k3] at h
  by_cases k4 : e.kind = 4
  · rw [if_pos k4] at h
    obtain ⟨a1, a2, h3, h4, h5, h6, h7, h8, h9, h10, h11⟩ := h
    simp only at h3 h4 h5 h6 h7 h8 h9 h10 h11
    exact ⟨by omega, by omega, by omega, by omega, by omega, by omega, by omega, fun _ => ⟨h7, h8, h9⟩, fun h => by rw [h9] at h; cases h⟩
  rw [if_neg k4] at h
  by_cases k5 : e.kind = 5 ∨ e.kind = 7
  · rw [if_pos k5] at h
    obtain ⟨a1, h1, h2, h3, h4, h5, h6, h7, h8, h9, h10, h11⟩ := h
    simp only at h3 h4 h5 h6 h7 h8 h9 h10 h11
    exact ⟨by omega, by omega, by omega, by omega, by omega, by omega, by omega, fun _ => ⟨h7, h8, h9⟩, fun h => by rw [h9] at h; cases h⟩
  rw [if_neg k5] at h
  by_cases k6 : e.kind = 6
  · rw [if_pos k6] at h
    obtain ⟨a1, h3, h4, h5, h6, h7, h8, h9, h10, h11⟩ := h
    simp only at h3 h4 h5 h6 h7 h8 h9 h10 h11
    exact ⟨by omega, by omega, by omega, by omega, by omega, by omega, by omega, fun _ => ⟨h7, h8, h9⟩, fun h => by rw [h9] at h; cases h⟩
  rw [if_neg k6] at h
  exact h.elim
theorem chkE_ok {e : En} (h : chkE e = 0) : formE e ∧ (e.kind = 2 → e.gone = false → (encR e.data).2 = 0 ∧ hashR e.data = e.hash) := by
  unfold chkE at h
  by_cases hf : formE e
  · rw [if_pos hf] at h
    refine ⟨hf, fun hk hg => ?_⟩
    rw [if_neg (by simp [hk, hg])] at h
    by_cases h2 : (encR e.data).2 = 0
    · rw [if_neg (by simpa using h2)] at h
      by_cases h3 : hashR e.data = e.hash
      · exact ⟨h2, h3⟩
      · rw [if_neg h3] at h; cases h
    · rw [if_pos h2] at h; exact absurd h h2
  · rw [if_neg hf] at h; cases h
/-- The values of an entry are as wide as integers are. -/
def RngE (e : En) : Prop := (∃ f, Rng f e.data) ∧ e.hash.length = 32
theorem En.ext' {a b : En} (h1 : a.kind = b.kind) (h2 : a.text = b.text) (h3 : a.table = b.table) (h4 : a.doc = b.doc) (h5 : a.ver = b.ver) (h6 : a.data = b.data) (h7 : a.hash = b.hash) (h8 : a.gone = b.gone) (h9 : a.ab = b.ab) (h10 : a.ae = b.ae) : a = b := by
  cases a; cases b; simp only at h1 h2 h3 h4 h5 h6 h7 h8 h9 h10; subst h1; subst h2; subst h3; subst h4; subst h5; subst h6; subst h7; subst h8; subst h9; subst h10; rfl
theorem back_decR {v : V} (h : ∃ f, Rng f v) (hc : chk 16 v = 0) (hl : (encV 16 v).length ≤ 65536) : readV true (encV 16 v) = .ok v [] := by
  obtain ⟨f, h⟩ := h
  have := rdV_enc 16 (f := f) [] hc h
  rw [List.append_nil] at this
  unfold readV
  rw [this]
  simp only
  rw [if_neg (by simpa using hc), if_neg (by simp), if_neg (by simp; omega)]
/-- What was laid is read as it was; without its data a revision is gone. -/
theorem rdE_enc (data : Bool) {e : En} (h : chkE e = 0) (hr : RngE e) (r : List Int) : rdE (layE e ++ (layD data e ++ r)) = .ok (if e.kind = 2 ∧ data = false then { e with gone := true, data := zV } else e) r := by
  obtain ⟨hf, hd⟩ := chkE_ok h
  obtain ⟨hk, ht, hdo, hv, hx, hab, hae, h2, hg⟩ := formE_rng hf
  have e1 : ∀ s, rdE (e.kind :: (uvB e.table.toNat ++ (uvB e.doc.toNat ++ (uvB e.ver.toNat ++ (uvB e.text.size ++ (byI e.text ++ (uvB e.ab.toNat ++ (uvB e.ae.toNat ++ s)))))))) =
      if e.kind = 2 then (rdX 32 s).bind fun h r => rdD ⟨e.kind, e.text, e.table, e.doc, e.ver, zV, h, false, e.ab, e.ae⟩ r else .ok ⟨e.kind, e.text, e.table, e.doc, e.ver, zV, Dig.Z32, false, e.ab, e.ae⟩ s := fun s => by
    unfold rdE
    simp only [rdB, Rd.bind]
    rw [rdN_enc (by omega)]
    simp only
    rw [rdN_enc (by omega)]
    simp only
    rw [rdN_enc (by omega)]
    simp only
    rw [rdN_enc (by omega)]
    simp only
    have := rdX_enc (byI e.text) (uvB e.ab.toNat ++ (uvB e.ae.toNat ++ s))
    rw [byI_len] at this
    rw [this]
    simp only
    rw [rdN_enc (by omega)]
    simp only
    rw [rdN_enc (by omega)]
    simp only
    rw [bytS_byI, nat_int ht.1, nat_int hdo.1, nat_int hv.1, nat_int hab.1, nat_int hae.1]
  have e2 : layE e ++ (layD data e ++ r) = e.kind :: (uvB e.table.toNat ++ (uvB e.doc.toNat ++ (uvB e.ver.toNat ++ (uvB e.text.size ++ (byI e.text ++ (uvB e.ab.toNat ++ (uvB e.ae.toNat ++ ((if e.kind = 2 then e.hash else []) ++ (layD data e ++ r))))))))) := by
    unfold layE; simp only [List.cons_append, List.append_assoc]
  rw [e2, e1]
  unfold layD
  by_cases k2 : e.kind = 2
  · simp only [if_pos k2]
    have h32 := rdX_enc e.hash ((if e.gone = true ∨ data = false then [0] else 1 :: (uvB (encR e.data).1.length ++ (encR e.data).1)) ++ r)
    rw [hr.2] at h32
    rw [h32]
    simp only [Rd.bind]
    unfold rdD
    by_cases hgd : e.gone = true ∨ data = false
    · rw [if_pos hgd]
      simp only [List.singleton_append, rdB, Rd.bind, if_true]
      by_cases hdf : data = false
      · rw [if_pos ⟨k2, hdf⟩]
      · have hgt : e.gone = true := hgd.resolve_right hdf
        rw [if_neg (fun h => hdf h.2)]
        exact congrArg (fun x => Rd.ok x r) (En.ext' rfl rfl rfl rfl rfl (hg hgt).symm rfl hgt.symm rfl rfl)
    · rw [if_neg hgd]
      have hgf : e.gone = false := by cases hq : e.gone with
        | true => exact absurd (.inl hq) hgd
        | false => rfl
      have hdt : ¬ data = false := fun h => hgd (.inr h)
      obtain ⟨he, hh⟩ := hd k2 hgf
      obtain ⟨hc, hl, hx⟩ := encR_ok he
      rw [hx, if_neg (fun h => hdt h.2)]
      simp only [List.cons_append, rdB, Rd.bind]
      rw [if_neg (by omega), if_pos trivial, List.append_assoc, rdN_enc (by omega)]
      simp only
      rw [rdX_enc]
      simp only
      rw [back_decR hr.1 hc hl]
      exact congrArg (fun x => Rd.ok x r) (En.ext' rfl rfl rfl rfl rfl rfl rfl hgf.symm rfl rfl)
  · simp only [if_neg k2, List.nil_append]
    obtain ⟨d1, d2, d3⟩ := h2 k2
    rw [if_neg (fun h => k2 h.1)]
    exact congrArg (fun x => Rd.ok x r) (En.ext' rfl rfl rfl rfl rfl d1.symm d2.symm d3.symm rfl rfl)
/-- An entry without its data. -/
def redE (data : Bool) (e : En) : En := if e.kind = 2 ∧ data = false then { e with gone := true, data := zV } else e
theorem rdEs_enc (data : Bool) : ∀ (es : List En) (es0 : List En) (r : List Int), (∀ e ∈ es, chkE e = 0 ∧ RngE e) → rdEs es.length es0 ((es.flatMap fun e => layE e ++ layD data e) ++ r) = .ok (es0 ++ es.map (redE data)) r
  | [], es0, r, _ => by simp [rdEs]
  | e :: es, es0, r, h => by
    rw [List.length_cons, rdEs, List.flatMap_cons, List.append_assoc, List.append_assoc]
    obtain ⟨h1, h2⟩ := h e (by simp)
    rw [rdE_enc data h1 h2]
    simp only [Rd.bind]
    rw [rdEs_enc data es _ r fun x hx => h x (List.mem_cons_of_mem _ hx)]
    simp [redE]
def RngB (b : Bk) : Prop := (∀ e ∈ b.ents, RngE e) ∧ b.prev.length = 32
theorem chkB_ok {b : Bk} (h : chkB b = 0) : ((0 ≤ b.index ∧ b.index ≤ 2147483648) ∧ (0 ≤ b.time ∧ b.time ≤ 9007199254740992) ∧ (0 ≤ b.txn ∧ b.txn ≤ 9007199254740992) ∧ (1 ≤ b.ents.length ∧ b.ents.length ≤ 200)) ∧ (∀ e ∈ b.ents, chkE e = 0) ∧ (layB true b).length ≤ 262144 := by
  unfold chkB at h
  by_cases h1 : (0 ≤ b.index ∧ b.index ≤ 2147483648) ∧ (0 ≤ b.time ∧ b.time ≤ 9007199254740992) ∧ (0 ≤ b.txn ∧ b.txn ≤ 9007199254740992) ∧ (1 ≤ b.ents.length ∧ b.ents.length ≤ 200)
  · rw [if_pos h1] at h
    by_cases h2 : firstBad (b.ents.map chkE) = 0
    · rw [if_neg (by simpa using h2)] at h
      by_cases h3 : 262144 < (layB true b).length
      · rw [if_pos h3] at h; cases h
      · exact ⟨h1, fun e he => firstBad_zero.1 h2 _ (List.mem_map_of_mem he), by omega⟩
    · rw [if_pos h2] at h; exact absurd h h2
  · rw [if_neg h1] at h; cases h
theorem rdBk_enc (data : Bool) {b : Bk} (h : chkB b = 0) (hr : RngB b) (r : List Int) : rdBk (layB data b ++ r) = .ok { b with ents := b.ents.map (redE data) } r := by
  obtain ⟨⟨h1, h2, h3, h4⟩, h5, -⟩ := chkB_ok h
  have e2 : layB data b ++ r = uvB b.index.toNat ++ (uvB b.time.toNat ++ (uvB b.txn.toNat ++ (b.prev ++ (uvB b.ents.length ++ ((b.ents.flatMap fun e => layE e ++ layD data e) ++ r))))) := by
    unfold layB headL; simp only [List.append_assoc]
  rw [e2]
  unfold rdBk
  rw [rdN_enc (by omega)]
  simp only [Rd.bind]
  rw [rdN_enc (by omega)]
  simp only
  rw [rdN_enc (by omega)]
  simp only
  have := rdX_enc b.prev (uvB b.ents.length ++ ((b.ents.flatMap fun e => layE e ++ layD data e) ++ r))
  rw [hr.2] at this
  rw [this]
  simp only
  rw [rdN_enc (by omega)]
  simp only
  rw [rdEs_enc data b.ents [] r fun e he => ⟨h5 e he, hr.1 e he⟩]
  simp only [List.nil_append, nat_int h1.1, nat_int h2.1, nat_int h3.1]
theorem red_true (l : List En) : l.map (redE true) = l := by
  refine (List.map_congr_left fun e _ => ?_).trans (List.map_id l)
  unfold redE
  rw [if_neg (fun h => by cases h.2)]; rfl
theorem readB_enc {b : Bk} (h : chkB b = 0) (hr : RngB b) : readB (layB true b) = .ok b [] := by
  have h1 := rdBk_enc true h hr []
  rw [List.append_nil, red_true] at h1
  unfold readB
  rw [h1]
  simp only
  rw [if_neg (by simp), if_neg (by simpa using h)]
theorem readB_short {b : Bk} (h : chkB b = 0) (hr : RngB b) {k : Nat} (hk : k < (layB true b).length) : readB ((layB true b).take k) = .bad 2 := by
  have h1 := ext_rdBk ((layB true b).take k) ((layB true b).drop k)
  have h2 := rdBk_enc true h hr []
  rw [List.append_nil] at h2
  rw [List.take_append_drop, h2] at h1
  unfold readB
  cases hq : rdBk ((layB true b).take k) with
  | ok a r =>
    rw [hq] at h1
    injection h1 with _ h1
    have := congrArg List.length h1
    simp at this
    omega
  | bad e =>
    rw [hq] at h1
    rcases h1 with rfl | h1
    · rfl
    · cases h1
theorem readB_more {b : Bk} (h : chkB b = 0) (hr : RngB b) : readB (layB true b ++ [0]) = .bad 3 := by
  unfold readB
  rw [rdBk_enc true h hr [0]]
  simp only
  rw [if_pos (by simp)]
theorem layB_inj {a b : Bk} (ha : chkB a = 0) (hb : chkB b = 0) (ra : RngB a) (rb : RngB b) (h : layB true a = layB true b) : a = b := by
  have h1 := readB_enc ha ra
  rw [h, readB_enc hb rb] at h1
  injection h1 with h1 _
  exact h1.symm
end K
end Go.Proofs.Ytlamdhekjlnccaa

/- Entries and blocks in memory (chapter 11). -/
namespace Go.Proofs.Ytlamdhekjlnccaa
open Go.RowKit
namespace K

abbrev R64 (x : Int) : Prop := -9223372036854775808 ≤ x ∧ x ≤ 9223372036854775807
/-- The 46 cells of an entry. -/
def enC (e : En) (dc : List Value) : List Value :=
  .int .i64 e.kind :: .string e.text :: .int .i64 e.table :: .int .i64 e.doc :: .int .i64 e.ver :: (dc ++ (hashC e.hash ++ [.bool e.gone, .int .i64 e.ab, .int .i64 e.ae]))
/-- They say e; what its Data say, P tells. -/
def EnP (P : V → List Value → Prop) (e : En) (cs : List Value) : Prop :=
  ∃ dc, cs = enC e dc ∧ P e.data dc ∧ dc.length = 6 ∧ Ones dc ∧ e.hash.length = 32 ∧ Byt e.hash ∧ e.text.size ≤ 140737488355328 ∧ (R64 e.kind ∧ R64 e.table ∧ R64 e.doc ∧ R64 e.ver ∧ R64 e.ab ∧ R64 e.ae)
theorem EnP.mono {P P' : V → List Value → Prop} (hP : ∀ v cs, P v cs → P' v cs) {e : En} {cs : List Value} (h : EnP P e cs) : EnP P' e cs := by
  obtain ⟨dc, h1, h2, h3⟩ := h
  exact ⟨dc, h1, hP _ _ h2, h3⟩
theorem EnP.len {P : V → List Value → Prop} {e : En} {cs : List Value} (h : EnP P e cs) : cs.length = 46 := by
  obtain ⟨dc, rfl, -, h1, -, h2, -⟩ := h
  simp [enC, h1, h2]
theorem EnP.one {P : V → List Value → Prop} {e : En} {cs : List Value} (h : EnP P e cs) : Ones cs := by
  obtain ⟨dc, rfl, -, -, h1, -⟩ := h
  intro u hu
  unfold enC at hu
  simp only [List.mem_cons, List.mem_append, List.not_mem_nil, or_false] at hu
  rcases hu with rfl | rfl | rfl | rfl | rfl | hu | hu | rfl | rfl | rfl
  all_goals first | rfl | exact h1 u hu | exact Ones.int _ _ u hu
abbrev IsE (f : Nat) (w : World) : En → List Value → Prop := EnP (IsV f w)
abbrev IsEo (O : Nat → Prop) (f : Nat) (w : World) : En → List Value → Prop := EnP (IsVo O f w)
/-- The 36 cells of a block. -/
def bkC (b : Bk) (se : Value) : List Value := .int .i64 b.index :: .int .i64 b.time :: .int .i64 b.txn :: (hashC b.prev ++ [se])
def BkP (P : En → List Value → Prop) (O : Nat → Prop) (w : World) (b : Bk) (cs : List Value) : Prop :=
  ∃ se, cs = bkC b se ∧ Els 46 noE P O w se b.ents ∧ b.prev.length = 32 ∧ Byt b.prev ∧ (R64 b.index ∧ R64 b.time ∧ R64 b.txn)
theorem BkP.len {P : En → List Value → Prop} {O : Nat → Prop} {w : World} {b : Bk} {cs : List Value} (h : BkP P O w b cs) : cs.length = 36 := by
  obtain ⟨se, rfl, -, h2, -⟩ := h
  simp [bkC, h2]
theorem BkP.one {P : En → List Value → Prop} {O : Nat → Prop} {w : World} {b : Bk} {cs : List Value} (h : BkP P O w b cs) : Ones cs := by
  obtain ⟨se, rfl, ⟨sp, cap, rfl, -⟩, -⟩ := h
  intro u hu
  unfold bkC at hu
  simp only [List.mem_cons, List.mem_append, List.not_mem_nil, or_false] at hu
  rcases hu with rfl | rfl | rfl | hu | rfl
  all_goals first | rfl | exact Ones.int _ _ u hu
abbrev IsB (f : Nat) (w : World) : Bk → List Value → Prop := BkP (IsE f w) (fun _ => True) w
abbrev IsBo (O : Nat → Prop) (f : Nat) (w : World) : Bk → List Value → Prop := BkP (IsEo O f w) O w
theorem IsE.below {w w' : World} (hb : Below w.heap.size w w') {f : Nat} {e : En} {cs : List Value} (h : IsE f w e cs) : IsE f w' e cs := EnP.mono (fun _ _ h => h.below hb) h
theorem IsB.below {w w' : World} (hb : Below w.heap.size w w') {f : Nat} {b : Bk} {cs : List Value} (h : IsB f w b cs) : IsB f w' b cs := by
  obtain ⟨se, h1, h2, h3⟩ := h
  exact ⟨se, h1, h2.keep (Keep.of_below hb) (fun b _ hl => hl) (fun _ h => h) fun _ _ h => IsE.below hb h, h3⟩
/-- Part of a block's cells. -/
theorem VBlk.part {T b : Nat} {w : World} {cs : List Value} (h : VBlk T w b cs) (a : List Value) (m : List Value) (z : List Value) (e : cs = a ++ (m ++ z)) : w.rangeAt b a.length m := by
  intro j u hj
  have := VBlk.rangeAt h (a.length + j) u (by rw [e, List.getElem?_append_right (by omega), Nat.add_sub_cancel_left]; rw [List.getElem?_append_left]; exact hj; rcases Nat.lt_or_ge j m.length with h | h; exact h; rw [List.getElem?_eq_none h] at hj; cases hj)
  rwa [Nat.zero_add] at this
theorem enC_data {T b : Nat} {w : World} {e : En} {dc : List Value} (h : VBlk T w b (enC e dc)) : w.rangeAt b 5 dc :=
  VBlk.part h [.int .i64 e.kind, .string e.text, .int .i64 e.table, .int .i64 e.doc, .int .i64 e.ver] dc _ rfl
theorem enC_hash {T b : Nat} {w : World} {e : En} {dc : List Value} (h : VBlk T w b (enC e dc)) (hd : dc.length = 6) : w.rangeAt b 11 (hashC e.hash) := by
  have := VBlk.part h (.int .i64 e.kind :: .string e.text :: .int .i64 e.table :: .int .i64 e.doc :: .int .i64 e.ver :: dc) (hashC e.hash) [.bool e.gone, .int .i64 e.ab, .int .i64 e.ae] (by simp [enC])
  simpa [hd] using this
theorem enC_tail {e : En} {dc : List Value} (hd : dc.length = 6) (hh : e.hash.length = 32) : (enC e dc)[43]? = some (.bool e.gone) ∧ (enC e dc)[44]? = some (.int .i64 e.ab) ∧ (enC e dc)[45]? = some (.int .i64 e.ae) := by
  have h1 : enC e dc = (.int .i64 e.kind :: .string e.text :: .int .i64 e.table :: .int .i64 e.doc :: .int .i64 e.ver :: (dc ++ hashC e.hash)) ++ [.bool e.gone, .int .i64 e.ab, .int .i64 e.ae] := by simp [enC]
  have h2 : (Value.int IntKind.i64 e.kind :: .string e.text :: .int .i64 e.table :: .int .i64 e.doc :: .int .i64 e.ver :: (dc ++ hashC e.hash)).length = 43 := by simp [hd, hh]
  rw [h1]
  refine ⟨?_, ?_, ?_⟩ <;> rw [List.getElem?_append_right (by omega), h2] <;> rfl
/-- The cells of an entry that lies in a block of its own. -/
structure EnAt (T b : Nat) (w : World) (e : En) (dc : List Value) : Prop where
  blk : VBlk T w b (enC e dc)
  dl : dc.length = 6
  hl : e.hash.length = 32
section
variable {T b : Nat} {w w' : World} {e : En} {dc : List Value}
theorem EnAt.kind (h : EnAt T b w e dc) : w.cell? ⟨b, 0, none⟩ = some (.int .i64 e.kind) := h.blk.cell 0 (by simp [enC])
theorem EnAt.text (h : EnAt T b w e dc) : w.cell? ⟨b, 1, none⟩ = some (.string e.text) := h.blk.cell 1 (by simp [enC])
theorem EnAt.table (h : EnAt T b w e dc) : w.cell? ⟨b, 2, none⟩ = some (.int .i64 e.table) := h.blk.cell 2 (by simp [enC])
theorem EnAt.doc (h : EnAt T b w e dc) : w.cell? ⟨b, 3, none⟩ = some (.int .i64 e.doc) := h.blk.cell 3 (by simp [enC])
theorem EnAt.ver (h : EnAt T b w e dc) : w.cell? ⟨b, 4, none⟩ = some (.int .i64 e.ver) := h.blk.cell 4 (by simp [enC])
theorem EnAt.data (h : EnAt T b w e dc) : w.rangeAt b 5 dc := enC_data h.blk
theorem EnAt.hash (h : EnAt T b w e dc) : w.rangeAt b 11 (hashC e.hash) := enC_hash h.blk h.dl
theorem EnAt.len (h : EnAt T b w e dc) : (enC e dc).length = 46 := by simp [enC, h.dl, h.hl]
theorem EnAt.gone (h : EnAt T b w e dc) : w.cell? ⟨b, 43, none⟩ = some (.bool e.gone) := by
  have := h.blk.cell 43 (by rw [h.len]; omega)
  rw [this, List.getD_eq_getElem?_getD, (enC_tail h.dl h.hl).1]; rfl
theorem EnAt.ab (h : EnAt T b w e dc) : w.cell? ⟨b, 44, none⟩ = some (.int .i64 e.ab) := by
  have := h.blk.cell 44 (by rw [h.len]; omega)
  rw [this, List.getD_eq_getElem?_getD, (enC_tail h.dl h.hl).2.1]; rfl
theorem EnAt.ae (h : EnAt T b w e dc) : w.cell? ⟨b, 45, none⟩ = some (.int .i64 e.ae) := by
  have := h.blk.cell 45 (by rw [h.len]; omega)
  rw [this, List.getD_eq_getElem?_getD, (enC_tail h.dl h.hl).2.2]; rfl
theorem EnAt.at' (h : EnAt T b w e dc) : w.rangeAt b 44 [.int .i64 e.ab, .int .i64 e.ae] := by
  intro j u hj
  match j, hj with
  | 0, hj => cases hj; exact h.ab
  | 1, hj => cases hj; exact h.ae
theorem EnAt.keep (h : EnAt T b w e dc) {K : Nat → Prop} (hk : Keep K w w') (hb : K b) : EnAt T b w' e dc := ⟨VBlk.keep h.blk hk hb, h.dl, h.hl⟩
theorem EnAt.below (h : EnAt T b w e dc) (hk : Below w.heap.size w w') : EnAt T b w' e dc := ⟨VBlk.below h.blk hk h.blk.lt, h.dl, h.hl⟩
end
end K
end Go.Proofs.Ytlamdhekjlnccaa

/- Walks over the slots that are asked for: parts of a block, stored. -/
namespace Go.Proofs.Ytlamdhekjlnccaa
open Go.RowKit
namespace K
variable {n : Nat} {Q : Exit → Act → World → Prop} {l : Env} {w w' : World} {ops : Array Oper} {o : Oper} {rest : List Oper} {d : Nat}
/-- Some cells in the middle of a block. -/
theorem WL.storeMid {t mm T b off : Nat} {x y : Operand} {m cs : List Value} (hg : o.guard = none) (hd : o.dst = none) (ho : o.op = .store t x y) (hx : evl l x = some (.pointer (some ⟨b, off, none⟩))) (hy : evl l y = some (.agg m.toArray))
    (ht : cellsN (tyOf ty t) = some mm) (hb : VBlk T w b cs) (hm : m.length = mm) (hfit : off + mm ≤ cs.length) (h1 : Ones m) (h : WL n ops Q rest l (w.setRow b (cs.take off ++ m ++ cs.drop (off + mm)).toArray)) : WL n ops Q (o :: rest) l w :=
  WL.stepU hg hd (fun a ha => by
    obtain ⟨_, -, -, hsz⟩ := cellsN_ok tyOk ht
    have hs : (sizeOf t).run Try.prog w = .ok mm w := by
      cases hq : Try.prog.info? t with
      | none => rw [hq] at hsz; cases hsz
      | some q => rw [hq] at hsz; simp at hsz; simp [sizeOf, typeInfo, hq, hsz]
    have hrun := run_storeCells_at (P := Try.prog) b off T m 0 cs.toArray w hb (by simp only [List.size_toArray]; omega) h1
    simp only [Nat.add_zero] at hrun
    subst hm
    unfold execOp
    rw [ho]
    simp [ha.eval hx, ha.eval hy, Instr.storeAt, Instr.sureAddr, storeVar, hs, Value.cells, hrun]) h
theorem all_run {a : Act} {t e s m b off : Nat} {x : Operand} (ho : o.op = .slice t x none none none) (ht : tyOf ty t = some (.arr m e s)) (hx : a.eval x = .pointer (some ⟨b, off, none⟩)) : (execOp a.eval o).run Try.prog w = .ok (.value (.slice (some ⟨b, off, none⟩) m m)) w := by
  obtain ⟨hu, hse, -⟩ := TyOk.of tyOk ht
  have h1 : Try.prog.elem t = e := by simp [Program.elem, hu]
  have h2 : Try.prog.arrayLen t = m := by simp [Program.arrayLen, hu]
  have hs : (sizeOf e).run Try.prog w = .ok s w := by
    cases hq : Try.prog.info? e with
    | none => rw [hq] at hse; cases hse
    | some q => rw [hq] at hse; simp at hse; simp [sizeOf, typeInfo, hq, hse]
  have hr := run_sliceAt_array_all (P := Try.prog) w t ⟨b, off, none⟩ (by rw [h1, h2]; exact hu)
  unfold execOp
  rw [ho]
  have ha : slicedAt ⟨b, off, none⟩ 0 m m s = .slice (some ⟨b, off, none⟩) m m := by
    unfold slicedAt
    by_cases h0 : m = 0
    · rw [if_pos h0]; simp
    · rw [if_neg h0, Nat.zero_mul]; rfl
  simp [hx, hr, h1, h2, hs, ha]
/-- An array as a slice. -/
theorem WL.all {t e s m b off : Nat} {x : Operand} (hg : o.guard = none) (hd : o.dst = some d) (hn : Nat.blt d n = true) (ho : o.op = .slice t x none none none) (ht : tyOf ty t = some (.arr m e s)) (hx : evl l x = some (.pointer (some ⟨b, off, none⟩)))
    (h : WL n ops Q rest ((d, .slice (some ⟨b, off, none⟩) m m) :: l) w) : WL n ops Q (o :: rest) l w := WL.step hg hd hn (fun _ ha => all_run ho ht (ha.eval hx)) h
/-- An element of an array. -/
theorem WL.elem {t e m : Nat} {x i : Operand} {cs : List Value} {k : IntKind} {v : Value} (j : Nat) (hg : o.guard = none) (hd : o.dst = some d) (hn : Nat.blt d n = true) (ho : o.op = .index t x i) (ht : tyOf ty t = some (.arr m e 1)) (he : scal (tyOf ty e) = true)
    (hx : evl l x = some (.agg cs.toArray)) (hi : evl l i = some (.int k (j : Int))) (hj : j < m) (hv : cs[j]? = some v) (h : WL n ops Q rest ((d, v) :: l) w) : WL n ops Q (o :: rest) l w :=
  WL.step hg hd hn (fun a ha => by
    obtain ⟨hu, hse, -⟩ := TyOk.of tyOk ht
    obtain ⟨ie, hie, hsz⟩ := Option.map_eq_some_iff.1 hse
    have hd : ∃ d, Try.prog.underlying e = some d ∧ (match d with | .struct _ | .array _ _ => false | _ => true) = true := by
      cases hq : tyOf ty e with
      | none => rw [hq] at he; cases he
      | some z =>
        rw [hq] at he
        have hz := TyOk.of tyOk hq
        cases z with
        | int k => exact ⟨_, hz, rfl⟩
        | str => exact ⟨_, hz, rfl⟩
        | bool => exact ⟨_, hz, rfl⟩
        | ptr e => exact ⟨_, hz, rfl⟩
        | slice e s => exact ⟨_, hz.1, rfl⟩
        | struct m fs => cases he
        | arr m e s => cases he
    obtain ⟨dd, h1, h2⟩ := hd
    have := run_index_arr (P := Try.prog) w t e m dd ie hu hie hsz h1 (by cases dd <;> first | rfl | exact absurd h2 (by simp)) cs.toArray k j hj v (by simpa using hv)
    unfold execOp
    rw [ho]
    simp [ha.eval hx, ha.eval hi, this]) h
section
variable {S : World → Prop} {m fuel : Nat} {listed : Array Bool}
theorem WD.all {oi : Oper} {t e s mm b off : Nat} {x : Operand} (i : Nat) (hi : ops[i]? = some oi) (hs : mayB ops listed i m = true) (hd : oi.dst = some d) (hn : Nat.blt d n = true) (hQ : Passes Q) (hw : wants ops l oi = some true)
    (ho : oi.op = .slice t x none none none) (ht : tyOf ty t = some (.arr mm e s)) (hx : evl l x = some (.pointer (some ⟨b, off, none⟩))) (hS : listed.getD m false = true ∨ S w)
    (h : WD n ops Q S m fuel (listed.setIfInBounds i true) ((d, .slice (some ⟨b, off, none⟩) mm mm) :: l) w) : WD n ops Q S m (fuel + 1) listed l w :=
  WD.first i hi hs hd hn hQ (fun _ ha => .inl ⟨wants_run ha hw, fun _ _ => all_run ho ht (ha.eval hx)⟩) hS h
end
end K
end Go.Proofs.Ytlamdhekjlnccaa

/- Blocks are read (chapter 11): the reader's fail, number, take, byte. -/
namespace Go.Proofs.Ytlamdhekjlnccaa
open Go.RowKit
namespace K
/-- The reader lies in block rb: what is left, and its error. -/
structure RB (B : Nat) (w : World) (rb : Nat) (l : List Int) (e : Int) : Prop where
  rlt : rb < B
  byt : Byt l
  ex : ∃ sp cap, VBlk 60 w rb [.slice sp l.length cap, .int .i64 e] ∧ SlB (fun b => b < B ∧ b ≠ rb) w (.slice sp l.length cap) l
theorem RB.keep {B : Nat} {w w' : World} {rb : Nat} {l : List Int} {e : Int} (h : RB B w rb l e) {K : Nat → Prop} (hk : Keep K w w') (hK : ∀ b, b < B → K b) : RB B w' rb l e := by
  obtain ⟨sp, cap, h1, h2⟩ := h.ex
  exact ⟨h.rlt, h.byt, sp, cap, h1.keep hk (hK _ h.rlt), h2.keep hk fun b hb => hK b hb.1⟩
theorem RB.mono {B B' : Nat} {w : World} {rb : Nat} {l : List Int} {e : Int} (h : RB B w rb l e) (hB : B ≤ B') : RB B' w rb l e := by
  obtain ⟨sp, cap, h1, h2⟩ := h.ex
  exact ⟨Nat.lt_of_lt_of_le h.rlt hB, h.byt, sp, cap, h1, h2.mono fun b hb => ⟨Nat.lt_of_lt_of_le hb.1 hB, hb.2⟩⟩
/-- Its error becomes another one. -/
theorem RB.setE {B : Nat} {w : World} {rb : Nat} {l : List Int} {e : Int} (h : RB B w rb l e) (x : Int) : RB B (w.setCell ⟨rb, 1, none⟩ (.int .i64 x)) rb l x := by
  obtain ⟨sp, cap, h1, h2⟩ := h.ex
  exact ⟨h.rlt, h.byt, sp, cap, h1.set 1 (.int .i64 x), h2.keep (K := fun b => b ≠ rb) ((Keep.refl _ w).setCell (fun hk => hk rfl) _) fun b hb => hb.2⟩
/-- What is left becomes an end of it. -/
theorem RB.setL {B : Nat} {w : World} {rb : Nat} {l l' : List Int} {e : Int} {v' : Value} (h : RB B w rb l e) (hb : Byt l') (hv : SlB (fun b => b < B ∧ b ≠ rb) w v' l') : RB B (w.setCell ⟨rb, 0, none⟩ v') rb l' e := by
  obtain ⟨sp, cap, h1, h2⟩ := h.ex
  obtain ⟨sp', cap', rfl, -⟩ := hv.sl
  exact ⟨h.rlt, hb, sp', cap', h1.set 0 (.slice sp' l'.length cap'), hv.keep (K := fun b => b ≠ rb) ((Keep.refl _ w).setCell (fun hk => hk rfl) _) fun b hb => hb.2⟩
section
variable {n : Nat} {Q : Exit → Act → World → Prop} {l : Env} {w w' : World} {ops : Array Oper} {o : Oper} {rest : List Oper} {d : Nat}
theorem WL.uptoB {O : Nat → Prop} {t e : Nat} {x hi : Operand} {v : Value} {kk : IntKind} {z : Int} {zs : List Int} {w0 : World} (hg : o.guard = none) (hd : o.dst = some d) (hn : Nat.blt d n = true) (ho : o.op = .slice t x none (some hi) none) (ht : tyOf ty t = some (.slice e 1))
    (hx : evl l x = some v) (hhi : evl l hi = some (.int kk z)) (h0 : 0 ≤ z) (h1 : z ≤ zs.length) (hs : SlB O w0 v zs) (h : ∀ v', SlB O w0 v' (zs.take z.toNat) → WL n ops Q rest ((d, v') :: l) w) : WL n ops Q (o :: rest) l w := by
  have hs0 := hs.sl
  have hlt := hs.lt
  obtain ⟨sp, cap, rfl, hc, hm, hr, hn0⟩ := hs.sl
  refine WL.step hg hd hn (v := sliced sp 0 z.toNat cap 1) (fun a ha => ?_) (h _ ⟨sl_to hs0 (by omega), fun hl0 b o s m c e => ?_⟩)
  · obtain ⟨hu, hsz⟩ := TyOk.of tyOk ht
    have he : Try.prog.elem t = e := by simp [Program.elem, hu]
    have hu' : Try.prog.underlying t = some (.slice (Try.prog.elem t)) := by rw [he]; exact hu
    have hs : (sizeOf e).run Try.prog w = .ok 1 w := by
      cases hq : Try.prog.info? e with
      | none => rw [hq] at hsz; cases hsz
      | some q => rw [hq] at hsz; simp at hsz; simp [sizeOf, typeInfo, hq, hsz]
    unfold execOp
    rw [ho]
    simp [ha.eval hx, ha.eval hhi, run_sliceAt_slice w t _ _ _ _ hu', run_slice_h w t sp zs.length cap hu' kk z h0 (by omega), he, hs]
  · unfold sliced at e
    injection e with e1 _ _
    cases sp with
    | none => split at e1 <;> cases e1
    | some p =>
      obtain ⟨pb, po, ps⟩ := p
      have := hlt (by rw [List.length_take] at hl0; omega) pb po ps _ _ rfl
      split at e1
      · cases e1; exact this
      · have e2 := congrArg (fun q => q.map Addr.block) e1
        have e3 : ((⟨pb, po, ps⟩ : Addr).add (0 * 1)).block = pb := by unfold Addr.add; split <;> rfl
        simp only [Option.map_some, Option.some.injEq, e3] at e2
        rw [← e2]; exact this
end
section
variable {B rb : Nat} {w : World} {l : List Int} {e : Int}
theorem fail11_any (h : RB B w rb l e) (x : Int) :
    Calls Try.prog 25 #[.pointer (some ⟨rb, 0, none⟩), .int .i64 x] w fun r w' => r = .returned (.tuple #[]) ∧ RB B w' rb l (if e = 0 then x else e) ∧ KeepR rb w w' := by
  refine enter (args := [.pointer (some ⟨rb, 0, none⟩), .int .i64 x]) Try.func25 rfl Try.ntmps25 rfl ?_
  obtain ⟨sp, cap, h1, h2⟩ := h.ex
  repeat (first | ((with_reducible refine WL.topT ?_ ?_); omega) | ((with_reducible refine WL.topF ?_ ?_); omega) | ((with_reducible refine WL.top64 ?_ ?_); omega) | refine WC.seq ?_ | refine WC.block ?_ | refine WC.region ?_ | refine WL.nil ?_ | refine WC.skip ?_ | refine WC.exit ?_ | refine WC.ret ?_ | refine WQ.then rfl ?_ | refine WQ.thenExit ?_ | refine WQ.thenRet ?_ | refine WQ.blk ?_ | refine WQ.blkRet ?_ | refine WQ.blkHere rfl ?_ | refine WQ.blkOther rfl ?_ | refine WL.pure rfl rfl rfl rfl ?_ | refine WL.on rfl rfl ?_ | refine WL.off rfl rfl rfl ?_ | refine WC.condTrue rfl ?_ | refine WC.condFalse rfl ?_)
  refine WL.load rfl rfl rfl rfl rfl rfl (h1.cell 1 (by simp)) ?_
  by_cases he : e = 0
  · rw [if_pos he]
    repeat (first | ((with_reducible refine WL.topT ?_ ?_); omega) | ((with_reducible refine WL.topF ?_ ?_); omega) | ((with_reducible refine WL.top64 ?_ ?_); omega) | refine WC.seq ?_ | refine WC.block ?_ | refine WC.region ?_ | refine WL.nil ?_ | refine WC.skip ?_ | refine WC.exit ?_ | refine WC.ret ?_ | refine WQ.then rfl ?_ | refine WQ.thenExit ?_ | refine WQ.thenRet ?_ | refine WQ.blk ?_ | refine WQ.blkRet ?_ | refine WQ.blkHere rfl ?_ | refine WQ.blkOther rfl ?_ | refine WL.pure rfl rfl rfl rfl ?_ | refine WL.on rfl rfl ?_ | refine WL.off rfl rfl rfl ?_ | refine WC.condTrue rfl ?_ | refine WC.condFalse rfl ?_)
    refine WL.store rfl rfl rfl rfl rfl rfl (by kernel_rfl) (h1.cell 1 (by simp)) (h1.free 1) ?_
    repeat (first | ((with_reducible refine WL.topT ?_ ?_); omega) | ((with_reducible refine WL.topF ?_ ?_); omega) | ((with_reducible refine WL.top64 ?_ ?_); omega) | refine WC.seq ?_ | refine WC.block ?_ | refine WC.region ?_ | refine WL.nil ?_ | refine WC.skip ?_ | refine WC.exit ?_ | refine WC.ret ?_ | refine WQ.then rfl ?_ | refine WQ.thenExit ?_ | refine WQ.thenRet ?_ | refine WQ.blk ?_ | refine WQ.blkRet ?_ | refine WQ.blkHere rfl ?_ | refine WQ.blkOther rfl ?_ | refine WL.pure rfl rfl rfl rfl ?_ | refine WL.on rfl rfl ?_ | refine WL.off rfl rfl rfl ?_ | refine WC.condTrue rfl ?_ | refine WC.condFalse rfl ?_)
    exact WQ.end0 rfl ⟨rfl, h.setE x, KeepR.set _ _ _ _⟩
  · rw [if_neg he]
    repeat (first | ((with_reducible refine WL.topT ?_ ?_); omega) | ((with_reducible refine WL.topF ?_ ?_); omega) | ((with_reducible refine WL.top64 ?_ ?_); omega) | refine WC.seq ?_ | refine WC.block ?_ | refine WC.region ?_ | refine WL.nil ?_ | refine WC.skip ?_ | refine WC.exit ?_ | refine WC.ret ?_ | refine WQ.then rfl ?_ | refine WQ.thenExit ?_ | refine WQ.thenRet ?_ | refine WQ.blk ?_ | refine WQ.blkRet ?_ | refine WQ.blkHere rfl ?_ | refine WQ.blkOther rfl ?_ | refine WL.pure rfl rfl rfl rfl ?_ | refine WL.on rfl rfl ?_ | refine WL.off rfl rfl rfl ?_ | refine WC.condTrue rfl ?_ | refine WC.condFalse rfl ?_)
    exact WQ.end0 rfl ⟨rfl, h, KeepR.refl _ _⟩
theorem number11r_any (h : RB B w rb l e) :
    Calls Try.prog 22 #[.pointer (some ⟨rb, 0, none⟩)] w fun r w' => ∃ (u : Nat) (l' : List Int) (e' : Int), r = .returned (.int .i64 u) ∧ u ≤ 9007199254740992 ∧ RB B w' rb l' e' ∧ KeepR rb w w' ∧ Out rdN l e u l' e' := by
  refine enter (args := [.pointer (some ⟨rb, 0, none⟩)]) Try.func22 rfl Try.ntmps22 rfl ?_
  obtain ⟨sp, cap, h1, h2⟩ := h.ex
  repeat (first | ((with_reducible refine WL.topT ?_ ?_); omega) | ((with_reducible refine WL.topF ?_ ?_); omega) | ((with_reducible refine WL.top64 ?_ ?_); omega) | refine WC.seq ?_ | refine WC.block ?_ | refine WC.region ?_ | refine WL.nil ?_ | refine WC.skip ?_ | refine WC.exit ?_ | refine WC.ret ?_ | refine WQ.then rfl ?_ | refine WQ.thenExit ?_ | refine WQ.thenRet ?_ | refine WQ.blk ?_ | refine WQ.blkRet ?_ | refine WQ.blkHere rfl ?_ | refine WQ.blkOther rfl ?_ | refine WL.pure rfl rfl rfl rfl ?_ | refine WL.on rfl rfl ?_ | refine WL.off rfl rfl rfl ?_ | refine WC.condTrue rfl ?_ | refine WC.condFalse rfl ?_)
  refine WL.load rfl rfl rfl rfl rfl rfl (h1.cell 1 (by simp)) ?_
  by_cases he : e = 0
  · subst he
    repeat (first | ((with_reducible refine WL.topT ?_ ?_); omega) | ((with_reducible refine WL.topF ?_ ?_); omega) | ((with_reducible refine WL.top64 ?_ ?_); omega) | refine WC.seq ?_ | refine WC.block ?_ | refine WC.region ?_ | refine WL.nil ?_ | refine WC.skip ?_ | refine WC.exit ?_ | refine WC.ret ?_ | refine WQ.then rfl ?_ | refine WQ.thenExit ?_ | refine WQ.thenRet ?_ | refine WQ.blk ?_ | refine WQ.blkRet ?_ | refine WQ.blkHere rfl ?_ | refine WQ.blkOther rfl ?_ | refine WL.pure rfl rfl rfl rfl ?_ | refine WL.on rfl rfl ?_ | refine WL.off rfl rfl rfl ?_ | refine WC.condTrue rfl ?_ | refine WC.condFalse rfl ?_)
    refine WL.load rfl rfl rfl rfl rfl rfl (h1.cell 0 (by simp)) ?_
    refine WL.call rfl rfl rfl rfl rfl Try.func39 rfl (by kernel_rfl) (readUvarint_any h2.sl h.byt) ?_
    rintro _ _ ⟨rfl, rfl⟩
    refine ⟨_, rfl, ?_⟩
    unfold ruV
    cases hr : rdU l with
    | bad x =>
      have hx := rdUF_bad 10 false l x hr
      repeat (first | ((with_reducible refine WL.topT ?_ ?_); omega) | ((with_reducible refine WL.topF ?_ ?_); omega) | ((with_reducible refine WL.top64 ?_ ?_); omega) | refine WC.seq ?_ | refine WC.block ?_ | refine WC.region ?_ | refine WL.nil ?_ | refine WC.skip ?_ | refine WC.exit ?_ | refine WC.ret ?_ | refine WQ.then rfl ?_ | refine WQ.thenExit ?_ | refine WQ.thenRet ?_ | refine WQ.blk ?_ | refine WQ.blkRet ?_ | refine WQ.blkHere rfl ?_ | refine WQ.blkOther rfl ?_ | refine WL.pure rfl rfl rfl rfl ?_ | refine WL.on rfl rfl ?_ | refine WL.off rfl rfl rfl ?_ | refine WC.condTrue rfl ?_ | refine WC.condFalse rfl ?_)
      refine WL.call rfl rfl rfl rfl rfl Try.func25 rfl (by kernel_rfl) (fail11_any h x) ?_
      rintro _ w2 ⟨rfl, hr2, hk⟩
      refine ⟨_, rfl, ?_⟩
      rw [if_pos rfl] at hr2
      repeat (first | ((with_reducible refine WL.topT ?_ ?_); omega) | ((with_reducible refine WL.topF ?_ ?_); omega) | ((with_reducible refine WL.top64 ?_ ?_); omega) | refine WC.seq ?_ | refine WC.block ?_ | refine WC.region ?_ | refine WL.nil ?_ | refine WC.skip ?_ | refine WC.exit ?_ | refine WC.ret ?_ | refine WQ.then rfl ?_ | refine WQ.thenExit ?_ | refine WQ.thenRet ?_ | refine WQ.blk ?_ | refine WQ.blkRet ?_ | refine WQ.blkHere rfl ?_ | refine WQ.blkOther rfl ?_ | refine WL.pure rfl rfl rfl rfl ?_ | refine WL.on rfl rfl ?_ | refine WL.off rfl rfl rfl ?_ | refine WC.condTrue rfl ?_ | refine WC.condFalse rfl ?_)
      exact WQ.ret1 rfl rfl ⟨0, l, x, rfl, by omega, hr2, hk, Nat.le_refl _, fun h => absurd rfl h, fun _ => by unfold rdN; rw [hr]; exact ⟨rfl, by omega⟩⟩
    | ok u r =>
      obtain ⟨hcan, hu⟩ := rdU_can h.byt hr
      have hdrop : l.drop (((l.length - r.length : Nat) : Int).toNat) = r := by rw [hcan]; simp
      have hlr : r.length ≤ l.length := by rw [hcan]; simp
      by_cases hbig : 9007199254740992 < u
      · repeat (first | ((with_reducible refine WL.topT ?_ ?_); omega) | ((with_reducible refine WL.topF ?_ ?_); omega) | ((with_reducible refine WL.top64 ?_ ?_); omega) | refine WC.seq ?_ | refine WC.block ?_ | refine WC.region ?_ | refine WL.nil ?_ | refine WC.skip ?_ | refine WC.exit ?_ | refine WC.ret ?_ | refine WQ.then rfl ?_ | refine WQ.thenExit ?_ | refine WQ.thenRet ?_ | refine WQ.blk ?_ | refine WQ.blkRet ?_ | refine WQ.blkHere rfl ?_ | refine WQ.blkOther rfl ?_ | refine WL.pure rfl rfl rfl rfl ?_ | refine WL.on rfl rfl ?_ | refine WL.off rfl rfl rfl ?_ | refine WC.condTrue rfl ?_ | refine WC.condFalse rfl ?_)
        refine WL.call rfl rfl rfl rfl rfl Try.func25 rfl (by kernel_rfl) (fail11_any h 3) ?_
        rintro _ w2 ⟨rfl, hr2, hk⟩
        refine ⟨_, rfl, ?_⟩
        rw [if_pos rfl] at hr2
        repeat (first | ((with_reducible refine WL.topT ?_ ?_); omega) | ((with_reducible refine WL.topF ?_ ?_); omega) | ((with_reducible refine WL.top64 ?_ ?_); omega) | refine WC.seq ?_ | refine WC.block ?_ | refine WC.region ?_ | refine WL.nil ?_ | refine WC.skip ?_ | refine WC.exit ?_ | refine WC.ret ?_ | refine WQ.then rfl ?_ | refine WQ.thenExit ?_ | refine WQ.thenRet ?_ | refine WQ.blk ?_ | refine WQ.blkRet ?_ | refine WQ.blkHere rfl ?_ | refine WQ.blkOther rfl ?_ | refine WL.pure rfl rfl rfl rfl ?_ | refine WL.on rfl rfl ?_ | refine WL.off rfl rfl rfl ?_ | refine WC.condTrue rfl ?_ | refine WC.condFalse rfl ?_)
        exact WQ.ret1 rfl rfl ⟨0, l, 3, rfl, by omega, hr2, hk, Nat.le_refl _, fun h => absurd rfl h, fun _ => by unfold rdN; rw [hr]; simp only [Rd.bind]; rw [if_pos hbig]; exact ⟨rfl, by omega⟩⟩
      · have e8 : IntKind.i64.wrap (u : Int) = (u : Int) := by rw [IntKind.wrap_i64]; omega
        repeat (first | ((with_reducible refine WL.topT ?_ ?_); omega) | ((with_reducible refine WL.topF ?_ ?_); omega) | ((with_reducible refine WL.top64 ?_ ?_); omega) | refine WC.seq ?_ | refine WC.block ?_ | refine WC.region ?_ | refine WL.nil ?_ | refine WC.skip ?_ | refine WC.exit ?_ | refine WC.ret ?_ | refine WQ.then rfl ?_ | refine WQ.thenExit ?_ | refine WQ.thenRet ?_ | refine WQ.blk ?_ | refine WQ.blkRet ?_ | refine WQ.blkHere rfl ?_ | refine WQ.blkOther rfl ?_ | refine WL.pure rfl rfl rfl rfl ?_ | refine WL.on rfl rfl ?_ | refine WL.off rfl rfl rfl ?_ | refine WC.condTrue rfl ?_ | refine WC.condFalse rfl ?_)
        refine WL.load rfl rfl rfl rfl rfl rfl (h1.cell 0 (by simp)) ?_
        repeat (first | ((with_reducible refine WL.topT ?_ ?_); omega) | ((with_reducible refine WL.topF ?_ ?_); omega) | ((with_reducible refine WL.top64 ?_ ?_); omega) | refine WC.seq ?_ | refine WC.block ?_ | refine WC.region ?_ | refine WL.nil ?_ | refine WC.skip ?_ | refine WC.exit ?_ | refine WC.ret ?_ | refine WQ.then rfl ?_ | refine WQ.thenExit ?_ | refine WQ.thenRet ?_ | refine WQ.blk ?_ | refine WQ.blkRet ?_ | refine WQ.blkHere rfl ?_ | refine WQ.blkOther rfl ?_ | refine WL.pure rfl rfl rfl rfl ?_ | refine WL.on rfl rfl ?_ | refine WL.off rfl rfl rfl ?_ | refine WC.condTrue rfl ?_ | refine WC.condFalse rfl ?_)
        refine WL.fromB (z := ((l.length - r.length : Nat) : Int)) rfl rfl rfl rfl rfl rfl rfl (by omega) (by omega) h2 fun v' hv' => ?_
        rw [hdrop] at hv'
        have hv : v'.oneCell' = true := by obtain ⟨_, _, rfl, -⟩ := hv'.sl; rfl
        repeat (first | ((with_reducible refine WL.topT ?_ ?_); omega) | ((with_reducible refine WL.topF ?_ ?_); omega) | ((with_reducible refine WL.top64 ?_ ?_); omega) | refine WC.seq ?_ | refine WC.block ?_ | refine WC.region ?_ | refine WL.nil ?_ | refine WC.skip ?_ | refine WC.exit ?_ | refine WC.ret ?_ | refine WQ.then rfl ?_ | refine WQ.thenExit ?_ | refine WQ.thenRet ?_ | refine WQ.blk ?_ | refine WQ.blkRet ?_ | refine WQ.blkHere rfl ?_ | refine WQ.blkOther rfl ?_ | refine WL.pure rfl rfl rfl rfl ?_ | refine WL.on rfl rfl ?_ | refine WL.off rfl rfl rfl ?_ | refine WC.condTrue rfl ?_ | refine WC.condFalse rfl ?_)
        refine WL.store rfl rfl rfl rfl rfl hv (by kernel_rfl) (h1.cell 0 (by simp)) (h1.free 0) ?_
        repeat (first | ((with_reducible refine WL.topT ?_ ?_); omega) | ((with_reducible refine WL.topF ?_ ?_); omega) | ((with_reducible refine WL.top64 ?_ ?_); omega) | refine WC.seq ?_ | refine WC.block ?_ | refine WC.region ?_ | refine WL.nil ?_ | refine WC.skip ?_ | refine WC.exit ?_ | refine WC.ret ?_ | refine WQ.then rfl ?_ | refine WQ.thenExit ?_ | refine WQ.thenRet ?_ | refine WQ.blk ?_ | refine WQ.blkRet ?_ | refine WQ.blkHere rfl ?_ | refine WQ.blkOther rfl ?_ | refine WL.pure rfl rfl rfl rfl ?_ | refine WL.on rfl rfl ?_ | refine WL.off rfl rfl rfl ?_ | refine WC.condTrue rfl ?_ | refine WC.condFalse rfl ?_)
        exact WQ.ret1 rfl rfl ⟨u, r, 0, rfl, by omega, h.setL (by have := h.byt; rw [hcan] at this; exact this.right) hv', KeepR.set _ _ _ _, hlr, fun h => absurd rfl h, fun _ => by unfold rdN; rw [hr]; simp only [Rd.bind]; rw [if_neg hbig]; simp⟩
  · repeat (first | ((with_reducible refine WL.topT ?_ ?_); omega) | ((with_reducible refine WL.topF ?_ ?_); omega) | ((with_reducible refine WL.top64 ?_ ?_); omega) | refine WC.seq ?_ | refine WC.block ?_ | refine WC.region ?_ | refine WL.nil ?_ | refine WC.skip ?_ | refine WC.exit ?_ | refine WC.ret ?_ | refine WQ.then rfl ?_ | refine WQ.thenExit ?_ | refine WQ.thenRet ?_ | refine WQ.blk ?_ | refine WQ.blkRet ?_ | refine WQ.blkHere rfl ?_ | refine WQ.blkOther rfl ?_ | refine WL.pure rfl rfl rfl rfl ?_ | refine WL.on rfl rfl ?_ | refine WL.off rfl rfl rfl ?_ | refine WC.condTrue rfl ?_ | refine WC.condFalse rfl ?_)
    exact WQ.ret1 rfl rfl ⟨0, l, e, rfl, by omega, h, KeepR.refl _ _, .ofBad he⟩
theorem take_any {n : Nat} (h : RB B w rb l e) (hn : n ≤ 9007199254740992) :
    Calls Try.prog 23 #[.pointer (some ⟨rb, 0, none⟩), .int .i64 n] w fun r w' => ∃ (v : Value) (x : List Int) (l' : List Int) (e' : Int), r = .returned v ∧ SlB (fun b => b < B ∧ b ≠ rb) w' v x ∧ Byt x ∧ (e' = 0 → x.length = n) ∧ (e' ≠ 0 → x = []) ∧ RB B w' rb l' e' ∧ KeepR rb w w' ∧ Out (rdX n) l e x l' e' := by
  refine enter (args := [.pointer (some ⟨rb, 0, none⟩), .int .i64 n]) Try.func23 rfl Try.ntmps23 rfl ?_
  obtain ⟨sp, cap, h1, h2⟩ := h.ex
  have nilB : ∀ w : World, SlB (fun b => b < B ∧ b ≠ rb) w (.slice none 0 0) [] := fun w => ⟨Sl.nil _ _, fun h => by simp at h⟩
  repeat (first | ((with_reducible refine WL.topT ?_ ?_); omega) | ((with_reducible refine WL.topF ?_ ?_); omega) | ((with_reducible refine WL.top64 ?_ ?_); omega) | refine WC.seq ?_ | refine WC.block ?_ | refine WC.region ?_ | refine WL.nil ?_ | refine WC.skip ?_ | refine WC.exit ?_ | refine WC.ret ?_ | refine WQ.then rfl ?_ | refine WQ.thenExit ?_ | refine WQ.thenRet ?_ | refine WQ.blk ?_ | refine WQ.blkRet ?_ | refine WQ.blkHere rfl ?_ | refine WQ.blkOther rfl ?_ | refine WL.pure rfl rfl rfl rfl ?_ | refine WL.on rfl rfl ?_ | refine WL.off rfl rfl rfl ?_ | refine WC.condTrue rfl ?_ | refine WC.condFalse rfl ?_)
  refine WL.load rfl rfl rfl rfl rfl rfl (h1.cell 1 (by simp)) ?_
  by_cases he : e = 0
  · subst he
    by_cases hs : l.length < n
    · repeat (first | ((with_reducible refine WL.topT ?_ ?_); omega) | ((with_reducible refine WL.topF ?_ ?_); omega) | ((with_reducible refine WL.top64 ?_ ?_); omega) | refine WC.seq ?_ | refine WC.block ?_ | refine WC.region ?_ | refine WL.nil ?_ | refine WC.skip ?_ | refine WC.exit ?_ | refine WC.ret ?_ | refine WQ.then rfl ?_ | refine WQ.thenExit ?_ | refine WQ.thenRet ?_ | refine WQ.blk ?_ | refine WQ.blkRet ?_ | refine WQ.blkHere rfl ?_ | refine WQ.blkOther rfl ?_ | refine WL.pure rfl rfl rfl rfl ?_ | refine WL.on rfl rfl ?_ | refine WL.off rfl rfl rfl ?_ | refine WC.condTrue rfl ?_ | refine WC.condFalse rfl ?_)
      refine WL.load rfl rfl rfl rfl rfl rfl (h1.cell 0 (by simp)) ?_
      repeat (first | ((with_reducible refine WL.topT ?_ ?_); omega) | ((with_reducible refine WL.topF ?_ ?_); omega) | ((with_reducible refine WL.top64 ?_ ?_); omega) | refine WC.seq ?_ | refine WC.block ?_ | refine WC.region ?_ | refine WL.nil ?_ | refine WC.skip ?_ | refine WC.exit ?_ | refine WC.ret ?_ | refine WQ.then rfl ?_ | refine WQ.thenExit ?_ | refine WQ.thenRet ?_ | refine WQ.blk ?_ | refine WQ.blkRet ?_ | refine WQ.blkHere rfl ?_ | refine WQ.blkOther rfl ?_ | refine WL.pure rfl rfl rfl rfl ?_ | refine WL.on rfl rfl ?_ | refine WL.off rfl rfl rfl ?_ | refine WC.condTrue rfl ?_ | refine WC.condFalse rfl ?_)
      refine WL.call rfl rfl rfl rfl rfl Try.func25 rfl (by kernel_rfl) (fail11_any h 2) ?_
      rintro _ w2 ⟨rfl, hr2, hk⟩
      refine ⟨_, rfl, ?_⟩
      rw [if_pos rfl] at hr2
      obtain ⟨sp2, cap2, h3, -⟩ := hr2.ex
      repeat (first | ((with_reducible refine WL.topT ?_ ?_); omega) | ((with_reducible refine WL.topF ?_ ?_); omega) | ((with_reducible refine WL.top64 ?_ ?_); omega) | refine WC.seq ?_ | refine WC.block ?_ | refine WC.region ?_ | refine WL.nil ?_ | refine WC.skip ?_ | refine WC.exit ?_ | refine WC.ret ?_ | refine WQ.then rfl ?_ | refine WQ.thenExit ?_ | refine WQ.thenRet ?_ | refine WQ.blk ?_ | refine WQ.blkRet ?_ | refine WQ.blkHere rfl ?_ | refine WQ.blkOther rfl ?_ | refine WL.pure rfl rfl rfl rfl ?_ | refine WL.on rfl rfl ?_ | refine WL.off rfl rfl rfl ?_ | refine WC.condTrue rfl ?_ | refine WC.condFalse rfl ?_)
      refine WL.load rfl rfl rfl rfl rfl rfl (h3.cell 1 (by simp)) ?_
      repeat (first | ((with_reducible refine WL.topT ?_ ?_); omega) | ((with_reducible refine WL.topF ?_ ?_); omega) | ((with_reducible refine WL.top64 ?_ ?_); omega) | refine WC.seq ?_ | refine WC.block ?_ | refine WC.region ?_ | refine WL.nil ?_ | refine WC.skip ?_ | refine WC.exit ?_ | refine WC.ret ?_ | refine WQ.then rfl ?_ | refine WQ.thenExit ?_ | refine WQ.thenRet ?_ | refine WQ.blk ?_ | refine WQ.blkRet ?_ | refine WQ.blkHere rfl ?_ | refine WQ.blkOther rfl ?_ | refine WL.pure rfl rfl rfl rfl ?_ | refine WL.on rfl rfl ?_ | refine WL.off rfl rfl rfl ?_ | refine WC.condTrue rfl ?_ | refine WC.condFalse rfl ?_)
      exact WQ.ret1 rfl rfl ⟨_, [], l, 2, rfl, nilB _, Byt.nil, fun h => by omega, fun _ => rfl, hr2, hk, Nat.le_refl _, fun h => absurd rfl h, fun _ => by unfold rdX; rw [if_pos hs]; exact ⟨rfl, by omega⟩⟩
    · have htl : (l.take ((n : Int).toNat)) = l.take n := by simp
      have hdl : (l.drop ((n : Int).toNat)) = l.drop n := by simp
      repeat (first | ((with_reducible refine WL.topT ?_ ?_); omega) | ((with_reducible refine WL.topF ?_ ?_); omega) | ((with_reducible refine WL.top64 ?_ ?_); omega) | refine WC.seq ?_ | refine WC.block ?_ | refine WC.region ?_ | refine WL.nil ?_ | refine WC.skip ?_ | refine WC.exit ?_ | refine WC.ret ?_ | refine WQ.then rfl ?_ | refine WQ.thenExit ?_ | refine WQ.thenRet ?_ | refine WQ.blk ?_ | refine WQ.blkRet ?_ | refine WQ.blkHere rfl ?_ | refine WQ.blkOther rfl ?_ | refine WL.pure rfl rfl rfl rfl ?_ | refine WL.on rfl rfl ?_ | refine WL.off rfl rfl rfl ?_ | refine WC.condTrue rfl ?_ | refine WC.condFalse rfl ?_)
      refine WL.load rfl rfl rfl rfl rfl rfl (h1.cell 0 (by simp)) ?_
      repeat (first | ((with_reducible refine WL.topT ?_ ?_); omega) | ((with_reducible refine WL.topF ?_ ?_); omega) | ((with_reducible refine WL.top64 ?_ ?_); omega) | refine WC.seq ?_ | refine WC.block ?_ | refine WC.region ?_ | refine WL.nil ?_ | refine WC.skip ?_ | refine WC.exit ?_ | refine WC.ret ?_ | refine WQ.then rfl ?_ | refine WQ.thenExit ?_ | refine WQ.thenRet ?_ | refine WQ.blk ?_ | refine WQ.blkRet ?_ | refine WQ.blkHere rfl ?_ | refine WQ.blkOther rfl ?_ | refine WL.pure rfl rfl rfl rfl ?_ | refine WL.on rfl rfl ?_ | refine WL.off rfl rfl rfl ?_ | refine WC.condTrue rfl ?_ | refine WC.condFalse rfl ?_)
      refine WL.load rfl rfl rfl rfl rfl rfl (h1.cell 1 (by simp)) ?_
      repeat (first | ((with_reducible refine WL.topT ?_ ?_); omega) | ((with_reducible refine WL.topF ?_ ?_); omega) | ((with_reducible refine WL.top64 ?_ ?_); omega) | refine WC.seq ?_ | refine WC.block ?_ | refine WC.region ?_ | refine WL.nil ?_ | refine WC.skip ?_ | refine WC.exit ?_ | refine WC.ret ?_ | refine WQ.then rfl ?_ | refine WQ.thenExit ?_ | refine WQ.thenRet ?_ | refine WQ.blk ?_ | refine WQ.blkRet ?_ | refine WQ.blkHere rfl ?_ | refine WQ.blkOther rfl ?_ | refine WL.pure rfl rfl rfl rfl ?_ | refine WL.on rfl rfl ?_ | refine WL.off rfl rfl rfl ?_ | refine WC.condTrue rfl ?_ | refine WC.condFalse rfl ?_)
      refine WL.load rfl rfl rfl rfl rfl rfl (h1.cell 0 (by simp)) ?_
      repeat (first | ((with_reducible refine WL.topT ?_ ?_); omega) | ((with_reducible refine WL.topF ?_ ?_); omega) | ((with_reducible refine WL.top64 ?_ ?_); omega) | refine WC.seq ?_ | refine WC.block ?_ | refine WC.region ?_ | refine WL.nil ?_ | refine WC.skip ?_ | refine WC.exit ?_ | refine WC.ret ?_ | refine WQ.then rfl ?_ | refine WQ.thenExit ?_ | refine WQ.thenRet ?_ | refine WQ.blk ?_ | refine WQ.blkRet ?_ | refine WQ.blkHere rfl ?_ | refine WQ.blkOther rfl ?_ | refine WL.pure rfl rfl rfl rfl ?_ | refine WL.on rfl rfl ?_ | refine WL.off rfl rfl rfl ?_ | refine WC.condTrue rfl ?_ | refine WC.condFalse rfl ?_)
      refine WL.uptoB (z := (n : Int)) rfl rfl rfl rfl rfl rfl rfl (by omega) (by omega) h2 fun v3 hv3 => ?_
      rw [htl] at hv3
      repeat (first | ((with_reducible refine WL.topT ?_ ?_); omega) | ((with_reducible refine WL.topF ?_ ?_); omega) | ((with_reducible refine WL.top64 ?_ ?_); omega) | refine WC.seq ?_ | refine WC.block ?_ | refine WC.region ?_ | refine WL.nil ?_ | refine WC.skip ?_ | refine WC.exit ?_ | refine WC.ret ?_ | refine WQ.then rfl ?_ | refine WQ.thenExit ?_ | refine WQ.thenRet ?_ | refine WQ.blk ?_ | refine WQ.blkRet ?_ | refine WQ.blkHere rfl ?_ | refine WQ.blkOther rfl ?_ | refine WL.pure rfl rfl rfl rfl ?_ | refine WL.on rfl rfl ?_ | refine WL.off rfl rfl rfl ?_ | refine WC.condTrue rfl ?_ | refine WC.condFalse rfl ?_)
      refine WL.load rfl rfl rfl rfl rfl rfl (h1.cell 0 (by simp)) ?_
      repeat (first | ((with_reducible refine WL.topT ?_ ?_); omega) | ((with_reducible refine WL.topF ?_ ?_); omega) | ((with_reducible refine WL.top64 ?_ ?_); omega) | refine WC.seq ?_ | refine WC.block ?_ | refine WC.region ?_ | refine WL.nil ?_ | refine WC.skip ?_ | refine WC.exit ?_ | refine WC.ret ?_ | refine WQ.then rfl ?_ | refine WQ.thenExit ?_ | refine WQ.thenRet ?_ | refine WQ.blk ?_ | refine WQ.blkRet ?_ | refine WQ.blkHere rfl ?_ | refine WQ.blkOther rfl ?_ | refine WL.pure rfl rfl rfl rfl ?_ | refine WL.on rfl rfl ?_ | refine WL.off rfl rfl rfl ?_ | refine WC.condTrue rfl ?_ | refine WC.condFalse rfl ?_)
      refine WL.fromB (z := (n : Int)) rfl rfl rfl rfl rfl rfl rfl (by omega) (by omega) h2 fun v' hv' => ?_
      rw [hdl] at hv'
      have hv : v'.oneCell' = true := by obtain ⟨_, _, rfl, -⟩ := hv'.sl; rfl
      repeat (first | ((with_reducible refine WL.topT ?_ ?_); omega) | ((with_reducible refine WL.topF ?_ ?_); omega) | ((with_reducible refine WL.top64 ?_ ?_); omega) | refine WC.seq ?_ | refine WC.block ?_ | refine WC.region ?_ | refine WL.nil ?_ | refine WC.skip ?_ | refine WC.exit ?_ | refine WC.ret ?_ | refine WQ.then rfl ?_ | refine WQ.thenExit ?_ | refine WQ.thenRet ?_ | refine WQ.blk ?_ | refine WQ.blkRet ?_ | refine WQ.blkHere rfl ?_ | refine WQ.blkOther rfl ?_ | refine WL.pure rfl rfl rfl rfl ?_ | refine WL.on rfl rfl ?_ | refine WL.off rfl rfl rfl ?_ | refine WC.condTrue rfl ?_ | refine WC.condFalse rfl ?_)
      refine WL.store rfl rfl rfl rfl rfl hv (by kernel_rfl) (h1.cell 0 (by simp)) (h1.free 0) ?_
      repeat (first | ((with_reducible refine WL.topT ?_ ?_); omega) | ((with_reducible refine WL.topF ?_ ?_); omega) | ((with_reducible refine WL.top64 ?_ ?_); omega) | refine WC.seq ?_ | refine WC.block ?_ | refine WC.region ?_ | refine WL.nil ?_ | refine WC.skip ?_ | refine WC.exit ?_ | refine WC.ret ?_ | refine WQ.then rfl ?_ | refine WQ.thenExit ?_ | refine WQ.thenRet ?_ | refine WQ.blk ?_ | refine WQ.blkRet ?_ | refine WQ.blkHere rfl ?_ | refine WQ.blkOther rfl ?_ | refine WL.pure rfl rfl rfl rfl ?_ | refine WL.on rfl rfl ?_ | refine WL.off rfl rfl rfl ?_ | refine WC.condTrue rfl ?_ | refine WC.condFalse rfl ?_)
      exact WQ.ret1 rfl rfl ⟨v3, l.take n, l.drop n, 0, rfl, hv3.keep (K := fun b => b ≠ rb) ((Keep.refl _ w).setCell (fun hk => hk rfl) _) (fun b hb => hb.2), fun c hc => h.byt c (List.mem_of_mem_take hc), fun _ => by rw [List.length_take]; omega, fun h => absurd rfl h,
        h.setL (fun c hc => h.byt c (List.mem_of_mem_drop hc)) hv', KeepR.set _ _ _ _, by rw [List.length_drop]; omega, fun h => absurd rfl h, fun _ => by unfold rdX; rw [if_neg hs]; exact ⟨rfl, rfl, rfl⟩⟩
  · repeat (first | ((with_reducible refine WL.topT ?_ ?_); omega) | ((with_reducible refine WL.topF ?_ ?_); omega) | ((with_reducible refine WL.top64 ?_ ?_); omega) | refine WC.seq ?_ | refine WC.block ?_ | refine WC.region ?_ | refine WL.nil ?_ | refine WC.skip ?_ | refine WC.exit ?_ | refine WC.ret ?_ | refine WQ.then rfl ?_ | refine WQ.thenExit ?_ | refine WQ.thenRet ?_ | refine WQ.blk ?_ | refine WQ.blkRet ?_ | refine WQ.blkHere rfl ?_ | refine WQ.blkOther rfl ?_ | refine WL.pure rfl rfl rfl rfl ?_ | refine WL.on rfl rfl ?_ | refine WL.off rfl rfl rfl ?_ | refine WC.condTrue rfl ?_ | refine WC.condFalse rfl ?_)
    refine WL.load rfl rfl rfl rfl rfl rfl (h1.cell 1 (by simp)) ?_
    repeat (first | ((with_reducible refine WL.topT ?_ ?_); omega) | ((with_reducible refine WL.topF ?_ ?_); omega) | ((with_reducible refine WL.top64 ?_ ?_); omega) | refine WC.seq ?_ | refine WC.block ?_ | refine WC.region ?_ | refine WL.nil ?_ | refine WC.skip ?_ | refine WC.exit ?_ | refine WC.ret ?_ | refine WQ.then rfl ?_ | refine WQ.thenExit ?_ | refine WQ.thenRet ?_ | refine WQ.blk ?_ | refine WQ.blkRet ?_ | refine WQ.blkHere rfl ?_ | refine WQ.blkOther rfl ?_ | refine WL.pure rfl rfl rfl rfl ?_ | refine WL.on rfl rfl ?_ | refine WL.off rfl rfl rfl ?_ | refine WC.condTrue rfl ?_ | refine WC.condFalse rfl ?_)
    exact WQ.ret1 rfl rfl ⟨_, [], l, e, rfl, nilB _, Byt.nil, fun h => absurd h he, fun _ => rfl, h, KeepR.refl _ _, Out.ofBad he⟩
theorem byte11_any (h : RB B w rb l e) :
    Calls Try.prog 40 #[.pointer (some ⟨rb, 0, none⟩)] w fun r w' => ∃ c l' e', r = .returned (.int .u8 c) ∧ 0 ≤ c ∧ c ≤ 255 ∧ RB B w' rb l' e' ∧ KeepR rb w w' ∧ Out rdB l e c l' e' := by
  refine enter (args := [.pointer (some ⟨rb, 0, none⟩)]) Try.func40 rfl Try.ntmps40 rfl ?_
  repeat (first | ((with_reducible refine WL.topT ?_ ?_); omega) | ((with_reducible refine WL.topF ?_ ?_); omega) | ((with_reducible refine WL.top64 ?_ ?_); omega) | refine WC.seq ?_ | refine WC.block ?_ | refine WC.region ?_ | refine WL.nil ?_ | refine WC.skip ?_ | refine WC.exit ?_ | refine WC.ret ?_ | refine WQ.then rfl ?_ | refine WQ.thenExit ?_ | refine WQ.thenRet ?_ | refine WQ.blk ?_ | refine WQ.blkRet ?_ | refine WQ.blkHere rfl ?_ | refine WQ.blkOther rfl ?_ | refine WL.pure rfl rfl rfl rfl ?_ | refine WL.on rfl rfl ?_ | refine WL.off rfl rfl rfl ?_ | refine WC.condTrue rfl ?_ | refine WC.condFalse rfl ?_)
  refine WL.call rfl rfl rfl rfl rfl Try.func23 rfl (by kernel_rfl) (take_any (n := 1) h (by omega)) ?_
  rintro _ w2 ⟨v, x, l', e', rfl, hv, hbx, hx1, hx0, hr, hk, ho⟩
  refine ⟨_, rfl, ?_⟩
  have hv0 := hv.sl
  obtain ⟨sp, cap, rfl, -⟩ := hv.sl
  cases x with
  | nil =>
    simp only [List.length_nil] at hv0 hx1
    have hne : e' ≠ 0 := fun h => by have := hx1 h; omega
    repeat (first | ((with_reducible refine WL.topT ?_ ?_); omega) | ((with_reducible refine WL.topF ?_ ?_); omega) | ((with_reducible refine WL.top64 ?_ ?_); omega) | refine WC.seq ?_ | refine WC.block ?_ | refine WC.region ?_ | refine WL.nil ?_ | refine WC.skip ?_ | refine WC.exit ?_ | refine WC.ret ?_ | refine WQ.then rfl ?_ | refine WQ.thenExit ?_ | refine WQ.thenRet ?_ | refine WQ.blk ?_ | refine WQ.blkRet ?_ | refine WQ.blkHere rfl ?_ | refine WQ.blkOther rfl ?_ | refine WL.pure rfl rfl rfl rfl ?_ | refine WL.on rfl rfl ?_ | refine WL.off rfl rfl rfl ?_ | refine WC.condTrue rfl ?_ | refine WC.condFalse rfl ?_)
    refine WQ.ret1 rfl rfl ⟨0, l', e', rfl, by omega, by omega, hr, hk, ho.len, ho.bad, fun h0 => ?_⟩
    have h1 := ho.ok h0
    unfold rdX at h1
    cases l with
    | nil => simp only [List.length_nil, if_pos (show 0 < 1 by omega)] at h1; exact h1
    | cons a r => rw [if_neg (by simp)] at h1; exact absurd h1.2.2 hne
  | cons c q =>
    have hq : q = [] := by
      have h1 : e' = 0 := Classical.byContradiction fun h => by have := hx0 h; cases this
      have := hx1 h1
      simpa using this
    subst hq
    have hc := hbx c (by simp)
    repeat (first | ((with_reducible refine WL.topT ?_ ?_); omega) | ((with_reducible refine WL.topF ?_ ?_); omega) | ((with_reducible refine WL.top64 ?_ ?_); omega) | refine WC.seq ?_ | refine WC.block ?_ | refine WC.region ?_ | refine WL.nil ?_ | refine WC.skip ?_ | refine WC.exit ?_ | refine WC.ret ?_ | refine WQ.then rfl ?_ | refine WQ.thenExit ?_ | refine WQ.thenRet ?_ | refine WQ.blk ?_ | refine WQ.blkRet ?_ | refine WQ.blkHere rfl ?_ | refine WQ.blkOther rfl ?_ | refine WL.pure rfl rfl rfl rfl ?_ | refine WL.on rfl rfl ?_ | refine WL.off rfl rfl rfl ?_ | refine WC.condTrue rfl ?_ | refine WC.condFalse rfl ?_)
    refine WL.idxI 0 rfl rfl rfl rfl rfl rfl hv0 rfl rfl (by simp) fun p hp => ?_
    refine WL.load rfl rfl rfl rfl rfl rfl hp ?_
    repeat (first | ((with_reducible refine WL.topT ?_ ?_); omega) | ((with_reducible refine WL.topF ?_ ?_); omega) | ((with_reducible refine WL.top64 ?_ ?_); omega) | refine WC.seq ?_ | refine WC.block ?_ | refine WC.region ?_ | refine WL.nil ?_ | refine WC.skip ?_ | refine WC.exit ?_ | refine WC.ret ?_ | refine WQ.then rfl ?_ | refine WQ.thenExit ?_ | refine WQ.thenRet ?_ | refine WQ.blk ?_ | refine WQ.blkRet ?_ | refine WQ.blkHere rfl ?_ | refine WQ.blkOther rfl ?_ | refine WL.pure rfl rfl rfl rfl ?_ | refine WL.on rfl rfl ?_ | refine WL.off rfl rfl rfl ?_ | refine WC.condTrue rfl ?_ | refine WC.condFalse rfl ?_)
    refine WQ.ret1 rfl rfl ⟨c, l', e', rfl, hc.1, hc.2, hr, hk, ho.len, ho.bad, fun h0 => ?_⟩
    have h1 := ho.ok h0
    unfold rdX at h1
    cases l with
    | nil => simp only [List.length_nil, if_pos (show 0 < 1 by omega)] at h1; exact h1
    | cons a r =>
      rw [if_neg (by simp)] at h1
      obtain ⟨h2, h3, h4⟩ := h1
      simp at h2 h3
      exact ⟨h2, h3, h4⟩
end
end K
end Go.Proofs.Ytlamdhekjlnccaa

/- Blocks (chapter 11): within, blank, nothing, shape. -/
namespace Go.Proofs.Ytlamdhekjlnccaa
open Go.RowKit
namespace K
section
variable {T b : Nat} {w w' : World} {e : En} {dc : List Value}
theorem EnAt.setText (h : EnAt T b w e dc) (s : ByteArray) : EnAt T b (w.setCell ⟨b, 1, none⟩ (.string s)) { e with text := s } dc := ⟨h.blk.set 1 (.string s), h.dl, h.hl⟩
theorem EnAt.setTable (h : EnAt T b w e dc) (x : Int) : EnAt T b (w.setCell ⟨b, 2, none⟩ (.int .i64 x)) { e with table := x } dc := ⟨h.blk.set 2 (.int .i64 x), h.dl, h.hl⟩
theorem EnAt.setDoc (h : EnAt T b w e dc) (x : Int) : EnAt T b (w.setCell ⟨b, 3, none⟩ (.int .i64 x)) { e with doc := x } dc := ⟨h.blk.set 3 (.int .i64 x), h.dl, h.hl⟩
theorem EnAt.setVer (h : EnAt T b w e dc) (x : Int) : EnAt T b (w.setCell ⟨b, 4, none⟩ (.int .i64 x)) { e with ver := x } dc := ⟨h.blk.set 4 (.int .i64 x), h.dl, h.hl⟩
theorem EnAt.setGone (h : EnAt T b w e dc) (g : Bool) : EnAt T b (w.setCell ⟨b, 43, none⟩ (.bool g)) { e with gone := g } dc := by
  refine ⟨?_, h.dl, h.hl⟩
  have := h.blk.set 43 (.bool g)
  have e1 : (enC e dc).set 43 (.bool g) = enC { e with gone := g } dc := by
    have h1 : enC e dc = (.int .i64 e.kind :: .string e.text :: .int .i64 e.table :: .int .i64 e.doc :: .int .i64 e.ver :: (dc ++ hashC e.hash)) ++ [.bool e.gone, .int .i64 e.ab, .int .i64 e.ae] := by simp [enC]
    have h2 : (Value.int IntKind.i64 e.kind :: .string e.text :: .int .i64 e.table :: .int .i64 e.doc :: .int .i64 e.ver :: (dc ++ hashC e.hash)).length = 43 := by simp [h.dl, h.hl]
    rw [h1, List.set_append_right _ _ (by omega), h2]
    simp [enC]
  rwa [e1] at this
theorem EnAt.setData (h : EnAt T b w e dc) {m : List Value} {off : Nat} (v : V) (hm : m.length = 6) (ho : off = 5) : EnAt T b (w.setRow b ((enC e dc).take off ++ m ++ (enC e dc).drop (off + 6)).toArray) { e with data := v } m := by
  subst ho
  refine ⟨?_, hm, h.hl⟩
  have := h.blk.setRow ((enC e dc).take 5 ++ m ++ (enC e dc).drop (5 + 6))
  have e1 : (enC e dc).take 5 ++ m ++ (enC e dc).drop (5 + 6) = enC { e with data := v } m := by
    have : (enC e dc).drop 11 = hashC e.hash ++ [.bool e.gone, .int .i64 e.ab, .int .i64 e.ae] := by
      unfold enC
      simp only [List.drop_succ_cons]
      rw [List.drop_append, List.drop_eq_nil_of_le (by rw [h.dl]; omega), h.dl]
      simp
    rw [this]
    simp [enC]
  rw [e1] at this ⊢
  exact this
theorem EnAt.setHash (h : EnAt T b w e dc) {hh : List Int} {off : Nat} (hl : hh.length = 32) (ho : off = 11) : EnAt T b (w.setRow b ((enC e dc).take off ++ hashC hh ++ (enC e dc).drop (off + 32)).toArray) { e with hash := hh } dc := by
  subst ho
  refine ⟨?_, h.dl, hl⟩
  have := h.blk.setRow ((enC e dc).take 11 ++ hashC hh ++ (enC e dc).drop (11 + 32))
  have e1 : (enC e dc).take 11 ++ hashC hh ++ (enC e dc).drop (11 + 32) = enC { e with hash := hh } dc := by
    have h1 : enC e dc = (.int .i64 e.kind :: .string e.text :: .int .i64 e.table :: .int .i64 e.doc :: .int .i64 e.ver :: dc) ++ (hashC e.hash ++ [.bool e.gone, .int .i64 e.ab, .int .i64 e.ae]) := by simp [enC]
    have h2 : (Value.int IntKind.i64 e.kind :: .string e.text :: .int .i64 e.table :: .int .i64 e.doc :: .int .i64 e.ver :: dc).length = 11 := by simp [h.dl]
    have h3 : (hashC e.hash).length = 32 := by simp [h.hl]
    rw [h1, List.take_append_of_le_length (by omega), ← h2, List.take_length, List.drop_append, List.drop_eq_nil_of_le (by omega)]
    rw [Nat.add_sub_cancel_left, ← h3, List.drop_left']
    · simp [enC]
    · rfl
  rw [e1] at this ⊢
  exact this
theorem EnAt.setAt (h : EnAt T b w e dc) {off : Nat} (x y : Int) (ho : off = 44) : EnAt T b (w.setRow b ((enC e dc).take off ++ [Value.int .i64 x, .int .i64 y] ++ (enC e dc).drop (off + 2)).toArray) { e with ab := x, ae := y } dc := by
  subst ho
  refine ⟨?_, h.dl, h.hl⟩
  have := h.blk.setRow ((enC e dc).take 44 ++ [Value.int .i64 x, .int .i64 y] ++ (enC e dc).drop (44 + 2))
  have e1 : (enC e dc).take 44 ++ [Value.int .i64 x, .int .i64 y] ++ (enC e dc).drop (44 + 2) = enC { e with ab := x, ae := y } dc := by
    have h1 : enC e dc = (.int .i64 e.kind :: .string e.text :: .int .i64 e.table :: .int .i64 e.doc :: .int .i64 e.ver :: (dc ++ (hashC e.hash ++ [.bool e.gone]))) ++ [.int .i64 e.ab, .int .i64 e.ae] := by simp [enC]
    have h2 : (Value.int IntKind.i64 e.kind :: .string e.text :: .int .i64 e.table :: .int .i64 e.doc :: .int .i64 e.ver :: (dc ++ (hashC e.hash ++ [.bool e.gone]))).length = 44 := by simp [h.dl, h.hl]
    rw [h1, List.take_append_of_le_length (by omega), ← h2, List.take_length, List.drop_eq_nil_of_le (by simp; omega)]
    simp [enC]
  rw [e1] at this ⊢
  exact this
end
theorem within_any (n lo hi : Int) (w : World) : Calls Try.prog 26 #[.int .i64 n, .int .i64 lo, .int .i64 hi] w fun e w' => e = .returned (.bool (decide (lo ≤ n ∧ n ≤ hi))) ∧ w' = w := by
  refine enter (args := [.int .i64 n, .int .i64 lo, .int .i64 hi]) Try.func26 rfl Try.ntmps26 rfl ?_
  by_cases h1 : lo ≤ n
  · by_cases h2 : n ≤ hi
    · repeat (first | ((with_reducible refine WL.topT ?_ ?_); omega) | ((with_reducible refine WL.topF ?_ ?_); omega) | ((with_reducible refine WL.top64 ?_ ?_); omega) | refine WC.seq ?_ | refine WC.block ?_ | refine WC.region ?_ | refine WL.nil ?_ | refine WC.skip ?_ | refine WC.exit ?_ | refine WC.ret ?_ | refine WQ.then rfl ?_ | refine WQ.thenExit ?_ | refine WQ.thenRet ?_ | refine WQ.blk ?_ | refine WQ.blkRet ?_ | refine WQ.blkHere rfl ?_ | refine WQ.blkOther rfl ?_ | refine WL.pure rfl rfl rfl rfl ?_ | refine WL.on rfl rfl ?_ | refine WL.off rfl rfl rfl ?_ | refine WC.condTrue rfl ?_ | refine WC.condFalse rfl ?_)
      exact WQ.ret1 rfl rfl ⟨by rw [decide_eq_true ⟨h1, h2⟩], rfl⟩
    · repeat (first | ((with_reducible refine WL.topT ?_ ?_); omega) | ((with_reducible refine WL.topF ?_ ?_); omega) | ((with_reducible refine WL.top64 ?_ ?_); omega) | refine WC.seq ?_ | refine WC.block ?_ | refine WC.region ?_ | refine WL.nil ?_ | refine WC.skip ?_ | refine WC.exit ?_ | refine WC.ret ?_ | refine WQ.then rfl ?_ | refine WQ.thenExit ?_ | refine WQ.thenRet ?_ | refine WQ.blk ?_ | refine WQ.blkRet ?_ | refine WQ.blkHere rfl ?_ | refine WQ.blkOther rfl ?_ | refine WL.pure rfl rfl rfl rfl ?_ | refine WL.on rfl rfl ?_ | refine WL.off rfl rfl rfl ?_ | refine WC.condTrue rfl ?_ | refine WC.condFalse rfl ?_)
      exact WQ.ret1 rfl rfl ⟨by rw [decide_eq_false fun h => h2 h.2], rfl⟩
  · repeat (first | ((with_reducible refine WL.topT ?_ ?_); omega) | ((with_reducible refine WL.topF ?_ ?_); omega) | ((with_reducible refine WL.top64 ?_ ?_); omega) | refine WC.seq ?_ | refine WC.block ?_ | refine WC.region ?_ | refine WL.nil ?_ | refine WC.skip ?_ | refine WC.exit ?_ | refine WC.ret ?_ | refine WQ.then rfl ?_ | refine WQ.thenExit ?_ | refine WQ.thenRet ?_ | refine WQ.blk ?_ | refine WQ.blkRet ?_ | refine WQ.blkHere rfl ?_ | refine WQ.blkOther rfl ?_ | refine WL.pure rfl rfl rfl rfl ?_ | refine WL.on rfl rfl ?_ | refine WL.off rfl rfl rfl ?_ | refine WC.condTrue rfl ?_ | refine WC.condFalse rfl ?_)
    exact WQ.ret1 rfl rfl ⟨by rw [decide_eq_false fun h => h1 h.1], rfl⟩
theorem zV_ext {v : V} (h1 : v.k = 0) (h2 : v.n = 0) (h3 : v.s = 0) (h4 : v.t.size = 0) (h5 : v.names.length = 0) (h6 : v.kids.length = 0) : v = zV :=
  V.ext' h1 h2 h3 (noT_of h4) (List.eq_nil_of_length_eq_zero h5) (List.eq_nil_of_length_eq_zero h6)
theorem txt_empty (s : ByteArray) : (s.toList == (ByteArray.mk #[]).toList) = decide (s.size = 0) := by
  have h0 : (ByteArray.mk #[]).toList = [] := by decide +kernel
  have hl : s.toList.length = s.size := by rw [ByteArray.toList_eq]; rfl
  rw [h0]
  cases h : s.toList with
  | nil => rw [h] at hl; simp at hl; simp [← hl]
  | cons a r => rw [h] at hl; simp at hl; simp [← hl]
theorem blank_any {f : Nat} {w : World} {v : V} {cs : List Value} (h : IsV f w v cs) :
    Calls Try.prog 56 #[.agg cs.toArray] w fun e w' => (∃ b, e = .returned (.bool b) ∧ (b = true ↔ v = zV)) ∧ Below w.heap.size w w' := by
  cases f with
  | zero => exact h.elim
  | succ f =>
  obtain ⟨sn, sk, rfl, -, -, -, -, ⟨np, nc, rfl, -⟩, ⟨kp, kc, rfl, -⟩⟩ := h
  refine enter (args := [.agg (six v (.slice np v.names.length nc) (.slice kp v.kids.length kc)).toArray]) Try.func56 rfl Try.ntmps56 rfl ?_
  repeat (first | ((with_reducible refine WL.topT ?_ ?_); omega) | ((with_reducible refine WL.topF ?_ ?_); omega) | ((with_reducible refine WL.top64 ?_ ?_); omega) | refine WC.seq ?_ | refine WC.block ?_ | refine WC.region ?_ | refine WL.nil ?_ | refine WC.skip ?_ | refine WC.exit ?_ | refine WC.ret ?_ | refine WQ.then rfl ?_ | refine WQ.thenExit ?_ | refine WQ.thenRet ?_ | refine WQ.blk ?_ | refine WQ.blkRet ?_ | refine WQ.blkHere rfl ?_ | refine WQ.blkOther rfl ?_ | refine WL.pure rfl rfl rfl rfl ?_ | refine WL.on rfl rfl ?_ | refine WL.off rfl rfl rfl ?_ | refine WC.condTrue rfl ?_ | refine WC.condFalse rfl ?_)
  refine WL.box rfl rfl rfl rfl rfl fun g w1 hf => ?_
  have hf' : Fresh w g w1 45 (six v (.slice np v.names.length nc) (.slice kp v.kids.length kc)) := hf
  clear hf
  have B := hf'.blk
  have no : ¬ v = zV → (∃ b, Ending.returned (Value.bool false) = .returned (.bool b) ∧ (b = true ↔ v = zV)) ∧ Below w.heap.size w w1 := fun h => ⟨⟨false, rfl, by simp [h]⟩, hf'.below⟩
  repeat (first | ((with_reducible refine WL.topT ?_ ?_); omega) | ((with_reducible refine WL.topF ?_ ?_); omega) | ((with_reducible refine WL.top64 ?_ ?_); omega) | refine WC.seq ?_ | refine WC.block ?_ | refine WC.region ?_ | refine WL.nil ?_ | refine WC.skip ?_ | refine WC.exit ?_ | refine WC.ret ?_ | refine WQ.then rfl ?_ | refine WQ.thenExit ?_ | refine WQ.thenRet ?_ | refine WQ.blk ?_ | refine WQ.blkRet ?_ | refine WQ.blkHere rfl ?_ | refine WQ.blkOther rfl ?_ | refine WL.pure rfl rfl rfl rfl ?_ | refine WL.on rfl rfl ?_ | refine WL.off rfl rfl rfl ?_ | refine WC.condTrue rfl ?_ | refine WC.condFalse rfl ?_)
  refine WL.load rfl rfl rfl rfl rfl rfl (B.cell 0 (by simp)) ?_
  by_cases e1 : v.k = 0
  rotate_left
  · repeat (first | ((with_reducible refine WL.topT ?_ ?_); omega) | ((with_reducible refine WL.topF ?_ ?_); omega) | ((with_reducible refine WL.top64 ?_ ?_); omega) | refine WC.seq ?_ | refine WC.block ?_ | refine WC.region ?_ | refine WL.nil ?_ | refine WC.skip ?_ | refine WC.exit ?_ | refine WC.ret ?_ | refine WQ.then rfl ?_ | refine WQ.thenExit ?_ | refine WQ.thenRet ?_ | refine WQ.blk ?_ | refine WQ.blkRet ?_ | refine WQ.blkHere rfl ?_ | refine WQ.blkOther rfl ?_ | refine WL.pure rfl rfl rfl rfl ?_ | refine WL.on rfl rfl ?_ | refine WL.off rfl rfl rfl ?_ | refine WC.condTrue rfl ?_ | refine WC.condFalse rfl ?_)
    exact WQ.ret1 rfl rfl (no fun e => e1 (by rw [e]; rfl))
  repeat (first | ((with_reducible refine WL.topT ?_ ?_); omega) | ((with_reducible refine WL.topF ?_ ?_); omega) | ((with_reducible refine WL.top64 ?_ ?_); omega) | refine WC.seq ?_ | refine WC.block ?_ | refine WC.region ?_ | refine WL.nil ?_ | refine WC.skip ?_ | refine WC.exit ?_ | refine WC.ret ?_ | refine WQ.then rfl ?_ | refine WQ.thenExit ?_ | refine WQ.thenRet ?_ | refine WQ.blk ?_ | refine WQ.blkRet ?_ | refine WQ.blkHere rfl ?_ | refine WQ.blkOther rfl ?_ | refine WL.pure rfl rfl rfl rfl ?_ | refine WL.on rfl rfl ?_ | refine WL.off rfl rfl rfl ?_ | refine WC.condTrue rfl ?_ | refine WC.condFalse rfl ?_)
  refine WL.load rfl rfl rfl rfl rfl rfl (B.cell 1 (by simp)) ?_
  by_cases e2 : v.n = 0
  rotate_left
  · repeat (first | ((with_reducible refine WL.topT ?_ ?_); omega) | ((with_reducible refine WL.topF ?_ ?_); omega) | ((with_reducible refine WL.top64 ?_ ?_); omega) | refine WC.seq ?_ | refine WC.block ?_ | refine WC.region ?_ | refine WL.nil ?_ | refine WC.skip ?_ | refine WC.exit ?_ | refine WC.ret ?_ | refine WQ.then rfl ?_ | refine WQ.thenExit ?_ | refine WQ.thenRet ?_ | refine WQ.blk ?_ | refine WQ.blkRet ?_ | refine WQ.blkHere rfl ?_ | refine WQ.blkOther rfl ?_ | refine WL.pure rfl rfl rfl rfl ?_ | refine WL.on rfl rfl ?_ | refine WL.off rfl rfl rfl ?_ | refine WC.condTrue rfl ?_ | refine WC.condFalse rfl ?_)
    exact WQ.ret1 rfl rfl (no fun e => e2 (by rw [e]; rfl))
  repeat (first | ((with_reducible refine WL.topT ?_ ?_); omega) | ((with_reducible refine WL.topF ?_ ?_); omega) | ((with_reducible refine WL.top64 ?_ ?_); omega) | refine WC.seq ?_ | refine WC.block ?_ | refine WC.region ?_ | refine WL.nil ?_ | refine WC.skip ?_ | refine WC.exit ?_ | refine WC.ret ?_ | refine WQ.then rfl ?_ | refine WQ.thenExit ?_ | refine WQ.thenRet ?_ | refine WQ.blk ?_ | refine WQ.blkRet ?_ | refine WQ.blkHere rfl ?_ | refine WQ.blkOther rfl ?_ | refine WL.pure rfl rfl rfl rfl ?_ | refine WL.on rfl rfl ?_ | refine WL.off rfl rfl rfl ?_ | refine WC.condTrue rfl ?_ | refine WC.condFalse rfl ?_)
  refine WL.load rfl rfl rfl rfl rfl rfl (B.cell 2 (by simp)) ?_
  by_cases e3 : v.s = 0
  rotate_left
  · repeat (first | ((with_reducible refine WL.topT ?_ ?_); omega) | ((with_reducible refine WL.topF ?_ ?_); omega) | ((with_reducible refine WL.top64 ?_ ?_); omega) | refine WC.seq ?_ | refine WC.block ?_ | refine WC.region ?_ | refine WL.nil ?_ | refine WC.skip ?_ | refine WC.exit ?_ | refine WC.ret ?_ | refine WQ.then rfl ?_ | refine WQ.thenExit ?_ | refine WQ.thenRet ?_ | refine WQ.blk ?_ | refine WQ.blkRet ?_ | refine WQ.blkHere rfl ?_ | refine WQ.blkOther rfl ?_ | refine WL.pure rfl rfl rfl rfl ?_ | refine WL.on rfl rfl ?_ | refine WL.off rfl rfl rfl ?_ | refine WC.condTrue rfl ?_ | refine WC.condFalse rfl ?_)
    exact WQ.ret1 rfl rfl (no fun e => e3 (by rw [e]; rfl))
  repeat (first | ((with_reducible refine WL.topT ?_ ?_); omega) | ((with_reducible refine WL.topF ?_ ?_); omega) | ((with_reducible refine WL.top64 ?_ ?_); omega) | refine WC.seq ?_ | refine WC.block ?_ | refine WC.region ?_ | refine WL.nil ?_ | refine WC.skip ?_ | refine WC.exit ?_ | refine WC.ret ?_ | refine WQ.then rfl ?_ | refine WQ.thenExit ?_ | refine WQ.thenRet ?_ | refine WQ.blk ?_ | refine WQ.blkRet ?_ | refine WQ.blkHere rfl ?_ | refine WQ.blkOther rfl ?_ | refine WL.pure rfl rfl rfl rfl ?_ | refine WL.on rfl rfl ?_ | refine WL.off rfl rfl rfl ?_ | refine WC.condTrue rfl ?_ | refine WC.condFalse rfl ?_)
  refine WL.load rfl rfl rfl rfl rfl rfl (B.cell 3 (by simp)) ?_
  refine WL.on rfl rfl ?_
  refine WL.pureAs (.bool (decide (v.t.size = 0))) rfl rfl rfl rfl (congrArg Value.bool (txt_empty v.t)) ?_
  by_cases e4 : v.t.size = 0
  rotate_left
  · repeat (first | ((with_reducible refine WL.topT ?_ ?_); omega) | ((with_reducible refine WL.topF ?_ ?_); omega) | ((with_reducible refine WL.top64 ?_ ?_); omega) | refine WC.seq ?_ | refine WC.block ?_ | refine WC.region ?_ | refine WL.nil ?_ | refine WC.skip ?_ | refine WC.exit ?_ | refine WC.ret ?_ | refine WQ.then rfl ?_ | refine WQ.thenExit ?_ | refine WQ.thenRet ?_ | refine WQ.blk ?_ | refine WQ.blkRet ?_ | refine WQ.blkHere rfl ?_ | refine WQ.blkOther rfl ?_ | refine WL.pure rfl rfl rfl rfl ?_ | refine WL.on rfl rfl ?_ | refine WL.off rfl rfl rfl ?_ | refine WC.condTrue rfl ?_ | refine WC.condFalse rfl ?_)
    exact WQ.ret1 rfl rfl (no fun e => e4 (by rw [e]; rfl))
  repeat (first | ((with_reducible refine WL.topT ?_ ?_); omega) | ((with_reducible refine WL.topF ?_ ?_); omega) | ((with_reducible refine WL.top64 ?_ ?_); omega) | refine WC.seq ?_ | refine WC.block ?_ | refine WC.region ?_ | refine WL.nil ?_ | refine WC.skip ?_ | refine WC.exit ?_ | refine WC.ret ?_ | refine WQ.then rfl ?_ | refine WQ.thenExit ?_ | refine WQ.thenRet ?_ | refine WQ.blk ?_ | refine WQ.blkRet ?_ | refine WQ.blkHere rfl ?_ | refine WQ.blkOther rfl ?_ | refine WL.pure rfl rfl rfl rfl ?_ | refine WL.on rfl rfl ?_ | refine WL.off rfl rfl rfl ?_ | refine WC.condTrue rfl ?_ | refine WC.condFalse rfl ?_)
  refine WL.load rfl rfl rfl rfl rfl rfl (B.cell 4 (by simp)) ?_
  by_cases e5 : v.names.length = 0
  rotate_left
  · repeat (first | ((with_reducible refine WL.topT ?_ ?_); omega) | ((with_reducible refine WL.topF ?_ ?_); omega) | ((with_reducible refine WL.top64 ?_ ?_); omega) | refine WC.seq ?_ | refine WC.block ?_ | refine WC.region ?_ | refine WL.nil ?_ | refine WC.skip ?_ | refine WC.exit ?_ | refine WC.ret ?_ | refine WQ.then rfl ?_ | refine WQ.thenExit ?_ | refine WQ.thenRet ?_ | refine WQ.blk ?_ | refine WQ.blkRet ?_ | refine WQ.blkHere rfl ?_ | refine WQ.blkOther rfl ?_ | refine WL.pure rfl rfl rfl rfl ?_ | refine WL.on rfl rfl ?_ | refine WL.off rfl rfl rfl ?_ | refine WC.condTrue rfl ?_ | refine WC.condFalse rfl ?_)
    exact WQ.ret1 rfl rfl (no fun e => e5 (by rw [e]; rfl))
  repeat (first | ((with_reducible refine WL.topT ?_ ?_); omega) | ((with_reducible refine WL.topF ?_ ?_); omega) | ((with_reducible refine WL.top64 ?_ ?_); omega) | refine WC.seq ?_ | refine WC.block ?_ | refine WC.region ?_ | refine WL.nil ?_ | refine WC.skip ?_ | refine WC.exit ?_ | refine WC.ret ?_ | refine WQ.then rfl ?_ | refine WQ.thenExit ?_ | refine WQ.thenRet ?_ | refine WQ.blk ?_ | refine WQ.blkRet ?_ | refine WQ.blkHere rfl ?_ | refine WQ.blkOther rfl ?_ | refine WL.pure rfl rfl rfl rfl ?_ | refine WL.on rfl rfl ?_ | refine WL.off rfl rfl rfl ?_ | refine WC.condTrue rfl ?_ | refine WC.condFalse rfl ?_)
  refine WL.load rfl rfl rfl rfl rfl rfl (B.cell 5 (by simp)) ?_
  by_cases e6 : v.kids.length = 0
  rotate_left
  · repeat (first | ((with_reducible refine WL.topT ?_ ?_); omega) | ((with_reducible refine WL.topF ?_ ?_); omega) | ((with_reducible refine WL.top64 ?_ ?_); omega) | refine WC.seq ?_ | refine WC.block ?_ | refine WC.region ?_ | refine WL.nil ?_ | refine WC.skip ?_ | refine WC.exit ?_ | refine WC.ret ?_ | refine WQ.then rfl ?_ | refine WQ.thenExit ?_ | refine WQ.thenRet ?_ | refine WQ.blk ?_ | refine WQ.blkRet ?_ | refine WQ.blkHere rfl ?_ | refine WQ.blkOther rfl ?_ | refine WL.pure rfl rfl rfl rfl ?_ | refine WL.on rfl rfl ?_ | refine WL.off rfl rfl rfl ?_ | refine WC.condTrue rfl ?_ | refine WC.condFalse rfl ?_)
    exact WQ.ret1 rfl rfl (no fun e => e6 (by rw [e]; rfl))
  repeat (first | ((with_reducible refine WL.topT ?_ ?_); omega) | ((with_reducible refine WL.topF ?_ ?_); omega) | ((with_reducible refine WL.top64 ?_ ?_); omega) | refine WC.seq ?_ | refine WC.block ?_ | refine WC.region ?_ | refine WL.nil ?_ | refine WC.skip ?_ | refine WC.exit ?_ | refine WC.ret ?_ | refine WQ.then rfl ?_ | refine WQ.thenExit ?_ | refine WQ.thenRet ?_ | refine WQ.blk ?_ | refine WQ.blkRet ?_ | refine WQ.blkHere rfl ?_ | refine WQ.blkOther rfl ?_ | refine WL.pure rfl rfl rfl rfl ?_ | refine WL.on rfl rfl ?_ | refine WL.off rfl rfl rfl ?_ | refine WC.condTrue rfl ?_ | refine WC.condFalse rfl ?_)
  exact WQ.ret1 rfl rfl ⟨⟨true, rfl, ⟨fun _ => zV_ext e1 e2 e3 e4 e5 e6, fun _ => rfl⟩⟩, hf'.below⟩
theorem or_zero {a b : Int} (ha : R64 a) (hb : R64 b) : bits .or .i64 a b = 0 ↔ a = 0 ∧ b = 0 := by
  have key : bits .or .i64 a b = IntKind.i64.wrap ((BitVec.ofInt 64 a ||| BitVec.ofInt 64 b).toNat : Int) := rfl
  have wz : ∀ n : Nat, n < 18446744073709551616 → (IntKind.i64.wrap (n : Int) = 0 ↔ n = 0) := fun n hn => by rw [IntKind.wrap_i64]; omega
  have z : ∀ x : Int, R64 x → (BitVec.ofInt 64 x = 0#64 ↔ x = 0) := fun x hx => by
    constructor
    · intro h
      have := congrArg BitVec.toNat h
      rw [BitVec.toNat_ofInt] at this
      simp at this
      omega
    · rintro rfl; rfl
  rw [key, wz _ (BitVec.isLt _), ← z a ha, ← z b hb, ← BitVec.or_eq_zero_iff]
  constructor
  · intro h; exact BitVec.eq_of_toNat_eq (by rw [h]; rfl)
  · intro h; rw [h]; rfl
theorem or_r64 (a b : Int) : R64 (bits .or .i64 a b) := by
  have key : bits .or .i64 a b = IntKind.i64.wrap ((BitVec.ofInt 64 a ||| BitVec.ofInt 64 b).toNat : Int) := rfl
  rw [key, IntKind.wrap_i64]
  omega
end K
end Go.Proofs.Ytlamdhekjlnccaa

/- Walks over the slots that are asked for: copy onto a part of a block. -/
namespace Go.Proofs.Ytlamdhekjlnccaa
open Go.RowKit
namespace K
variable {n : Nat} {Q : Exit → Act → World → Prop} {l : Env} {w w' : World} {ops : Array Oper} {o : Oper} {rest : List Oper} {d : Nat}
theorem copy_run {v : Value} {x : List Int} {b off m T : Nat} {cs : List Value} (ty' : Nat) (hb : VBlk T w b cs) (hs : Sl .u8 w v x) (hx : x.length ≤ m) (hfit : off + m ≤ cs.length) :
    (Builtin.copy_ #[29, 29] ty' #[.slice (some ⟨b, off, none⟩) m m, v]).run Try.prog w = .ok (.int .i64 x.length) (w.setRow b (cs.take off ++ x.map (Value.int .u8) ++ cs.drop (off + x.length)).toArray) := by
  have hsz : (Try.prog.info? 5).map (·.size) = some 1 := by kernel_rfl
  obtain ⟨sp, cap, rfl, h1, h2, h3, h4⟩ := hs
  rcases Nat.eq_zero_or_pos x.length with h0 | h0
  · obtain rfl := List.eq_nil_of_length_eq_zero h0
    have hself : w.setRow b (cs.take off ++ ([] : List Int).map (Value.int .u8) ++ cs.drop (off + ([] : List Int).length)).toArray = w := by
      simp only [List.map_nil, List.append_nil, List.length_nil, Nat.add_zero, List.take_append_drop]
      exact setRow_self w b cs.toArray T (0, 0) hb
    rw [hself]
    cases sp with
    | none =>
      obtain rfl := h4 rfl
      have := run_copy_nil Try.prog w 29 29 ty' 5 ⟨b, off, none⟩ m m Try.underlying29 (by rw [hsz]; rfl)
      simp only [List.length_nil]
      rw [this]
      have e0 : ((0 : Nat) : Int) = 0 := rfl
      rw [e0, goInt]
    | some p =>
      have := run_copy_row Try.prog w 29 29 ty' 5 b off m m p 0 cap cs.toArray T [] Try.underlying29 hsz hb (by simp) (by simp) (by simp; omega) (by simp)
      have hself2 : w.setRow b (cs.toArray.toList.take off ++ [] ++ cs.toArray.toList.drop (off + ([] : List Value).length)).toArray = w := by
        simp only [List.append_nil, List.length_nil, Nat.add_zero, List.take_append_drop]
        exact setRow_self w b cs.toArray T (0, 0) hb
      rw [hself2] at this
      exact this
  · obtain ⟨b2, o2, rfl, hlt, hr⟩ := h3 h0
    have := run_copy_row Try.prog w 29 29 ty' 5 b off m m ⟨b2, o2, none⟩ x.length cap cs.toArray T (x.map (Value.int .u8)) Try.underlying29 hsz hb (by rw [List.length_map]; exact (Nat.min_eq_left hx).symm)
      (fun j v hj => by
        rw [List.getElem?_map] at hj
        obtain ⟨z, hz, rfl⟩ := Option.map_eq_some_iff.1 hj
        have hjl : j < x.length := by
          rcases Nat.lt_or_ge j x.length with h | h
          · exact h
          · rw [List.getElem?_eq_none h] at hz; cases hz
        have := hr.at j hjl
        have e1 : (⟨b2, o2, none⟩ : Addr).add j = ⟨b2, o2 + j, none⟩ := by unfold Addr.add; split <;> simp_all
        rw [e1, this]
        have : nth x j = z := by unfold nth; rw [List.getD_eq_getElem?_getD, hz]; rfl
        rw [this])
      (by simp only [List.length_map, List.size_toArray]; omega) (Ones.int _ _)
    refine this.trans ?_
    simp only [List.length_map]
    rfl
theorem WL.copy {x y : Operand} {v : Value} {z : List Int} {b off m T : Nat} {cs : List Value} (hg : o.guard = none) (hd : o.dst = some d) (hn : Nat.blt d n = true)
    (ho : o.op = .call { callee := .builtin .copy, args := #[x, y], argTypes := #[29, 29] }) (hx : evl l x = some (.slice (some ⟨b, off, none⟩) m m)) (hy : evl l y = some v) (hs : Sl .u8 w v z) (hz : z.length ≤ m) (hb : VBlk T w b cs) (hfit : off + m ≤ cs.length)
    (h : WL n ops Q rest ((d, .int .i64 z.length) :: l) (w.setRow b (cs.take off ++ z.map (Value.int .u8) ++ cs.drop (off + z.length)).toArray)) : WL n ops Q (o :: rest) l w := by
  have hr := copy_run o.type hb hs hz hfit
  refine WL.step hg hd hn (fun a ha => ?_) h
  unfold execOp
  simp only [ho, resolve, invoke, builtin, Sem.run_bind, Sem.run_pure, Result.andThen_ok, List.map_toArray, List.map_cons, List.map_nil, ha.eval hx, ha.eval hy, hr]
end K
end Go.Proofs.Ytlamdhekjlnccaa

/- Blocks are read (chapter 11): an entry. -/
namespace Go.Proofs.Ytlamdhekjlnccaa
open Go.RowKit
namespace K
section
variable {T b : Nat} {w w' : World} {e : En} {dc : List Value}
theorem EnAt.setKind (h : EnAt T b w e dc) (x : Int) : EnAt T b (w.setCell ⟨b, 0, none⟩ (.int .i64 x)) { e with kind := x } dc := ⟨h.blk.set 0 (.int .i64 x), h.dl, h.hl⟩
theorem enC_split (h : EnAt T b w e dc) : enC e dc = (.int .i64 e.kind :: .string e.text :: .int .i64 e.table :: .int .i64 e.doc :: .int .i64 e.ver :: (dc ++ hashC e.hash)) ++ [.bool e.gone, .int .i64 e.ab, .int .i64 e.ae] ∧
    (Value.int IntKind.i64 e.kind :: .string e.text :: .int .i64 e.table :: .int .i64 e.doc :: .int .i64 e.ver :: (dc ++ hashC e.hash)).length = 43 := ⟨by simp [enC], by simp [h.dl, h.hl]⟩
theorem EnAt.setAb (h : EnAt T b w e dc) (x : Int) : EnAt T b (w.setCell ⟨b, 44, none⟩ (.int .i64 x)) { e with ab := x } dc := by
  refine ⟨?_, h.dl, h.hl⟩
  have := h.blk.set 44 (.int .i64 x)
  obtain ⟨h1, h2⟩ := enC_split h
  have e1 : (enC e dc).set 44 (.int .i64 x) = enC { e with ab := x } dc := by
    rw [h1, List.set_append_right _ _ (by omega), h2]
    simp [enC]
  rwa [e1] at this
theorem EnAt.setAe (h : EnAt T b w e dc) (x : Int) : EnAt T b (w.setCell ⟨b, 45, none⟩ (.int .i64 x)) { e with ae := x } dc := by
  refine ⟨?_, h.dl, h.hl⟩
  have := h.blk.set 45 (.int .i64 x)
  obtain ⟨h1, h2⟩ := enC_split h
  have e1 : (enC e dc).set 45 (.int .i64 x) = enC { e with ae := x } dc := by
    rw [h1, List.set_append_right _ _ (by omega), h2]
    simp [enC]
  rwa [e1] at this
theorem EnAt.copyHash (h : EnAt T b w e dc) {x : List Int} (hx : x.length = 32 ∨ x = []) : EnAt T b (w.setRow b ((enC e dc).take 11 ++ x.map (Value.int .u8) ++ (enC e dc).drop (11 + x.length)).toArray) { e with hash := if x = [] then e.hash else x } dc := by
  rcases hx with hx | rfl
  · have hne : ¬ x = [] := fun h => by rw [h] at hx; cases hx
    rw [if_neg hne, hx]
    exact h.setHash hx rfl
  · simp only [List.map_nil, List.append_nil, List.length_nil, Nat.add_zero, List.take_append_drop, if_pos]
    exact ⟨h.blk.setRow _, h.dl, h.hl⟩
end
/-- The reader in block rb, the entry in block g. -/
structure ESt (B rb g : Nat) (w0 w : World) (l : List Int) (e : Int) (en : En) (dc : List Value) : Prop where
  r : RB B w rb l e
  a : EnAt 49 g w en dc
  k : KeepR rb w0 w
theorem ESt.call {B rb g : Nat} {w0 w w' : World} {l l' : List Int} {e e' : Int} {en : En} {dc : List Value} (h : ESt B rb g w0 w l e en dc) (hB : B ≤ g) (hr : RB B w' rb l' e') (hk : KeepR rb w w') : ESt B rb g w0 w' l' e' en dc :=
  ⟨hr, h.a.keep hk ⟨h.a.blk.lt, by have := h.r.rlt; omega⟩, h.k.trans hk⟩
theorem ESt.put {B rb g : Nat} {w0 w w' : World} {l : List Int} {e : Int} {en en' : En} {dc dc' : List Value} (h : ESt B rb g w0 w l e en dc) (hB : B ≤ g) (hg : w0.heap.size ≤ g) (ha : EnAt 49 g w' en' dc') (hk : ∀ K : Nat → Prop, ¬ K g → Keep K w w') :
    ESt B rb g w0 w' l e en' dc' := ⟨h.r.keep (hk (· ≠ g) (fun h => h rfl)) (fun b hb => by omega), ha, Keep.trans h.k (hk _ (fun h => by omega))⟩
theorem cellK (w : World) (g i : Nat) (v : Value) (K : Nat → Prop) (h : ¬ K g) : Keep K w (w.setCell ⟨g, i, none⟩ v) := (Keep.refl _ w).setCell h v
theorem rowK (w : World) (g : Nat) (v : Array Value) (K : Nat → Prop) (h : ¬ K g) : Keep K w (w.setRow g v) := Keep.setRow (Keep.refl _ w) h v
theorem ESt.below {B rb g : Nat} {w0 w w' : World} {l : List Int} {e : Int} {en : En} {dc : List Value} (h : ESt B rb g w0 w l e en dc) (hB : B ≤ g) (hk : Below w.heap.size w w') : ESt B rb g w0 w' l e en dc :=
  ⟨h.r.keep (Keep.of_below hk) (fun b hb => by have := h.a.blk.lt; omega), h.a.below hk, h.k.trans (KeepR.below hk)⟩
theorem enC_one {e : En} {dc : List Value} (h1 : Ones dc) : Ones (enC e dc) := by
  intro u hu
  unfold enC at hu
  simp only [List.mem_cons, List.mem_append, List.not_mem_nil, or_false] at hu
  rcases hu with rfl | rfl | rfl | rfl | rfl | hu | hu | rfl | rfl | rfl
  all_goals first | rfl | exact h1 u hu | exact Ones.int _ _ u hu
/-- An entry that is read takes a byte at least. -/
def OutE (l : List Int) (e : Int) (en : En) (l' : List Int) (e' : Int) : Prop := Out rdE l e en l' e' ∧ (e' = 0 → l'.length < l.length)
/-- What entry promises. -/
def EntPost (B rb : Nat) (w : World) (l : List Int) (e : Int) (r : Ending) (w' : World) : Prop :=
  ∃ en cs l' e', r = .returned (.agg cs.toArray) ∧ IsEo (fun b => w.heap.size ≤ b) 17 w' en cs ∧ RB B w' rb l' e' ∧ KeepR rb w w' ∧ OutE l e en l' e' ∧ (e' = 0 → (encV 16 en.data).length ≤ 65536)
theorem rdE_out {l l1 l2 l3 l4 l5 l6 l7 l8 l9 x : List Int} {e e1 e2 e3 e4 e5 e6 e7 e8 e9 c : Int} {t d v n a b : Nat} {en : En} (h1 : Out rdB l e c l1 e1) (h2 : Out rdN l1 e1 t l2 e2) (h3 : Out rdN l2 e2 d l3 e3) (h4 : Out rdN l3 e3 v l4 e4)
    (h5 : Out rdN l4 e4 n l5 e5) (h6 : Out (rdX n) l5 e5 x l6 e6) (h7 : Out rdN l6 e6 a l7 e7) (h8 : Out rdN l7 e7 b l8 e8)
    (h9 : Out (fun r => if c = 2 then (rdX 32 r).bind fun h r => rdD ⟨c, bytS x, t, d, v, zV, h, false, a, b⟩ r else .ok ⟨c, bytS x, t, d, v, zV, Dig.Z32, false, a, b⟩ r) l8 e8 en l9 e9) : OutE l e en l9 e9 := by
  refine ⟨?_, fun h0 => ?_⟩
  rotate_left
  · have a1 := h1.len; have a2 := h2.len; have a3 := h3.len; have a4 := h4.len; have a5 := h5.len; have a6 := h6.len; have a7 := h7.len; have a8 := h8.len; have a9 := h9.len
    have b1 := h1.bad; have b2 := h2.bad; have b3 := h3.bad; have b4 := h4.bad; have b5 := h5.bad; have b6 := h6.bad; have b7 := h7.bad; have b8 := h8.bad; have b9 := h9.bad
    have he1 : e1 = 0 := by omega
    have he : e = 0 := by omega
    have := h1.ok he
    cases l with
    | nil => unfold rdB at this; exact absurd (this.1.symm.trans he1) this.2
    | cons q r => unfold rdB at this; rw [this.2.1] at a2; simp only [List.length_cons]; omega
  refine Out.bind (f := rdB) h1 ?_
  refine Out.bind (f := rdN) h2 ?_
  refine Out.bind (f := rdN) h3 ?_
  refine Out.bind (f := rdN) h4 ?_
  refine Out.bind (f := rdN) h5 ?_
  refine Out.bind (f := rdX n) h6 ?_
  refine Out.bind (f := rdN) h7 ?_
  refine Out.bind (f := rdN) h8 ?_
  exact h9
theorem bytS_size (x : List Int) : (bytS x).size = x.length := by
  show (x.map fun c => UInt8.ofNat c.toNat).toArray.size = _
  simp
theorem take_len {n : Nat} {l l' x : List Int} {e e' : Int} (ho : Out (rdX n) l e x l' e') (h0 : e' ≠ 0 → x = []) : x.length ≤ l.length := by
  by_cases h : e' = 0
  · by_cases h1 : e = 0
    · have := ho.ok h1
      unfold rdX at this
      by_cases h2 : l.length < n
      · rw [if_pos h2] at this; exact absurd (this.1.symm.trans h) this.2
      · rw [if_neg h2] at this; rw [this.1, List.length_take]; omega
    · exact absurd ((ho.bad h1).symm.trans h) h1
  · rw [h0 h]; simp
set_option maxHeartbeats 8000000 in
theorem entry_any {B rb : Nat} {w : World} {l : List Int} {e : Int} (h : RB B w rb l e) (hB : B ≤ w.heap.size) (hL : l.length ≤ 140737488355328) :
    Calls Try.prog 24 #[.pointer (some ⟨rb, 0, none⟩)] w (EntPost B rb w l e) := by
  refine enter (args := [.pointer (some ⟨rb, 0, none⟩)]) Try.func24 rfl Try.ntmps24 rfl ?_
  repeat (first | ((with_reducible refine WL.topT ?_ ?_); omega) | ((with_reducible refine WL.topF ?_ ?_); omega) | ((with_reducible refine WL.top64 ?_ ?_); omega) | refine WC.seq ?_ | refine WC.block ?_ | refine WC.region ?_ | refine WL.nil ?_ | refine WC.skip ?_ | refine WC.exit ?_ | refine WC.ret ?_ | refine WQ.then rfl ?_ | refine WQ.thenExit ?_ | refine WQ.thenRet ?_ | refine WQ.blk ?_ | refine WQ.blkRet ?_ | refine WQ.blkHere rfl ?_ | refine WQ.blkOther rfl ?_ | refine WL.pure rfl rfl rfl rfl ?_ | refine WL.on rfl rfl ?_ | refine WL.off rfl rfl rfl ?_ | refine WC.condTrue rfl ?_ | refine WC.condFalse rfl ?_)
  refine WL.alloc (z := .agg (enC noE zCells).toArray) rfl rfl rfl rfl (fun _ => by kernel_rfl) fun g w1 hf => ?_
  have hf' : Fresh w g w1 49 (enC noE zCells) := hf
  clear hf
  have hg := hf'.eq
  have hBg : B ≤ g := by omega
  have hgw : w.heap.size ≤ g := by omega
  have s1 : ESt B rb g w w1 l e noE zCells := ⟨h.keep (Keep.of_below hf'.below) fun b hb => Nat.lt_of_lt_of_le hb hB, ⟨hf'.blk, rfl, rfl⟩, KeepR.below hf'.below⟩
  clear hf'
  repeat (first | ((with_reducible refine WL.topT ?_ ?_); omega) | ((with_reducible refine WL.topF ?_ ?_); omega) | ((with_reducible refine WL.top64 ?_ ?_); omega) | refine WC.seq ?_ | refine WC.block ?_ | refine WC.region ?_ | refine WL.nil ?_ | refine WC.skip ?_ | refine WC.exit ?_ | refine WC.ret ?_ | refine WQ.then rfl ?_ | refine WQ.thenExit ?_ | refine WQ.thenRet ?_ | refine WQ.blk ?_ | refine WQ.blkRet ?_ | refine WQ.blkHere rfl ?_ | refine WQ.blkOther rfl ?_ | refine WL.pure rfl rfl rfl rfl ?_ | refine WL.on rfl rfl ?_ | refine WL.off rfl rfl rfl ?_ | refine WC.condTrue rfl ?_ | refine WC.condFalse rfl ?_)
  refine WL.call rfl rfl rfl rfl rfl Try.func40 rfl (by kernel_rfl) (byte11_any s1.r) ?_
  rintro _ w2 ⟨c, l1, e1, rfl, hc0, hc1, hr2, hk2, ho1⟩
  refine ⟨_, rfl, ?_⟩
  have s2 := s1.call hBg hr2 hk2
  clear hr2 hk2 s1
  repeat (first | ((with_reducible refine WL.topT ?_ ?_); omega) | ((with_reducible refine WL.topF ?_ ?_); omega) | ((with_reducible refine WL.top64 ?_ ?_); omega) | refine WC.seq ?_ | refine WC.block ?_ | refine WC.region ?_ | refine WL.nil ?_ | refine WC.skip ?_ | refine WC.exit ?_ | refine WC.ret ?_ | refine WQ.then rfl ?_ | refine WQ.thenExit ?_ | refine WQ.thenRet ?_ | refine WQ.blk ?_ | refine WQ.blkRet ?_ | refine WQ.blkHere rfl ?_ | refine WQ.blkOther rfl ?_ | refine WL.pure rfl rfl rfl rfl ?_ | refine WL.on rfl rfl ?_ | refine WL.off rfl rfl rfl ?_ | refine WC.condTrue rfl ?_ | refine WC.condFalse rfl ?_)
  refine WL.store (v := .int .i64 c) rfl rfl rfl rfl rfl rfl (by kernel_rfl) s2.a.kind (s2.a.blk.free 0) ?_
  have s3 := s2.put hBg hgw (s2.a.setKind c) (cellK _ _ _ _)
  generalize w2.setCell ⟨g, 0, none⟩ (.int .i64 c) = w3 at s3 ⊢
  clear s2
  repeat (first | ((with_reducible refine WL.topT ?_ ?_); omega) | ((with_reducible refine WL.topF ?_ ?_); omega) | ((with_reducible refine WL.top64 ?_ ?_); omega) | refine WC.seq ?_ | refine WC.block ?_ | refine WC.region ?_ | refine WL.nil ?_ | refine WC.skip ?_ | refine WC.exit ?_ | refine WC.ret ?_ | refine WQ.then rfl ?_ | refine WQ.thenExit ?_ | refine WQ.thenRet ?_ | refine WQ.blk ?_ | refine WQ.blkRet ?_ | refine WQ.blkHere rfl ?_ | refine WQ.blkOther rfl ?_ | refine WL.pure rfl rfl rfl rfl ?_ | refine WL.on rfl rfl ?_ | refine WL.off rfl rfl rfl ?_ | refine WC.condTrue rfl ?_ | refine WC.condFalse rfl ?_)
  refine WL.call rfl rfl rfl rfl rfl Try.func22 rfl (by kernel_rfl) (number11r_any s3.r) ?_
  rintro _ w4 ⟨u2, l2, e2, rfl, hu2, hr, hk, ho2⟩
  refine ⟨_, rfl, ?_⟩
  have s4 := s3.call hBg hr hk
  clear hr hk s3
  repeat (first | ((with_reducible refine WL.topT ?_ ?_); omega) | ((with_reducible refine WL.topF ?_ ?_); omega) | ((with_reducible refine WL.top64 ?_ ?_); omega) | refine WC.seq ?_ | refine WC.block ?_ | refine WC.region ?_ | refine WL.nil ?_ | refine WC.skip ?_ | refine WC.exit ?_ | refine WC.ret ?_ | refine WQ.then rfl ?_ | refine WQ.thenExit ?_ | refine WQ.thenRet ?_ | refine WQ.blk ?_ | refine WQ.blkRet ?_ | refine WQ.blkHere rfl ?_ | refine WQ.blkOther rfl ?_ | refine WL.pure rfl rfl rfl rfl ?_ | refine WL.on rfl rfl ?_ | refine WL.off rfl rfl rfl ?_ | refine WC.condTrue rfl ?_ | refine WC.condFalse rfl ?_)
  refine WL.call rfl rfl rfl rfl rfl Try.func22 rfl (by kernel_rfl) (number11r_any s4.r) ?_
  rintro _ w5 ⟨u3, l3, e3, rfl, hu3, hr, hk, ho3⟩
  refine ⟨_, rfl, ?_⟩
  have s5 := s4.call hBg hr hk
  clear hr hk s4
  repeat (first | ((with_reducible refine WL.topT ?_ ?_); omega) | ((with_reducible refine WL.topF ?_ ?_); omega) | ((with_reducible refine WL.top64 ?_ ?_); omega) | refine WC.seq ?_ | refine WC.block ?_ | refine WC.region ?_ | refine WL.nil ?_ | refine WC.skip ?_ | refine WC.exit ?_ | refine WC.ret ?_ | refine WQ.then rfl ?_ | refine WQ.thenExit ?_ | refine WQ.thenRet ?_ | refine WQ.blk ?_ | refine WQ.blkRet ?_ | refine WQ.blkHere rfl ?_ | refine WQ.blkOther rfl ?_ | refine WL.pure rfl rfl rfl rfl ?_ | refine WL.on rfl rfl ?_ | refine WL.off rfl rfl rfl ?_ | refine WC.condTrue rfl ?_ | refine WC.condFalse rfl ?_)
  refine WL.call rfl rfl rfl rfl rfl Try.func22 rfl (by kernel_rfl) (number11r_any s5.r) ?_
  rintro _ w6 ⟨u4, l4, e4, rfl, hu4, hr, hk, ho4⟩
  refine ⟨_, rfl, ?_⟩
  have s6 := s5.call hBg hr hk
  clear hr hk s5
  repeat (first | ((with_reducible refine WL.topT ?_ ?_); omega) | ((with_reducible refine WL.topF ?_ ?_); omega) | ((with_reducible refine WL.top64 ?_ ?_); omega) | refine WC.seq ?_ | refine WC.block ?_ | refine WC.region ?_ | refine WL.nil ?_ | refine WC.skip ?_ | refine WC.exit ?_ | refine WC.ret ?_ | refine WQ.then rfl ?_ | refine WQ.thenExit ?_ | refine WQ.thenRet ?_ | refine WQ.blk ?_ | refine WQ.blkRet ?_ | refine WQ.blkHere rfl ?_ | refine WQ.blkOther rfl ?_ | refine WL.pure rfl rfl rfl rfl ?_ | refine WL.on rfl rfl ?_ | refine WL.off rfl rfl rfl ?_ | refine WC.condTrue rfl ?_ | refine WC.condFalse rfl ?_)
  refine WL.store (v := .int .i64 u2) rfl rfl rfl rfl rfl rfl (by kernel_rfl) s6.a.table (s6.a.blk.free 2) ?_
  have s7 := s6.put hBg hgw (s6.a.setTable u2) (cellK _ _ _ _)
  generalize w6.setCell ⟨g, 2, none⟩ (.int .i64 u2) = w7 at s7 ⊢
  clear s6
  repeat (first | ((with_reducible refine WL.topT ?_ ?_); omega) | ((with_reducible refine WL.topF ?_ ?_); omega) | ((with_reducible refine WL.top64 ?_ ?_); omega) | refine WC.seq ?_ | refine WC.block ?_ | refine WC.region ?_ | refine WL.nil ?_ | refine WC.skip ?_ | refine WC.exit ?_ | refine WC.ret ?_ | refine WQ.then rfl ?_ | refine WQ.thenExit ?_ | refine WQ.thenRet ?_ | refine WQ.blk ?_ | refine WQ.blkRet ?_ | refine WQ.blkHere rfl ?_ | refine WQ.blkOther rfl ?_ | refine WL.pure rfl rfl rfl rfl ?_ | refine WL.on rfl rfl ?_ | refine WL.off rfl rfl rfl ?_ | refine WC.condTrue rfl ?_ | refine WC.condFalse rfl ?_)
  refine WL.store (v := .int .i64 u3) rfl rfl rfl rfl rfl rfl (by kernel_rfl) s7.a.doc (s7.a.blk.free 3) ?_
  have s8 := s7.put hBg hgw (s7.a.setDoc u3) (cellK _ _ _ _)
  generalize w7.setCell ⟨g, 3, none⟩ (.int .i64 u3) = w8 at s8 ⊢
  clear s7
  repeat (first | ((with_reducible refine WL.topT ?_ ?_); omega) | ((with_reducible refine WL.topF ?_ ?_); omega) | ((with_reducible refine WL.top64 ?_ ?_); omega) | refine WC.seq ?_ | refine WC.block ?_ | refine WC.region ?_ | refine WL.nil ?_ | refine WC.skip ?_ | refine WC.exit ?_ | refine WC.ret ?_ | refine WQ.then rfl ?_ | refine WQ.thenExit ?_ | refine WQ.thenRet ?_ | refine WQ.blk ?_ | refine WQ.blkRet ?_ | refine WQ.blkHere rfl ?_ | refine WQ.blkOther rfl ?_ | refine WL.pure rfl rfl rfl rfl ?_ | refine WL.on rfl rfl ?_ | refine WL.off rfl rfl rfl ?_ | refine WC.condTrue rfl ?_ | refine WC.condFalse rfl ?_)
  refine WL.store (v := .int .i64 u4) rfl rfl rfl rfl rfl rfl (by kernel_rfl) s8.a.ver (s8.a.blk.free 4) ?_
  have s9 := s8.put hBg hgw (s8.a.setVer u4) (cellK _ _ _ _)
  generalize w8.setCell ⟨g, 4, none⟩ (.int .i64 u4) = w9 at s9 ⊢
  clear s8
  repeat (first | ((with_reducible refine WL.topT ?_ ?_); omega) | ((with_reducible refine WL.topF ?_ ?_); omega) | ((with_reducible refine WL.top64 ?_ ?_); omega) | refine WC.seq ?_ | refine WC.block ?_ | refine WC.region ?_ | refine WL.nil ?_ | refine WC.skip ?_ | refine WC.exit ?_ | refine WC.ret ?_ | refine WQ.then rfl ?_ | refine WQ.thenExit ?_ | refine WQ.thenRet ?_ | refine WQ.blk ?_ | refine WQ.blkRet ?_ | refine WQ.blkHere rfl ?_ | refine WQ.blkOther rfl ?_ | refine WL.pure rfl rfl rfl rfl ?_ | refine WL.on rfl rfl ?_ | refine WL.off rfl rfl rfl ?_ | refine WC.condTrue rfl ?_ | refine WC.condFalse rfl ?_)
  refine WL.call rfl rfl rfl rfl rfl Try.func22 rfl (by kernel_rfl) (number11r_any s9.r) ?_
  rintro _ w10 ⟨u5, l5, e5, rfl, hu5, hr, hk, ho5⟩
  refine ⟨_, rfl, ?_⟩
  have s10 := s9.call hBg hr hk
  clear hr hk s9
  repeat (first | ((with_reducible refine WL.topT ?_ ?_); omega) | ((with_reducible refine WL.topF ?_ ?_); omega) | ((with_reducible refine WL.top64 ?_ ?_); omega) | refine WC.seq ?_ | refine WC.block ?_ | refine WC.region ?_ | refine WL.nil ?_ | refine WC.skip ?_ | refine WC.exit ?_ | refine WC.ret ?_ | refine WQ.then rfl ?_ | refine WQ.thenExit ?_ | refine WQ.thenRet ?_ | refine WQ.blk ?_ | refine WQ.blkRet ?_ | refine WQ.blkHere rfl ?_ | refine WQ.blkOther rfl ?_ | refine WL.pure rfl rfl rfl rfl ?_ | refine WL.on rfl rfl ?_ | refine WL.off rfl rfl rfl ?_ | refine WC.condTrue rfl ?_ | refine WC.condFalse rfl ?_)
  refine WL.call rfl rfl rfl rfl rfl Try.func23 rfl (by kernel_rfl) (take_any s10.r hu5) ?_
  rintro _ w11 ⟨v6, x, l6, e6, rfl, hv6, hbx, hx1, hx0, hr, hk, ho6⟩
  refine ⟨_, rfl, ?_⟩
  have s11 := s10.call hBg hr hk
  clear hr hk s10
  have hl1 := ho1.len
  have hl2 := ho2.len
  have hl3 := ho3.len
  have hl4 := ho4.len
  have hl5 := ho5.len
  have hl6 := ho6.len
  have hxl := take_len ho6 hx0
  have hts : (bytS x).size ≤ 140737488355328 := by rw [bytS_size]; omega
  repeat (first | ((with_reducible refine WL.topT ?_ ?_); omega) | ((with_reducible refine WL.topF ?_ ?_); omega) | ((with_reducible refine WL.top64 ?_ ?_); omega) | refine WC.seq ?_ | refine WC.block ?_ | refine WC.region ?_ | refine WL.nil ?_ | refine WC.skip ?_ | refine WC.exit ?_ | refine WC.ret ?_ | refine WQ.then rfl ?_ | refine WQ.thenExit ?_ | refine WQ.thenRet ?_ | refine WQ.blk ?_ | refine WQ.blkRet ?_ | refine WQ.blkHere rfl ?_ | refine WQ.blkOther rfl ?_ | refine WL.pure rfl rfl rfl rfl ?_ | refine WL.on rfl rfl ?_ | refine WL.off rfl rfl rfl ?_ | refine WC.condTrue rfl ?_ | refine WC.condFalse rfl ?_)
  refine WL.strOf rfl rfl rfl rfl rfl rfl rfl rfl hv6.sl ?_
  have es : strOfNums x = bytS x := rfl
  rw [es]
  clear es hv6
  repeat (first | ((with_reducible refine WL.topT ?_ ?_); omega) | ((with_reducible refine WL.topF ?_ ?_); omega) | ((with_reducible refine WL.top64 ?_ ?_); omega) | refine WC.seq ?_ | refine WC.block ?_ | refine WC.region ?_ | refine WL.nil ?_ | refine WC.skip ?_ | refine WC.exit ?_ | refine WC.ret ?_ | refine WQ.then rfl ?_ | refine WQ.thenExit ?_ | refine WQ.thenRet ?_ | refine WQ.blk ?_ | refine WQ.blkRet ?_ | refine WQ.blkHere rfl ?_ | refine WQ.blkOther rfl ?_ | refine WL.pure rfl rfl rfl rfl ?_ | refine WL.on rfl rfl ?_ | refine WL.off rfl rfl rfl ?_ | refine WC.condTrue rfl ?_ | refine WC.condFalse rfl ?_)
  refine WL.store (v := .string (bytS x)) rfl rfl rfl rfl rfl rfl (by kernel_rfl) s11.a.text (s11.a.blk.free 1) ?_
  have s12 := s11.put hBg hgw (s11.a.setText (bytS x)) (cellK _ _ _ _)
  generalize w11.setCell ⟨g, 1, none⟩ (.string (bytS x)) = w12 at s12 ⊢
  clear s11
  repeat (first | ((with_reducible refine WL.topT ?_ ?_); omega) | ((with_reducible refine WL.topF ?_ ?_); omega) | ((with_reducible refine WL.top64 ?_ ?_); omega) | refine WC.seq ?_ | refine WC.block ?_ | refine WC.region ?_ | refine WL.nil ?_ | refine WC.skip ?_ | refine WC.exit ?_ | refine WC.ret ?_ | refine WQ.then rfl ?_ | refine WQ.thenExit ?_ | refine WQ.thenRet ?_ | refine WQ.blk ?_ | refine WQ.blkRet ?_ | refine WQ.blkHere rfl ?_ | refine WQ.blkOther rfl ?_ | refine WL.pure rfl rfl rfl rfl ?_ | refine WL.on rfl rfl ?_ | refine WL.off rfl rfl rfl ?_ | refine WC.condTrue rfl ?_ | refine WC.condFalse rfl ?_)
  refine WL.call rfl rfl rfl rfl rfl Try.func22 rfl (by kernel_rfl) (number11r_any s12.r) ?_
  rintro _ w13 ⟨u7, l7, e7, rfl, hu7, hr, hk, ho7⟩
  refine ⟨_, rfl, ?_⟩
  have s13 := s12.call hBg hr hk
  clear hr hk s12
  repeat (first | ((with_reducible refine WL.topT ?_ ?_); omega) | ((with_reducible refine WL.topF ?_ ?_); omega) | ((with_reducible refine WL.top64 ?_ ?_); omega) | refine WC.seq ?_ | refine WC.block ?_ | refine WC.region ?_ | refine WL.nil ?_ | refine WC.skip ?_ | refine WC.exit ?_ | refine WC.ret ?_ | refine WQ.then rfl ?_ | refine WQ.thenExit ?_ | refine WQ.thenRet ?_ | refine WQ.blk ?_ | refine WQ.blkRet ?_ | refine WQ.blkHere rfl ?_ | refine WQ.blkOther rfl ?_ | refine WL.pure rfl rfl rfl rfl ?_ | refine WL.on rfl rfl ?_ | refine WL.off rfl rfl rfl ?_ | refine WC.condTrue rfl ?_ | refine WC.condFalse rfl ?_)
  refine WL.call rfl rfl rfl rfl rfl Try.func22 rfl (by kernel_rfl) (number11r_any s13.r) ?_
  rintro _ w14 ⟨u8, l8, e8, rfl, hu8, hr, hk, ho8⟩
  refine ⟨_, rfl, ?_⟩
  have s14 := s13.call hBg hr hk
  clear hr hk s13
  repeat (first | ((with_reducible refine WL.topT ?_ ?_); omega) | ((with_reducible refine WL.topF ?_ ?_); omega) | ((with_reducible refine WL.top64 ?_ ?_); omega) | refine WC.seq ?_ | refine WC.block ?_ | refine WC.region ?_ | refine WL.nil ?_ | refine WC.skip ?_ | refine WC.exit ?_ | refine WC.ret ?_ | refine WQ.then rfl ?_ | refine WQ.thenExit ?_ | refine WQ.thenRet ?_ | refine WQ.blk ?_ | refine WQ.blkRet ?_ | refine WQ.blkHere rfl ?_ | refine WQ.blkOther rfl ?_ | refine WL.pure rfl rfl rfl rfl ?_ | refine WL.on rfl rfl ?_ | refine WL.off rfl rfl rfl ?_ | refine WC.condTrue rfl ?_ | refine WC.condFalse rfl ?_)
  refine WL.store (v := .int .i64 u7) rfl rfl rfl rfl rfl rfl (by kernel_rfl) s14.a.ab (s14.a.blk.free 44) ?_
  have s15 := s14.put hBg hgw (s14.a.setAb u7) (cellK _ _ _ _)
  generalize w14.setCell ⟨g, 44, none⟩ (.int .i64 u7) = w15 at s15 ⊢
  clear s14
  repeat (first | ((with_reducible refine WL.topT ?_ ?_); omega) | ((with_reducible refine WL.topF ?_ ?_); omega) | ((with_reducible refine WL.top64 ?_ ?_); omega) | refine WC.seq ?_ | refine WC.block ?_ | refine WC.region ?_ | refine WL.nil ?_ | refine WC.skip ?_ | refine WC.exit ?_ | refine WC.ret ?_ | refine WQ.then rfl ?_ | refine WQ.thenExit ?_ | refine WQ.thenRet ?_ | refine WQ.blk ?_ | refine WQ.blkRet ?_ | refine WQ.blkHere rfl ?_ | refine WQ.blkOther rfl ?_ | refine WL.pure rfl rfl rfl rfl ?_ | refine WL.on rfl rfl ?_ | refine WL.off rfl rfl rfl ?_ | refine WC.condTrue rfl ?_ | refine WC.condFalse rfl ?_)
  refine WL.store (v := .int .i64 u8) rfl rfl rfl rfl rfl rfl (by kernel_rfl) s15.a.ae (s15.a.blk.free 45) ?_
  have s16 := s15.put hBg hgw (s15.a.setAe u8) (cellK _ _ _ _)
  generalize w15.setCell ⟨g, 45, none⟩ (.int .i64 u8) = w16 at s16 ⊢
  clear s15
  have hN : ∃ N : En, N = ⟨c, bytS x, u2, u3, u4, zV, Dig.Z32, false, u7, u8⟩ := ⟨_, rfl⟩
  obtain ⟨N, hN⟩ := hN
  have s17 : ESt B rb g w w16 l8 e8 N zCells := by rw [hN]; exact s16
  clear s16
  have hl7 := ho7.len
  have hl8 := ho8.len
  have hO : ∀ {en l9 e9}, Out (fun r => if c = 2 then (rdX 32 r).bind fun h r => rdD ⟨c, bytS x, u2, u3, u4, zV, h, false, u7, u8⟩ r else .ok ⟨c, bytS x, u2, u3, u4, zV, Dig.Z32, false, u7, u8⟩ r) l8 e8 en l9 e9 → OutE l e en l9 e9 := fun h => rdE_out ho1 ho2 ho3 ho4 ho5 ho6 ho7 ho8 h
  have fin : ∀ {w' l9 e9 gn hh dc} {dv : V}, ESt B rb g w w' l9 e9 { N with gone := gn, hash := hh, data := dv } dc → Byt hh → IsVo (fun b => w.heap.size ≤ b ∧ b ≠ g) 17 w' dv dc → OutE l e { N with gone := gn, hash := hh, data := dv } l9 e9 → (e9 = 0 → (encV 16 dv).length ≤ 65536) →
      EntPost B rb w l e (.returned (.agg (enC { N with gone := gn, hash := hh, data := dv } dc).toArray)) (w'.setRow g (enC { N with gone := gn, hash := hh, data := dv } dc).toArray) := by
    intro w' l9 e9 gn hh dc dv s hb hv ho hsm
    have s' := s.put hBg hgw (⟨s.a.blk.setRow _, s.a.dl, s.a.hl⟩ : EnAt _ g _ { N with gone := gn, hash := hh, data := dv } dc) (rowK _ _ _)
    refine ⟨_, _, l9, e9, rfl, ⟨dc, rfl, hv.keep (rowK _ g _ (· ≠ g) (fun h => h rfl)) (fun b hb _ => hb.2) (fun b hb => hb.1), s.a.dl, hv.one, s.a.hl, hb, ?_⟩, s'.r, s'.k, ho, hsm⟩
    subst hN
    exact ⟨hts, by show R64 c; omega, by show R64 (u2 : Int); omega, by show R64 (u3 : Int); omega, by show R64 (u4 : Int); omega, by show R64 (u7 : Int); omega, by show R64 (u8 : Int); omega⟩
  have hNk : N.kind = c := by rw [hN]
  have hNd : N.data = zV := by rw [hN]
  have hNh : N.hash = Dig.Z32 := by rw [hN]
  have hzd : ∀ (O : Nat → Prop) w, IsVo O 17 w N.data zCells := fun O w => by rw [hNd]; exact zV_is _ _ _
  have hzs : (encV 16 N.data).length ≤ 65536 := by rw [hNd]; decide
  have hbz : Byt Dig.Z32 := fun x hx => by have := List.eq_of_mem_replicate hx; omega
  repeat (first | ((with_reducible refine WL.topT ?_ ?_); omega) | ((with_reducible refine WL.topF ?_ ?_); omega) | ((with_reducible refine WL.top64 ?_ ?_); omega) | refine WC.seq ?_ | refine WC.block ?_ | refine WC.region ?_ | refine WL.nil ?_ | refine WC.skip ?_ | refine WC.exit ?_ | refine WC.ret ?_ | refine WQ.then rfl ?_ | refine WQ.thenExit ?_ | refine WQ.thenRet ?_ | refine WQ.blk ?_ | refine WQ.blkRet ?_ | refine WQ.blkHere rfl ?_ | refine WQ.blkOther rfl ?_ | refine WL.pure rfl rfl rfl rfl ?_ | refine WL.on rfl rfl ?_ | refine WL.off rfl rfl rfl ?_ | refine WC.condTrue rfl ?_ | refine WC.condFalse rfl ?_)
  refine WL.load rfl rfl rfl rfl rfl rfl s17.a.kind ?_
  rw [hNk]
  by_cases k2 : c = 2
  rotate_left
  · repeat (first | ((with_reducible refine WL.topT ?_ ?_); omega) | ((with_reducible refine WL.topF ?_ ?_); omega) | ((with_reducible refine WL.top64 ?_ ?_); omega) | refine WC.seq ?_ | refine WC.block ?_ | refine WC.region ?_ | refine WL.nil ?_ | refine WC.skip ?_ | refine WC.exit ?_ | refine WC.ret ?_ | refine WQ.then rfl ?_ | refine WQ.thenExit ?_ | refine WQ.thenRet ?_ | refine WQ.blk ?_ | refine WQ.blkRet ?_ | refine WQ.blkHere rfl ?_ | refine WQ.blkOther rfl ?_ | refine WL.pure rfl rfl rfl rfl ?_ | refine WL.on rfl rfl ?_ | refine WL.off rfl rfl rfl ?_ | refine WC.condTrue rfl ?_ | refine WC.condFalse rfl ?_)
    refine WL.loadMid rfl rfl rfl rfl rfl rfl (VBlk.rangeAt s17.a.blk) s17.a.len ?_
    refine WL.storeRow rfl rfl rfl rfl rfl rfl s17.a.blk s17.a.len s17.a.len (enC_one (zV_is (fun _ => True) 0 w).one) ?_
    repeat (first | ((with_reducible refine WL.topT ?_ ?_); omega) | ((with_reducible refine WL.topF ?_ ?_); omega) | ((with_reducible refine WL.top64 ?_ ?_); omega) | refine WC.seq ?_ | refine WC.block ?_ | refine WC.region ?_ | refine WL.nil ?_ | refine WC.skip ?_ | refine WC.exit ?_ | refine WC.ret ?_ | refine WQ.then rfl ?_ | refine WQ.thenExit ?_ | refine WQ.thenRet ?_ | refine WQ.blk ?_ | refine WQ.blkRet ?_ | refine WQ.blkHere rfl ?_ | refine WQ.blkOther rfl ?_ | refine WL.pure rfl rfl rfl rfl ?_ | refine WL.on rfl rfl ?_ | refine WL.off rfl rfl rfl ?_ | refine WC.condTrue rfl ?_ | refine WC.condFalse rfl ?_)
    exact WQ.retC rfl rfl rfl s17.a.len (s17.a.blk.setRow _) (fin (gn := N.gone) (hh := N.hash) (dv := N.data) s17 (by rw [hNh]; exact hbz) (hzd _ _) (hO (Out.congr (Out.pure N) (by show _ = ite _ _ _; rw [if_neg k2, hN]))) (fun _ => hzs))
  repeat (first | ((with_reducible refine WL.topT ?_ ?_); omega) | ((with_reducible refine WL.topF ?_ ?_); omega) | ((with_reducible refine WL.top64 ?_ ?_); omega) | refine WC.seq ?_ | refine WC.block ?_ | refine WC.region ?_ | refine WL.nil ?_ | refine WC.skip ?_ | refine WC.exit ?_ | refine WC.ret ?_ | refine WQ.then rfl ?_ | refine WQ.thenExit ?_ | refine WQ.thenRet ?_ | refine WQ.blk ?_ | refine WQ.blkRet ?_ | refine WQ.blkHere rfl ?_ | refine WQ.blkOther rfl ?_ | refine WL.pure rfl rfl rfl rfl ?_ | refine WL.on rfl rfl ?_ | refine WL.off rfl rfl rfl ?_ | refine WC.condTrue rfl ?_ | refine WC.condFalse rfl ?_)
  refine WC.drawn 4 (fun _ => True) fun w18 hd18 => ?_
  have s18 := s17.below hBg (hd18.below _)
  clear s17
  have hS : True := trivial
  (((first | refine WD.free 0 rfl (by kernel_rfl) rfl rfl (fun _ _ _ _ _ h => h) rfl rfl (.inr hS) ?_ | refine WD.skip 0 rfl (by kernel_rfl) rfl rfl (fun _ _ _ _ _ h => h) rfl (.inr hS) ?_); try (first | ((with_reducible refine WD.topT ?_ ?_); omega) | ((with_reducible refine WD.topF ?_ ?_); omega) | ((with_reducible refine WD.top64 ?_ ?_); omega))))
  refine WD.all 1 rfl (by kernel_rfl) rfl rfl (fun _ _ _ _ _ h => h) rfl rfl rfl rfl (.inr hS) ?_
  (((first | refine WD.free 2 rfl (by kernel_rfl) rfl rfl (fun _ _ _ _ _ h => h) rfl rfl (.inr hS) ?_ | refine WD.skip 2 rfl (by kernel_rfl) rfl rfl (fun _ _ _ _ _ h => h) rfl (.inr hS) ?_); try (first | ((with_reducible refine WD.topT ?_ ?_); omega) | ((with_reducible refine WD.topF ?_ ?_); omega) | ((with_reducible refine WD.top64 ?_ ?_); omega))))
  refine WD.one 3 (by kernel_rfl) rfl ?_
  refine WL.call rfl rfl rfl rfl rfl Try.func23 rfl (by kernel_rfl) (take_any (n := 32) s18.r (by omega)) ?_
  rintro _ w19 ⟨v9, x9, l9, e9, rfl, hv9, hbx9, hx91, hx90, hr, hk, ho9⟩
  refine ⟨_, rfl, ?_⟩
  have s19 := s18.call hBg hr hk
  clear hr hk s18
  refine WL.nil (WQ.dk (.inr hS) ?_)
  refine WD.one 4 (by kernel_rfl) rfl ?_
  have hx9l : x9.length = 32 ∨ x9 = [] := by
    by_cases h0 : e9 = 0
    · exact .inl (hx91 h0)
    · exact .inr (hx90 h0)
  refine WL.copy rfl rfl rfl rfl rfl rfl hv9.sl (by rcases hx9l with h | rfl; omega; simp) s19.a.blk (by rw [s19.a.len]; omega) ?_
  refine WL.nil (WQ.dk (.inl rfl) ?_)
  refine WD.done (by kernel_rfl) ?_
  have s20 := s19.put hBg hgw (s19.a.copyHash hx9l) (rowK _ _ _)
  have hhe : ∃ hh, hh = if x9 = [] then N.hash else x9 := ⟨_, rfl⟩
  obtain ⟨hh, hhe⟩ := hhe
  rw [← hhe] at s20
  have hbh : Byt hh := by rw [hhe]; split; rw [hNh]; exact hbz; exact hbx9
  show WQ _ _ _ _ (w19.setRow g ((enC N zCells).take 11 ++ x9.map (Value.int .u8) ++ (enC N zCells).drop (11 + x9.length)).toArray)
  generalize w19.setRow g ((enC N zCells).take 11 ++ x9.map (Value.int .u8) ++ (enC N zCells).drop (11 + x9.length)).toArray = w20 at s20 ⊢
  clear s19
  have hl9 := ho9.len
  have hD : ∀ {en l' e'}, Out (rdD { N with hash := hh }) l9 e9 en l' e' → OutE l e en l' e' := by
    intro en l' e' ho
    have : Out (fun r => (rdX 32 r).bind fun h r => rdD ⟨c, bytS x, u2, u3, u4, zV, h, false, u7, u8⟩ r) l8 e8 en l' e' := by
      by_cases h0 : e9 = 0
      · have hx := hx91 h0
        have hh' : hh = x9 := by rw [hhe, if_neg]; rintro rfl; cases hx
        refine Out.bind (f := rdX 32) ho9 ?_
        rw [hh', hN] at ho
        exact ho
      · have h1 := ho.bad h0
        subst h1
        exact Out.stop (f := rdX 32) ho9 h0 ho.len
    exact hO (Out.congr this (by show _ = ite _ _ _; rw [if_pos k2]))
  repeat (first | ((with_reducible refine WL.topT ?_ ?_); omega) | ((with_reducible refine WL.topF ?_ ?_); omega) | ((with_reducible refine WL.top64 ?_ ?_); omega) | refine WC.seq ?_ | refine WC.block ?_ | refine WC.region ?_ | refine WL.nil ?_ | refine WC.skip ?_ | refine WC.exit ?_ | refine WC.ret ?_ | refine WQ.then rfl ?_ | refine WQ.thenExit ?_ | refine WQ.thenRet ?_ | refine WQ.blk ?_ | refine WQ.blkRet ?_ | refine WQ.blkHere rfl ?_ | refine WQ.blkOther rfl ?_ | refine WL.pure rfl rfl rfl rfl ?_ | refine WL.on rfl rfl ?_ | refine WL.off rfl rfl rfl ?_ | refine WC.condTrue rfl ?_ | refine WC.condFalse rfl ?_)
  refine WL.call rfl rfl rfl rfl rfl Try.func40 rfl (by kernel_rfl) (byte11_any s20.r) ?_
  rintro _ w21 ⟨c2, l10, e10, rfl, hc20, hc21, hr, hk, ho10⟩
  refine ⟨_, rfl, ?_⟩
  have s21 := s20.call hBg hr hk
  have hl10 := ho10.len
  clear hr hk s20
  repeat (first | ((with_reducible refine WL.topT ?_ ?_); omega) | ((with_reducible refine WL.topF ?_ ?_); omega) | ((with_reducible refine WL.top64 ?_ ?_); omega) | refine WC.seq ?_ | refine WC.region ?_ | refine WL.nil ?_ | refine WC.skip ?_ | refine WC.exit ?_ | refine WC.ret ?_ | refine WQ.then rfl ?_ | refine WQ.thenExit ?_ | refine WQ.thenRet ?_ | refine WQ.blk ?_ | refine WQ.blkRet ?_ | refine WQ.blkHere rfl ?_ | refine WQ.blkOther rfl ?_ | refine WL.pure rfl rfl rfl rfl ?_ | refine WL.on rfl rfl ?_ | refine WL.off rfl rfl rfl ?_ | refine WL.load rfl rfl rfl rfl rfl rfl (by assumption) ?_ | refine WC.condTrue rfl ?_ | refine WC.condFalse rfl ?_)
  refine WC.mid (fun _ : Bool × V × List Value × List Int × Int => [(2, .pointer (some ⟨g, 0, none⟩))])
    (fun i w' => ESt B rb g w w' i.2.2.2.1 i.2.2.2.2 { N with gone := i.1, hash := hh, data := i.2.1 } i.2.2.1 ∧ IsVo (fun b => w.heap.size ≤ b ∧ b ≠ g) 17 w' i.2.1 i.2.2.1 ∧ OutE l e { N with gone := i.1, hash := hh, data := i.2.1 } i.2.2.2.1 i.2.2.2.2 ∧ (i.2.2.2.2 = 0 → (encV 16 i.2.1).length ≤ 65536)) rfl ?_ ?_
  rotate_left
  · rintro ⟨gn, dv, dc, l30, e30⟩ w30 ⟨s30, hv30, ho30, hs30⟩
    simp only at s30 hv30 ho30 hs30 ⊢
    repeat (first | ((with_reducible refine WL.topT ?_ ?_); omega) | ((with_reducible refine WL.topF ?_ ?_); omega) | ((with_reducible refine WL.top64 ?_ ?_); omega) | refine WC.seq ?_ | refine WC.block ?_ | refine WC.region ?_ | refine WL.nil ?_ | refine WC.skip ?_ | refine WC.exit ?_ | refine WC.ret ?_ | refine WQ.then rfl ?_ | refine WQ.thenExit ?_ | refine WQ.thenRet ?_ | refine WQ.blk ?_ | refine WQ.blkRet ?_ | refine WQ.blkHere rfl ?_ | refine WQ.blkOther rfl ?_ | refine WL.pure rfl rfl rfl rfl ?_ | refine WL.on rfl rfl ?_ | refine WL.off rfl rfl rfl ?_ | refine WC.condTrue rfl ?_ | refine WC.condFalse rfl ?_)
    refine WL.loadMid rfl rfl rfl rfl rfl rfl (VBlk.rangeAt s30.a.blk) s30.a.len ?_
    refine WL.storeRow rfl rfl rfl rfl rfl rfl s30.a.blk s30.a.len s30.a.len (enC_one hv30.one) ?_
    repeat (first | ((with_reducible refine WL.topT ?_ ?_); omega) | ((with_reducible refine WL.topF ?_ ?_); omega) | ((with_reducible refine WL.top64 ?_ ?_); omega) | refine WC.seq ?_ | refine WC.block ?_ | refine WC.region ?_ | refine WL.nil ?_ | refine WC.skip ?_ | refine WC.exit ?_ | refine WC.ret ?_ | refine WQ.then rfl ?_ | refine WQ.thenExit ?_ | refine WQ.thenRet ?_ | refine WQ.blk ?_ | refine WQ.blkRet ?_ | refine WQ.blkHere rfl ?_ | refine WQ.blkOther rfl ?_ | refine WL.pure rfl rfl rfl rfl ?_ | refine WL.on rfl rfl ?_ | refine WL.off rfl rfl rfl ?_ | refine WC.condTrue rfl ?_ | refine WC.condFalse rfl ?_)
    exact WQ.retC rfl rfl rfl s30.a.len (s30.a.blk.setRow _) (fin s30 hbh hv30 ho30 hs30)
  by_cases q0 : c2 = 0
  · repeat (first | ((with_reducible refine WL.topT ?_ ?_); omega) | ((with_reducible refine WL.topF ?_ ?_); omega) | ((with_reducible refine WL.top64 ?_ ?_); omega) | refine WC.seq ?_ | refine WC.block ?_ | refine WC.region ?_ | refine WL.nil ?_ | refine WC.skip ?_ | refine WC.exit ?_ | refine WC.ret ?_ | refine WQ.then rfl ?_ | refine WQ.thenExit ?_ | refine WQ.thenRet ?_ | refine WQ.blk ?_ | refine WQ.blkRet ?_ | refine WQ.blkHere rfl ?_ | refine WQ.blkOther rfl ?_ | refine WL.pure rfl rfl rfl rfl ?_ | refine WL.on rfl rfl ?_ | refine WL.off rfl rfl rfl ?_ | refine WC.condTrue rfl ?_ | refine WC.condFalse rfl ?_)
    refine WL.store (v := .bool true) rfl rfl rfl rfl rfl rfl (by kernel_rfl) s21.a.gone (s21.a.blk.free 43) ?_
    have s22 := s21.put hBg hgw (s21.a.setGone true) (cellK _ _ _ _)
    repeat (first | ((with_reducible refine WL.topT ?_ ?_); omega) | ((with_reducible refine WL.topF ?_ ?_); omega) | ((with_reducible refine WL.top64 ?_ ?_); omega) | refine WC.seq ?_ | refine WC.block ?_ | refine WC.region ?_ | refine WL.nil ?_ | refine WC.skip ?_ | refine WC.exit ?_ | refine WC.ret ?_ | refine WQ.then rfl ?_ | refine WQ.thenExit ?_ | refine WQ.thenRet ?_ | refine WQ.blk ?_ | refine WQ.blkRet ?_ | refine WQ.blkHere rfl ?_ | refine WQ.blkOther rfl ?_ | refine WL.pure rfl rfl rfl rfl ?_ | refine WL.on rfl rfl ?_ | refine WL.off rfl rfl rfl ?_ | refine WC.condTrue rfl ?_ | refine WC.condFalse rfl ?_)
    exact WQ.meet (true, N.data, zCells, l10, e10) ⟨rfl, trivial⟩ ⟨s22, hzd _ _, hD (ho10.bind (Out.congr (Out.pure _) (by rw [if_pos q0]))), fun _ => hzs⟩
  by_cases q1 : c2 = 1
  rotate_left
  · repeat (first | ((with_reducible refine WL.topT ?_ ?_); omega) | ((with_reducible refine WL.topF ?_ ?_); omega) | ((with_reducible refine WL.top64 ?_ ?_); omega) | refine WC.seq ?_ | refine WC.block ?_ | refine WC.region ?_ | refine WL.nil ?_ | refine WC.skip ?_ | refine WC.exit ?_ | refine WC.ret ?_ | refine WQ.then rfl ?_ | refine WQ.thenExit ?_ | refine WQ.thenRet ?_ | refine WQ.blk ?_ | refine WQ.blkRet ?_ | refine WQ.blkHere rfl ?_ | refine WQ.blkOther rfl ?_ | refine WL.pure rfl rfl rfl rfl ?_ | refine WL.on rfl rfl ?_ | refine WL.off rfl rfl rfl ?_ | refine WC.condTrue rfl ?_ | refine WC.condFalse rfl ?_)
    refine WL.call rfl rfl rfl rfl rfl Try.func25 rfl (by kernel_rfl) (fail11_any s21.r 3) ?_
    rintro _ w22 ⟨rfl, hr, hk⟩
    refine ⟨_, rfl, ?_⟩
    have s22 := s21.call hBg hr hk
    repeat (first | ((with_reducible refine WL.topT ?_ ?_); omega) | ((with_reducible refine WL.topF ?_ ?_); omega) | ((with_reducible refine WL.top64 ?_ ?_); omega) | refine WC.seq ?_ | refine WC.block ?_ | refine WC.region ?_ | refine WL.nil ?_ | refine WC.skip ?_ | refine WC.exit ?_ | refine WC.ret ?_ | refine WQ.then rfl ?_ | refine WQ.thenExit ?_ | refine WQ.thenRet ?_ | refine WQ.blk ?_ | refine WQ.blkRet ?_ | refine WQ.blkHere rfl ?_ | refine WQ.blkOther rfl ?_ | refine WL.pure rfl rfl rfl rfl ?_ | refine WL.on rfl rfl ?_ | refine WL.off rfl rfl rfl ?_ | refine WC.condTrue rfl ?_ | refine WC.condFalse rfl ?_)
    exact WQ.meet (N.gone, N.data, zCells, l10, _) ⟨rfl, trivial⟩ ⟨s22, hzd _ _, hD (ho10.bind (Out.congr (Out.fail 3 (by omega)) (by rw [if_neg q0, if_neg q1]))), fun _ => hzs⟩
  repeat (first | ((with_reducible refine WL.topT ?_ ?_); omega) | ((with_reducible refine WL.topF ?_ ?_); omega) | ((with_reducible refine WL.top64 ?_ ?_); omega) | refine WC.seq ?_ | refine WC.block ?_ | refine WC.region ?_ | refine WL.nil ?_ | refine WC.skip ?_ | refine WC.exit ?_ | refine WC.ret ?_ | refine WQ.then rfl ?_ | refine WQ.thenExit ?_ | refine WQ.thenRet ?_ | refine WQ.blk ?_ | refine WQ.blkRet ?_ | refine WQ.blkHere rfl ?_ | refine WQ.blkOther rfl ?_ | refine WL.pure rfl rfl rfl rfl ?_ | refine WL.on rfl rfl ?_ | refine WL.off rfl rfl rfl ?_ | refine WC.condTrue rfl ?_ | refine WC.condFalse rfl ?_)
  refine WL.call rfl rfl rfl rfl rfl Try.func22 rfl (by kernel_rfl) (number11r_any s21.r) ?_
  rintro _ w22 ⟨u11, l11, e11, rfl, hu11, hr, hk, ho11⟩
  refine ⟨_, rfl, ?_⟩
  have s22 := s21.call hBg hr hk
  clear hr hk s21
  repeat (first | ((with_reducible refine WL.topT ?_ ?_); omega) | ((with_reducible refine WL.topF ?_ ?_); omega) | ((with_reducible refine WL.top64 ?_ ?_); omega) | refine WC.seq ?_ | refine WC.block ?_ | refine WC.region ?_ | refine WL.nil ?_ | refine WC.skip ?_ | refine WC.exit ?_ | refine WC.ret ?_ | refine WQ.then rfl ?_ | refine WQ.thenExit ?_ | refine WQ.thenRet ?_ | refine WQ.blk ?_ | refine WQ.blkRet ?_ | refine WQ.blkHere rfl ?_ | refine WQ.blkOther rfl ?_ | refine WL.pure rfl rfl rfl rfl ?_ | refine WL.on rfl rfl ?_ | refine WL.off rfl rfl rfl ?_ | refine WC.condTrue rfl ?_ | refine WC.condFalse rfl ?_)
  refine WL.call rfl rfl rfl rfl rfl Try.func23 rfl (by kernel_rfl) (take_any s22.r hu11) ?_
  rintro _ w23 ⟨v12, p, l12, e12, rfl, hv12, hbp, hp1, hp0, hr, hk, ho12⟩
  refine ⟨_, rfl, ?_⟩
  have s23 := s22.call hBg hr hk
  clear hr hk s22
  have hl11 := ho11.len
  have hl12 := ho12.len
  have hpl := take_len ho12 hp0
  have hgl := s23.a.blk.lt
  repeat (first | ((with_reducible refine WL.topT ?_ ?_); omega) | ((with_reducible refine WL.topF ?_ ?_); omega) | ((with_reducible refine WL.top64 ?_ ?_); omega) | refine WC.seq ?_ | refine WC.block ?_ | refine WC.region ?_ | refine WL.nil ?_ | refine WC.skip ?_ | refine WC.exit ?_ | refine WC.ret ?_ | refine WQ.then rfl ?_ | refine WQ.thenExit ?_ | refine WQ.thenRet ?_ | refine WQ.blk ?_ | refine WQ.blkRet ?_ | refine WQ.blkHere rfl ?_ | refine WQ.blkOther rfl ?_ | refine WL.pure rfl rfl rfl rfl ?_ | refine WL.on rfl rfl ?_ | refine WL.off rfl rfl rfl ?_ | refine WC.condTrue rfl ?_ | refine WC.condFalse rfl ?_)
  refine WL.call rfl rfl rfl rfl rfl Try.func41 rfl (by kernel_rfl) (decode_any hv12.sl hbp (by omega)) ?_
  rintro _ w24 ⟨hb24, y, cs, e13, rfl, hv24, hout⟩
  refine ⟨_, rfl, ?_⟩
  have s24 := s23.below hBg hb24
  have hv24' : IsVo (fun b => w.heap.size ≤ b ∧ b ≠ g) 17 w24 y cs := hv24.mono fun b hb => by omega
  have hcs := hv24.len
  clear s23 hv24
  repeat (first | ((with_reducible refine WL.topT ?_ ?_); omega) | ((with_reducible refine WL.topF ?_ ?_); omega) | ((with_reducible refine WL.top64 ?_ ?_); omega) | refine WC.seq ?_ | refine WC.block ?_ | refine WC.region ?_ | refine WL.nil ?_ | refine WC.skip ?_ | refine WC.exit ?_ | refine WC.ret ?_ | refine WQ.then rfl ?_ | refine WQ.thenExit ?_ | refine WQ.thenRet ?_ | refine WQ.blk ?_ | refine WQ.blkRet ?_ | refine WQ.blkHere rfl ?_ | refine WQ.blkOther rfl ?_ | refine WL.pure rfl rfl rfl rfl ?_ | refine WL.on rfl rfl ?_ | refine WL.off rfl rfl rfl ?_ | refine WC.condTrue rfl ?_ | refine WC.condFalse rfl ?_)
  refine WL.alloc (z := .agg zCells.toArray) rfl rfl rfl rfl (fun _ => by kernel_rfl) fun xb w25 hf3 => ?_
  have hf3' : Fresh w24 xb w25 45 zCells := hf3
  clear hf3
  have hxb := hf3'.eq
  repeat (first | ((with_reducible refine WL.topT ?_ ?_); omega) | ((with_reducible refine WL.topF ?_ ?_); omega) | ((with_reducible refine WL.top64 ?_ ?_); omega) | refine WC.seq ?_ | refine WC.block ?_ | refine WC.region ?_ | refine WL.nil ?_ | refine WC.skip ?_ | refine WC.exit ?_ | refine WC.ret ?_ | refine WQ.then rfl ?_ | refine WQ.thenExit ?_ | refine WQ.thenRet ?_ | refine WQ.blk ?_ | refine WQ.blkRet ?_ | refine WQ.blkHere rfl ?_ | refine WQ.blkOther rfl ?_ | refine WL.pure rfl rfl rfl rfl ?_ | refine WL.on rfl rfl ?_ | refine WL.off rfl rfl rfl ?_ | refine WC.condTrue rfl ?_ | refine WC.condFalse rfl ?_)
  refine WL.storeRow rfl rfl rfl rfl rfl rfl hf3'.blk hcs rfl hv24'.one ?_
  have hb26 : Below w24.heap.size w24 (w25.setRow xb cs.toArray) := below_setRow hf3'.below (by omega) _
  have hx26 : VBlk 45 (w25.setRow xb cs.toArray) xb cs := hf3'.blk.setRow cs
  generalize w25.setRow xb cs.toArray = w26 at hb26 hx26 ⊢
  clear hf3'
  have hv26 := hv24'.keep (Keep.of_below hb26) (fun b _ h => h) (fun b h => h)
  have s26 := s24.below hBg hb26
  have hgx : g ≠ xb := by have := s24.a.blk.lt; omega
  have hrx : xb ≠ rb := by have := s26.r.rlt; have := s24.a.blk.lt; omega
  clear s24 hv24'
  have hout2 : ∀ {E : Int}, E = (if e12 = 0 ∧ e13 ≠ 0 then 3 else e12) → OutE l e { N with hash := hh, data := y } l12 E := by
    intro E hE
    refine hD (ho10.bind (Out.congr (f := fun r => (rdN r).bind fun n r => (rdX n r).bind fun p r => match readV true p with
      | .ok v _ => .ok { N with hash := hh, data := v } r
      | .bad _ => .bad 3) (ho11.bind (ho12.bind ?_)) (by rw [if_neg q0, if_pos q1] <;> rfl)))
    cases hq : readV true p with
    | ok y2 q2 =>
      rw [hq] at hout
      obtain ⟨rfl, h13⟩ := hout
      rw [hE, if_neg (fun h => h.2 h13)]
      exact Out.pure _
    | bad z =>
      rw [hq] at hout
      obtain ⟨-, rfl, hz⟩ := hout
      have : E = if e12 = 0 then 3 else e12 := by rw [hE]; by_cases h : e12 = 0 <;> simp [h, hz]
      rw [this]
      exact Out.fail 3 (by omega)
  have hsm : ∀ {E : Int}, E = (if e12 = 0 ∧ e13 ≠ 0 then 3 else e12) → E = 0 → (encV 16 y).length ≤ 65536 := by
    intro E hE h0
    cases hq : readV true p with
    | ok y2 q2 =>
      rw [hq] at hout
      obtain ⟨rfl, -⟩ := hout
      obtain ⟨-, h1, h2⟩ := read_can hbp hq
      rw [h1]; exact h2
    | bad z =>
      rw [hq] at hout
      obtain ⟨-, rfl, hz⟩ := hout
      exfalso
      by_cases h : e12 = 0 <;> simp [h, hz] at hE <;> omega
  obtain ⟨sp, cap, hx1, -⟩ := s26.r.ex
  repeat (first | ((with_reducible refine WL.topT ?_ ?_); omega) | ((with_reducible refine WL.topF ?_ ?_); omega) | ((with_reducible refine WL.top64 ?_ ?_); omega) | refine WC.seq ?_ | refine WC.block ?_ | refine WC.region ?_ | refine WL.nil ?_ | refine WC.skip ?_ | refine WC.exit ?_ | refine WC.ret ?_ | refine WQ.then rfl ?_ | refine WQ.thenExit ?_ | refine WQ.thenRet ?_ | refine WQ.blk ?_ | refine WQ.blkRet ?_ | refine WQ.blkHere rfl ?_ | refine WQ.blkOther rfl ?_ | refine WL.pure rfl rfl rfl rfl ?_ | refine WL.on rfl rfl ?_ | refine WL.off rfl rfl rfl ?_ | refine WC.condTrue rfl ?_ | refine WC.condFalse rfl ?_)
  refine WL.load rfl rfl rfl rfl rfl rfl (hx1.cell 1 (by simp)) ?_
  clear hx1
  by_cases h12 : e12 = 0
  · by_cases h13 : e13 = 0
    · repeat (first | ((with_reducible refine WL.topT ?_ ?_); omega) | ((with_reducible refine WL.topF ?_ ?_); omega) | ((with_reducible refine WL.top64 ?_ ?_); omega) | refine WC.seq ?_ | refine WC.block ?_ | refine WC.region ?_ | refine WL.nil ?_ | refine WC.skip ?_ | refine WC.exit ?_ | refine WC.ret ?_ | refine WQ.then rfl ?_ | refine WQ.thenExit ?_ | refine WQ.thenRet ?_ | refine WQ.blk ?_ | refine WQ.blkRet ?_ | refine WQ.blkHere rfl ?_ | refine WQ.blkOther rfl ?_ | refine WL.pure rfl rfl rfl rfl ?_ | refine WL.on rfl rfl ?_ | refine WL.off rfl rfl rfl ?_ | refine WC.condTrue rfl ?_ | refine WC.condFalse rfl ?_)
      refine WL.loadMid rfl rfl rfl rfl rfl rfl (VBlk.rangeAt hx26) hcs ?_
      repeat (first | ((with_reducible refine WL.topT ?_ ?_); omega) | ((with_reducible refine WL.topF ?_ ?_); omega) | ((with_reducible refine WL.top64 ?_ ?_); omega) | refine WC.seq ?_ | refine WC.block ?_ | refine WC.region ?_ | refine WL.nil ?_ | refine WC.skip ?_ | refine WC.exit ?_ | refine WC.ret ?_ | refine WQ.then rfl ?_ | refine WQ.thenExit ?_ | refine WQ.thenRet ?_ | refine WQ.blk ?_ | refine WQ.blkRet ?_ | refine WQ.blkHere rfl ?_ | refine WQ.blkOther rfl ?_ | refine WL.pure rfl rfl rfl rfl ?_ | refine WL.on rfl rfl ?_ | refine WL.off rfl rfl rfl ?_ | refine WC.condTrue rfl ?_ | refine WC.condFalse rfl ?_)
      refine WL.storeMid rfl rfl rfl rfl rfl rfl s26.a.blk hcs (by rw [s26.a.len]; omega) hv26.one ?_
      have s30 := s26.put hBg hgw (s26.a.setData y hcs rfl) (rowK _ _ _)
      repeat (first | ((with_reducible refine WL.topT ?_ ?_); omega) | ((with_reducible refine WL.topF ?_ ?_); omega) | ((with_reducible refine WL.top64 ?_ ?_); omega) | refine WC.seq ?_ | refine WC.block ?_ | refine WC.region ?_ | refine WL.nil ?_ | refine WC.skip ?_ | refine WC.exit ?_ | refine WC.ret ?_ | refine WQ.then rfl ?_ | refine WQ.thenExit ?_ | refine WQ.thenRet ?_ | refine WQ.blk ?_ | refine WQ.blkRet ?_ | refine WQ.blkHere rfl ?_ | refine WQ.blkOther rfl ?_ | refine WL.pure rfl rfl rfl rfl ?_ | refine WL.on rfl rfl ?_ | refine WL.off rfl rfl rfl ?_ | refine WC.condTrue rfl ?_ | refine WC.condFalse rfl ?_)
      exact WQ.meet (N.gone, y, cs, l12, _) ⟨rfl, trivial⟩ ⟨s30, hv26.keep (rowK _ g _ (· ≠ g) (fun h => h rfl)) (fun b hb _ => hb.2) (fun b hb => hb), hout2 (if_neg (fun h => h.2 h13)).symm, hsm (if_neg (fun h => h.2 h13)).symm⟩
    · repeat (first | ((with_reducible refine WL.topT ?_ ?_); omega) | ((with_reducible refine WL.topF ?_ ?_); omega) | ((with_reducible refine WL.top64 ?_ ?_); omega) | refine WC.seq ?_ | refine WC.block ?_ | refine WC.region ?_ | refine WL.nil ?_ | refine WC.skip ?_ | refine WC.exit ?_ | refine WC.ret ?_ | refine WQ.then rfl ?_ | refine WQ.thenExit ?_ | refine WQ.thenRet ?_ | refine WQ.blk ?_ | refine WQ.blkRet ?_ | refine WQ.blkHere rfl ?_ | refine WQ.blkOther rfl ?_ | refine WL.pure rfl rfl rfl rfl ?_ | refine WL.on rfl rfl ?_ | refine WL.off rfl rfl rfl ?_ | refine WC.condTrue rfl ?_ | refine WC.condFalse rfl ?_)
      refine WL.call rfl rfl rfl rfl rfl Try.func25 rfl (by kernel_rfl) (fail11_any s26.r 3) ?_
      rintro _ w27 ⟨rfl, hr, hk⟩
      refine ⟨_, rfl, ?_⟩
      rw [if_pos h12] at hr
      have s27 := s26.call hBg hr hk
      have hx27 := hx26.keep hk ⟨hx26.lt, hrx⟩
      have hv27 := hv26.there.keep hk (fun b hb _ => ⟨hb.2, by have h1 : w.heap.size ≤ _ := hb.1.1; have := s26.r.rlt; omega⟩) (fun b hb => hb.1)
      repeat (first | ((with_reducible refine WL.topT ?_ ?_); omega) | ((with_reducible refine WL.topF ?_ ?_); omega) | ((with_reducible refine WL.top64 ?_ ?_); omega) | refine WC.seq ?_ | refine WC.block ?_ | refine WC.region ?_ | refine WL.nil ?_ | refine WC.skip ?_ | refine WC.exit ?_ | refine WC.ret ?_ | refine WQ.then rfl ?_ | refine WQ.thenExit ?_ | refine WQ.thenRet ?_ | refine WQ.blk ?_ | refine WQ.blkRet ?_ | refine WQ.blkHere rfl ?_ | refine WQ.blkOther rfl ?_ | refine WL.pure rfl rfl rfl rfl ?_ | refine WL.on rfl rfl ?_ | refine WL.off rfl rfl rfl ?_ | refine WC.condTrue rfl ?_ | refine WC.condFalse rfl ?_)
      refine WL.loadMid rfl rfl rfl rfl rfl rfl (VBlk.rangeAt hx27) hcs ?_
      repeat (first | ((with_reducible refine WL.topT ?_ ?_); omega) | ((with_reducible refine WL.topF ?_ ?_); omega) | ((with_reducible refine WL.top64 ?_ ?_); omega) | refine WC.seq ?_ | refine WC.block ?_ | refine WC.region ?_ | refine WL.nil ?_ | refine WC.skip ?_ | refine WC.exit ?_ | refine WC.ret ?_ | refine WQ.then rfl ?_ | refine WQ.thenExit ?_ | refine WQ.thenRet ?_ | refine WQ.blk ?_ | refine WQ.blkRet ?_ | refine WQ.blkHere rfl ?_ | refine WQ.blkOther rfl ?_ | refine WL.pure rfl rfl rfl rfl ?_ | refine WL.on rfl rfl ?_ | refine WL.off rfl rfl rfl ?_ | refine WC.condTrue rfl ?_ | refine WC.condFalse rfl ?_)
      refine WL.storeMid rfl rfl rfl rfl rfl rfl s27.a.blk hcs (by rw [s27.a.len]; omega) hv27.one ?_
      have s30 := s27.put hBg hgw (s27.a.setData y hcs rfl) (rowK _ _ _)
      repeat (first | ((with_reducible refine WL.topT ?_ ?_); omega) | ((with_reducible refine WL.topF ?_ ?_); omega) | ((with_reducible refine WL.top64 ?_ ?_); omega) | refine WC.seq ?_ | refine WC.block ?_ | refine WC.region ?_ | refine WL.nil ?_ | refine WC.skip ?_ | refine WC.exit ?_ | refine WC.ret ?_ | refine WQ.then rfl ?_ | refine WQ.thenExit ?_ | refine WQ.thenRet ?_ | refine WQ.blk ?_ | refine WQ.blkRet ?_ | refine WQ.blkHere rfl ?_ | refine WQ.blkOther rfl ?_ | refine WL.pure rfl rfl rfl rfl ?_ | refine WL.on rfl rfl ?_ | refine WL.off rfl rfl rfl ?_ | refine WC.condTrue rfl ?_ | refine WC.condFalse rfl ?_)
      exact WQ.meet (N.gone, y, cs, l12, _) ⟨rfl, trivial⟩ ⟨s30, hv27.keep (rowK _ g _ (· ≠ g) (fun h => h rfl)) (fun b hb _ => hb.2) (fun b hb => hb), hout2 (if_pos ⟨h12, h13⟩).symm, hsm (if_pos ⟨h12, h13⟩).symm⟩
  · repeat (first | ((with_reducible refine WL.topT ?_ ?_); omega) | ((with_reducible refine WL.topF ?_ ?_); omega) | ((with_reducible refine WL.top64 ?_ ?_); omega) | refine WC.seq ?_ | refine WC.block ?_ | refine WC.region ?_ | refine WL.nil ?_ | refine WC.skip ?_ | refine WC.exit ?_ | refine WC.ret ?_ | refine WQ.then rfl ?_ | refine WQ.thenExit ?_ | refine WQ.thenRet ?_ | refine WQ.blk ?_ | refine WQ.blkRet ?_ | refine WQ.blkHere rfl ?_ | refine WQ.blkOther rfl ?_ | refine WL.pure rfl rfl rfl rfl ?_ | refine WL.on rfl rfl ?_ | refine WL.off rfl rfl rfl ?_ | refine WC.condTrue rfl ?_ | refine WC.condFalse rfl ?_)
    refine WL.loadMid rfl rfl rfl rfl rfl rfl (VBlk.rangeAt hx26) hcs ?_
    repeat (first | ((with_reducible refine WL.topT ?_ ?_); omega) | ((with_reducible refine WL.topF ?_ ?_); omega) | ((with_reducible refine WL.top64 ?_ ?_); omega) | refine WC.seq ?_ | refine WC.block ?_ | refine WC.region ?_ | refine WL.nil ?_ | refine WC.skip ?_ | refine WC.exit ?_ | refine WC.ret ?_ | refine WQ.then rfl ?_ | refine WQ.thenExit ?_ | refine WQ.thenRet ?_ | refine WQ.blk ?_ | refine WQ.blkRet ?_ | refine WQ.blkHere rfl ?_ | refine WQ.blkOther rfl ?_ | refine WL.pure rfl rfl rfl rfl ?_ | refine WL.on rfl rfl ?_ | refine WL.off rfl rfl rfl ?_ | refine WC.condTrue rfl ?_ | refine WC.condFalse rfl ?_)
    refine WL.storeMid rfl rfl rfl rfl rfl rfl s26.a.blk hcs (by rw [s26.a.len]; omega) hv26.one ?_
    have s30 := s26.put hBg hgw (s26.a.setData y hcs rfl) (rowK _ _ _)
    repeat (first | ((with_reducible refine WL.topT ?_ ?_); omega) | ((with_reducible refine WL.topF ?_ ?_); omega) | ((with_reducible refine WL.top64 ?_ ?_); omega) | refine WC.seq ?_ | refine WC.block ?_ | refine WC.region ?_ | refine WL.nil ?_ | refine WC.skip ?_ | refine WC.exit ?_ | refine WC.ret ?_ | refine WQ.then rfl ?_ | refine WQ.thenExit ?_ | refine WQ.thenRet ?_ | refine WQ.blk ?_ | refine WQ.blkRet ?_ | refine WQ.blkHere rfl ?_ | refine WQ.blkOther rfl ?_ | refine WL.pure rfl rfl rfl rfl ?_ | refine WL.on rfl rfl ?_ | refine WL.off rfl rfl rfl ?_ | refine WC.condTrue rfl ?_ | refine WC.condFalse rfl ?_)
    exact WQ.meet (N.gone, y, cs, l12, _) ⟨rfl, trivial⟩ ⟨s30, hv26.keep (rowK _ g _ (· ≠ g) (fun h => h rfl)) (fun b hb _ => hb.2) (fun b hb => hb), hout2 (if_neg (fun h => h12 h.1)).symm, hsm (if_neg (fun h => h12 h.1)).symm⟩
end K
end Go.Proofs.Ytlamdhekjlnccaa

/- Blocks (chapter 11): nothing. -/
namespace Go.Proofs.Ytlamdhekjlnccaa
open Go.RowKit
namespace K
theorem addr_eql (a b c d : Int) (W : World) : (binOp .eql 47 (.agg #[.int .i64 a, .int .i64 b]) (.agg #[.int .i64 c, .int .i64 d])).run Try.prog W = .ok (.bool (decide (a = c ∧ b = d))) W := by
  have hq : (Try.prog.info? 3).map (·.size) = some 1 := by kernel_rfl
  obtain ⟨ie, hie, hsz⟩ := Option.map_eq_some_iff.1 hq
  rw [run_eql_struct, show (10000 : Nat) = (9998 + 1) + 1 from rfl, run_equalIn_agg W (9998 + 1) _ _ _ (by kernel_rfl) (by kernel_rfl)]
  generalize hN : 9998 + 1 = N
  have hf : ∃ f1 f2, (Try.prog.fieldsOf 47).toList = [f1, f2] ∧ (f1.name == "_") = false ∧ f1.type = 3 ∧ f1.offset = 0 ∧ (f2.name == "_") = false ∧ f2.type = 3 ∧ f2.offset = 1 :=
    ⟨(Try.prog.fieldsOf 47).toList[0]!, (Try.prog.fieldsOf 47).toList[1]!, by kernel_rfl, by kernel_rfl, by kernel_rfl, by kernel_rfl, by kernel_rfl, by kernel_rfl, by kernel_rfl⟩
  obtain ⟨f1, f2, hl, n1, t1, o1, n2, t2, o2⟩ := hf
  have hu := Try.underlying3
  rw [hl]
  have n1' : f1.name ≠ "_" := by simpa using n1
  have n2' : f2.name ≠ "_" := by simpa using n2
  have hp : ∀ (xs : Array Value) (off : Nat) (v : Value), xs[off]? = some v → (part 3 xs off).run Try.prog W = .ok v W := fun xs off v h => by
    unfold part isAgg
    simp [run_underlying hu, h]
  have e1 : (Op.equalIn N 3 (.int .i64 a) (.int .i64 c)).run Try.prog W = .ok (a == c) W := by rw [← hN]; exact run_equalIn_int (P := Try.prog) W 9998 3 .i64 .i64 a c hu
  have e2 : (Op.equalIn N 3 (.int .i64 b) (.int .i64 d)).run Try.prog W = .ok (b == d) W := by rw [← hN]; exact run_equalIn_int (P := Try.prog) W 9998 3 .i64 .i64 b d hu
  have p1 := hp #[Value.int .i64 a, .int .i64 b] 0 _ rfl
  have p2 := hp #[Value.int .i64 c, .int .i64 d] 0 _ rfl
  have p3 := hp #[Value.int .i64 a, .int .i64 b] 1 _ rfl
  have p4 := hp #[Value.int .i64 c, .int .i64 d] 1 _ rfl
  simp only [Op.eqFields, if_pos n1', if_pos n2', t1, t2, o1, o2, Sem.run_bind, Sem.run_ite, p1, p2, Result.andThen_ok]
  erw [e1]
  by_cases h1 : a = c
  · subst h1
    simp only [Result.andThen_ok, beq_self_eq_true, Bool.not_true, Bool.false_eq_true, if_false]
    erw [p3]
    simp only [Result.andThen_ok]
    erw [p4]
    simp only [Result.andThen_ok]
    erw [e2]
    by_cases h2 : b = d
    · simp [h2]
    · simp [h2]
  · simp [h1]
theorem addr_guard (x y : Operand) (a b : Array Value) (W : World) : (eqGuard .eql 47 x y (.agg a) (.agg b)).run Try.prog W = .ok () W := by
  have h : Try.prog.eqGuardType Try.prog.depth 47 = false := by kernel_rfl
  simp [eqGuard, h]
section
variable {n : Nat} {Q : Exit → Act → World → Prop} {l : Env} {w w' : World} {ops : Array Oper} {o : Oper} {rest : List Oper} {d : Nat}
theorem WL.eqlA {x y : Operand} {t2 : Nat} {a b a2 b2 : Int} (hg : o.guard = none) (hd : o.dst = some d) (hn : Nat.blt d n = true) (ho : o.op = .binOp .eql 47 x y t2) (hx : evl l x = some (.agg #[.int .i64 a, .int .i64 b])) (hy : evl l y = some (.agg #[.int .i64 a2, .int .i64 b2]))
    (h : WL n ops Q rest ((d, .bool (decide (a = a2 ∧ b = b2))) :: l) w) : WL n ops Q (o :: rest) l w :=
  WL.step hg hd hn (fun c hc => by
    unfold execOp
    rw [ho]
    simp only [hc.eval hx, hc.eval hy, Sem.run_bind, addr_guard, Result.andThen_ok, addr_eql a b a2 b2 w]
    rfl) h
end
theorem nothing_any {f : Nat} {w : World} {e : En} {dc : List Value} (hv : IsV f w e.data dc) (hh : e.hash.length = 32) (hr : R64 e.table ∧ R64 e.doc ∧ R64 e.ver) :
    Calls Try.prog 55 #[.agg (enC e dc).toArray] w fun r w' => (∃ b, r = .returned (.bool b) ∧ (b = true ↔ nilE e)) ∧ Below w.heap.size w w' := by
  have hdl := hv.len
  refine enter (args := [.agg (enC e dc).toArray]) Try.func55 rfl Try.ntmps55 rfl ?_
  repeat (first | ((with_reducible refine WL.topT ?_ ?_); omega) | ((with_reducible refine WL.topF ?_ ?_); omega) | ((with_reducible refine WL.top64 ?_ ?_); omega) | refine WC.seq ?_ | refine WC.block ?_ | refine WC.region ?_ | refine WL.nil ?_ | refine WC.skip ?_ | refine WC.exit ?_ | refine WC.ret ?_ | refine WQ.then rfl ?_ | refine WQ.thenExit ?_ | refine WQ.thenRet ?_ | refine WQ.blk ?_ | refine WQ.blkRet ?_ | refine WQ.blkHere rfl ?_ | refine WQ.blkOther rfl ?_ | refine WL.pure rfl rfl rfl rfl ?_ | refine WL.on rfl rfl ?_ | refine WL.off rfl rfl rfl ?_ | refine WC.condTrue rfl ?_ | refine WC.condFalse rfl ?_)
  refine WL.box rfl rfl rfl rfl rfl fun g w1 hf => ?_
  have hf' : Fresh w g w1 49 (enC e dc) := hf
  clear hf
  have B : EnAt _ g w1 e dc := ⟨hf'.blk, hdl, hh⟩
  have hw1 := hf'.below
  clear hf'
  have no : ∀ {wx : World}, Below w.heap.size w wx → ¬ nilE e → (∃ b, Ending.returned (Value.bool false) = .returned (.bool b) ∧ (b = true ↔ nilE e)) ∧ Below w.heap.size w wx := fun h1 h => ⟨⟨false, rfl, by simp [h]⟩, h1⟩
  repeat (first | ((with_reducible refine WL.topT ?_ ?_); omega) | ((with_reducible refine WL.topF ?_ ?_); omega) | ((with_reducible refine WL.top64 ?_ ?_); omega) | refine WC.seq ?_ | refine WC.block ?_ | refine WC.region ?_ | refine WL.nil ?_ | refine WC.skip ?_ | refine WC.exit ?_ | refine WC.ret ?_ | refine WQ.then rfl ?_ | refine WQ.thenExit ?_ | refine WQ.thenRet ?_ | refine WQ.blk ?_ | refine WQ.blkRet ?_ | refine WQ.blkHere rfl ?_ | refine WQ.blkOther rfl ?_ | refine WL.pure rfl rfl rfl rfl ?_ | refine WL.on rfl rfl ?_ | refine WL.off rfl rfl rfl ?_ | refine WC.condTrue rfl ?_ | refine WC.condFalse rfl ?_)
  refine WL.load rfl rfl rfl rfl rfl rfl B.text ?_
  refine WL.pureAs (.bool (decide (e.text.size = 0))) rfl rfl rfl rfl (congrArg Value.bool (txt_empty e.text)) ?_
  by_cases e1 : e.text.size = 0
  rotate_left
  · repeat (first | ((with_reducible refine WL.topT ?_ ?_); omega) | ((with_reducible refine WL.topF ?_ ?_); omega) | ((with_reducible refine WL.top64 ?_ ?_); omega) | refine WC.seq ?_ | refine WC.block ?_ | refine WC.region ?_ | refine WL.nil ?_ | refine WC.skip ?_ | refine WC.exit ?_ | refine WC.ret ?_ | refine WQ.then rfl ?_ | refine WQ.thenExit ?_ | refine WQ.thenRet ?_ | refine WQ.blk ?_ | refine WQ.blkRet ?_ | refine WQ.blkHere rfl ?_ | refine WQ.blkOther rfl ?_ | refine WL.pure rfl rfl rfl rfl ?_ | refine WL.on rfl rfl ?_ | refine WL.off rfl rfl rfl ?_ | refine WC.condTrue rfl ?_ | refine WC.condFalse rfl ?_)
    exact WQ.ret1 rfl rfl (no hw1 fun h => e1 h.1)
  repeat (first | ((with_reducible refine WL.topT ?_ ?_); omega) | ((with_reducible refine WL.topF ?_ ?_); omega) | ((with_reducible refine WL.top64 ?_ ?_); omega) | refine WC.seq ?_ | refine WC.block ?_ | refine WC.region ?_ | refine WL.nil ?_ | refine WC.skip ?_ | refine WC.exit ?_ | refine WC.ret ?_ | refine WQ.then rfl ?_ | refine WQ.thenExit ?_ | refine WQ.thenRet ?_ | refine WQ.blk ?_ | refine WQ.blkRet ?_ | refine WQ.blkHere rfl ?_ | refine WQ.blkOther rfl ?_ | refine WL.pure rfl rfl rfl rfl ?_ | refine WL.on rfl rfl ?_ | refine WL.off rfl rfl rfl ?_ | refine WC.condTrue rfl ?_ | refine WC.condFalse rfl ?_)
  refine WL.load rfl rfl rfl rfl rfl rfl B.table ?_
  repeat (first | ((with_reducible refine WL.topT ?_ ?_); omega) | ((with_reducible refine WL.topF ?_ ?_); omega) | ((with_reducible refine WL.top64 ?_ ?_); omega) | refine WC.seq ?_ | refine WC.block ?_ | refine WC.region ?_ | refine WL.nil ?_ | refine WC.skip ?_ | refine WC.exit ?_ | refine WC.ret ?_ | refine WQ.then rfl ?_ | refine WQ.thenExit ?_ | refine WQ.thenRet ?_ | refine WQ.blk ?_ | refine WQ.blkRet ?_ | refine WQ.blkHere rfl ?_ | refine WQ.blkOther rfl ?_ | refine WL.pure rfl rfl rfl rfl ?_ | refine WL.on rfl rfl ?_ | refine WL.off rfl rfl rfl ?_ | refine WC.condTrue rfl ?_ | refine WC.condFalse rfl ?_)
  refine WL.load rfl rfl rfl rfl rfl rfl B.doc ?_
  repeat (first | ((with_reducible refine WL.topT ?_ ?_); omega) | ((with_reducible refine WL.topF ?_ ?_); omega) | ((with_reducible refine WL.top64 ?_ ?_); omega) | refine WC.seq ?_ | refine WC.block ?_ | refine WC.region ?_ | refine WL.nil ?_ | refine WC.skip ?_ | refine WC.exit ?_ | refine WC.ret ?_ | refine WQ.then rfl ?_ | refine WQ.thenExit ?_ | refine WQ.thenRet ?_ | refine WQ.blk ?_ | refine WQ.blkRet ?_ | refine WQ.blkHere rfl ?_ | refine WQ.blkOther rfl ?_ | refine WL.pure rfl rfl rfl rfl ?_ | refine WL.on rfl rfl ?_ | refine WL.off rfl rfl rfl ?_ | refine WC.condTrue rfl ?_ | refine WC.condFalse rfl ?_)
  refine WL.load rfl rfl rfl rfl rfl rfl B.ver ?_
  have hor : bits .or .i64 (bits .or .i64 e.table e.doc) e.ver = 0 ↔ (e.table = 0 ∧ e.doc = 0) ∧ e.ver = 0 := by rw [or_zero (or_r64 _ _) hr.2.2, or_zero hr.1 hr.2.1]
  by_cases e2 : bits .or .i64 (bits .or .i64 e.table e.doc) e.ver = 0
  rotate_left
  · repeat (first | ((with_reducible refine WL.topT ?_ ?_); omega) | ((with_reducible refine WL.topF ?_ ?_); omega) | ((with_reducible refine WL.top64 ?_ ?_); omega) | refine WC.seq ?_ | refine WC.block ?_ | refine WC.region ?_ | refine WL.nil ?_ | refine WC.skip ?_ | refine WC.exit ?_ | refine WC.ret ?_ | refine WQ.then rfl ?_ | refine WQ.thenExit ?_ | refine WQ.thenRet ?_ | refine WQ.blk ?_ | refine WQ.blkRet ?_ | refine WQ.blkHere rfl ?_ | refine WQ.blkOther rfl ?_ | refine WL.pure rfl rfl rfl rfl ?_ | refine WL.on rfl rfl ?_ | refine WL.off rfl rfl rfl ?_ | refine WC.condTrue rfl ?_ | refine WC.condFalse rfl ?_)
    exact WQ.ret1 rfl rfl (no hw1 fun h => e2 (hor.2 ⟨⟨h.2.1, h.2.2.1⟩, h.2.2.2.1⟩))
  obtain ⟨⟨e3, e4⟩, e5⟩ := hor.1 e2
  repeat (first | ((with_reducible refine WL.topT ?_ ?_); omega) | ((with_reducible refine WL.topF ?_ ?_); omega) | ((with_reducible refine WL.top64 ?_ ?_); omega) | refine WC.seq ?_ | refine WC.block ?_ | refine WC.region ?_ | refine WL.nil ?_ | refine WC.skip ?_ | refine WC.exit ?_ | refine WC.ret ?_ | refine WQ.then rfl ?_ | refine WQ.thenExit ?_ | refine WQ.thenRet ?_ | refine WQ.blk ?_ | refine WQ.blkRet ?_ | refine WQ.blkHere rfl ?_ | refine WQ.blkOther rfl ?_ | refine WL.pure rfl rfl rfl rfl ?_ | refine WL.on rfl rfl ?_ | refine WL.off rfl rfl rfl ?_ | refine WC.condTrue rfl ?_ | refine WC.condFalse rfl ?_)
  refine WL.loadMid rfl rfl rfl rfl rfl rfl B.data hdl ?_
  refine WL.on rfl rfl ?_
  refine WL.call rfl rfl rfl rfl rfl Try.func56 rfl (by kernel_rfl) (blank_any (hv.below hw1)) ?_
  rintro _ w2 ⟨⟨b, rfl, hb⟩, hk2⟩
  refine ⟨_, rfl, ?_⟩
  have hw2 : Below w.heap.size w w2 := hw1.trans (hk2.mono hw1.size)
  have B2 := B.below hk2
  cases b with
  | false =>
    repeat (first | ((with_reducible refine WL.topT ?_ ?_); omega) | ((with_reducible refine WL.topF ?_ ?_); omega) | ((with_reducible refine WL.top64 ?_ ?_); omega) | refine WC.seq ?_ | refine WC.block ?_ | refine WC.region ?_ | refine WL.nil ?_ | refine WC.skip ?_ | refine WC.exit ?_ | refine WC.ret ?_ | refine WQ.then rfl ?_ | refine WQ.thenExit ?_ | refine WQ.thenRet ?_ | refine WQ.blk ?_ | refine WQ.blkRet ?_ | refine WQ.blkHere rfl ?_ | refine WQ.blkOther rfl ?_ | refine WL.pure rfl rfl rfl rfl ?_ | refine WL.on rfl rfl ?_ | refine WL.off rfl rfl rfl ?_ | refine WC.condTrue rfl ?_ | refine WC.condFalse rfl ?_)
    exact WQ.ret1 rfl rfl (no hw2 fun h => by have := hb.2 h.2.2.2.2.1; cases this)
  | true =>
    have e6 := hb.1 rfl
    repeat (first | ((with_reducible refine WL.topT ?_ ?_); omega) | ((with_reducible refine WL.topF ?_ ?_); omega) | ((with_reducible refine WL.top64 ?_ ?_); omega) | refine WC.seq ?_ | refine WC.block ?_ | refine WC.region ?_ | refine WL.nil ?_ | refine WC.skip ?_ | refine WC.exit ?_ | refine WC.ret ?_ | refine WQ.then rfl ?_ | refine WQ.thenExit ?_ | refine WQ.thenRet ?_ | refine WQ.blk ?_ | refine WQ.blkRet ?_ | refine WQ.blkHere rfl ?_ | refine WQ.blkOther rfl ?_ | refine WL.pure rfl rfl rfl rfl ?_ | refine WL.on rfl rfl ?_ | refine WL.off rfl rfl rfl ?_ | refine WC.condTrue rfl ?_ | refine WC.condFalse rfl ?_)
    refine WL.loadMid rfl rfl rfl rfl rfl rfl B2.hash (by rw [List.length_map]; exact hh) ?_
    refine WL.on rfl rfl ?_
    refine WL.build (hashC Dig.Z32) rfl rfl rfl rfl rfl (by kernel_rfl) ?_
    refine WL.on rfl rfl ?_
    refine WL.eqlH rfl rfl rfl rfl rfl rfl hh rfl ?_
    by_cases e7 : e.hash = Dig.Z32
    rotate_left
    · refine WL.as 26 (.bool false) rfl (congrArg Value.bool (decide_eq_false e7)) ?_
      repeat (first | ((with_reducible refine WL.topT ?_ ?_); omega) | ((with_reducible refine WL.topF ?_ ?_); omega) | ((with_reducible refine WL.top64 ?_ ?_); omega) | refine WC.seq ?_ | refine WC.block ?_ | refine WC.region ?_ | refine WL.nil ?_ | refine WC.skip ?_ | refine WC.exit ?_ | refine WC.ret ?_ | refine WQ.then rfl ?_ | refine WQ.thenExit ?_ | refine WQ.thenRet ?_ | refine WQ.blk ?_ | refine WQ.blkRet ?_ | refine WQ.blkHere rfl ?_ | refine WQ.blkOther rfl ?_ | refine WL.pure rfl rfl rfl rfl ?_ | refine WL.on rfl rfl ?_ | refine WL.off rfl rfl rfl ?_ | refine WC.condTrue rfl ?_ | refine WC.condFalse rfl ?_)
      exact WQ.ret1 rfl rfl (no hw2 fun h => e7 h.2.2.2.2.2.1)
    refine WL.as 26 (.bool true) rfl (congrArg Value.bool (decide_eq_true e7)) ?_
    repeat (first | ((with_reducible refine WL.topT ?_ ?_); omega) | ((with_reducible refine WL.topF ?_ ?_); omega) | ((with_reducible refine WL.top64 ?_ ?_); omega) | refine WC.seq ?_ | refine WC.block ?_ | refine WC.region ?_ | refine WL.nil ?_ | refine WC.skip ?_ | refine WC.exit ?_ | refine WC.ret ?_ | refine WQ.then rfl ?_ | refine WQ.thenExit ?_ | refine WQ.thenRet ?_ | refine WQ.blk ?_ | refine WQ.blkRet ?_ | refine WQ.blkHere rfl ?_ | refine WQ.blkOther rfl ?_ | refine WL.pure rfl rfl rfl rfl ?_ | refine WL.on rfl rfl ?_ | refine WL.off rfl rfl rfl ?_ | refine WC.condTrue rfl ?_ | refine WC.condFalse rfl ?_)
    refine WL.load rfl rfl rfl rfl rfl rfl B2.gone ?_
    cases e8 : e.gone with
    | true =>
      repeat (first | ((with_reducible refine WL.topT ?_ ?_); omega) | ((with_reducible refine WL.topF ?_ ?_); omega) | ((with_reducible refine WL.top64 ?_ ?_); omega) | refine WC.seq ?_ | refine WC.block ?_ | refine WC.region ?_ | refine WL.nil ?_ | refine WC.skip ?_ | refine WC.exit ?_ | refine WC.ret ?_ | refine WQ.then rfl ?_ | refine WQ.thenExit ?_ | refine WQ.thenRet ?_ | refine WQ.blk ?_ | refine WQ.blkRet ?_ | refine WQ.blkHere rfl ?_ | refine WQ.blkOther rfl ?_ | refine WL.pure rfl rfl rfl rfl ?_ | refine WL.on rfl rfl ?_ | refine WL.off rfl rfl rfl ?_ | refine WC.condTrue rfl ?_ | refine WC.condFalse rfl ?_)
      exact WQ.ret1 rfl rfl (no hw2 fun h => by have := h.2.2.2.2.2.2.1; rw [e8] at this; cases this)
    | false =>
      repeat (first | ((with_reducible refine WL.topT ?_ ?_); omega) | ((with_reducible refine WL.topF ?_ ?_); omega) | ((with_reducible refine WL.top64 ?_ ?_); omega) | refine WC.seq ?_ | refine WC.block ?_ | refine WC.region ?_ | refine WL.nil ?_ | refine WC.skip ?_ | refine WC.exit ?_ | refine WC.ret ?_ | refine WQ.then rfl ?_ | refine WQ.thenExit ?_ | refine WQ.thenRet ?_ | refine WQ.blk ?_ | refine WQ.blkRet ?_ | refine WQ.blkHere rfl ?_ | refine WQ.blkOther rfl ?_ | refine WL.pure rfl rfl rfl rfl ?_ | refine WL.on rfl rfl ?_ | refine WL.off rfl rfl rfl ?_ | refine WC.condTrue rfl ?_ | refine WC.condFalse rfl ?_)
      refine WL.loadMid rfl rfl rfl rfl rfl rfl B2.at' rfl ?_
      refine WL.on rfl rfl ?_
      refine WL.build [.int .i64 0, .int .i64 0] rfl rfl rfl rfl rfl (by kernel_rfl) ?_
      refine WL.on rfl rfl ?_
      refine WL.eqlA rfl rfl rfl rfl rfl rfl ?_
      by_cases e9 : e.ab = 0 ∧ e.ae = 0
      · refine WL.as 37 (.bool true) rfl (congrArg Value.bool (decide_eq_true e9)) ?_
        repeat (first | ((with_reducible refine WL.topT ?_ ?_); omega) | ((with_reducible refine WL.topF ?_ ?_); omega) | ((with_reducible refine WL.top64 ?_ ?_); omega) | refine WC.seq ?_ | refine WC.block ?_ | refine WC.region ?_ | refine WL.nil ?_ | refine WC.skip ?_ | refine WC.exit ?_ | refine WC.ret ?_ | refine WQ.then rfl ?_ | refine WQ.thenExit ?_ | refine WQ.thenRet ?_ | refine WQ.blk ?_ | refine WQ.blkRet ?_ | refine WQ.blkHere rfl ?_ | refine WQ.blkOther rfl ?_ | refine WL.pure rfl rfl rfl rfl ?_ | refine WL.on rfl rfl ?_ | refine WL.off rfl rfl rfl ?_ | refine WC.condTrue rfl ?_ | refine WC.condFalse rfl ?_)
        exact WQ.ret1 rfl rfl ⟨⟨true, rfl, ⟨fun _ => ⟨e1, e3, e4, e5, e6, e7, e8, e9.1, e9.2⟩, fun _ => rfl⟩⟩, hw2⟩
      · refine WL.as 37 (.bool false) rfl (congrArg Value.bool (decide_eq_false e9)) ?_
        repeat (first | ((with_reducible refine WL.topT ?_ ?_); omega) | ((with_reducible refine WL.topF ?_ ?_); omega) | ((with_reducible refine WL.top64 ?_ ?_); omega) | refine WC.seq ?_ | refine WC.block ?_ | refine WC.region ?_ | refine WL.nil ?_ | refine WC.skip ?_ | refine WC.exit ?_ | refine WC.ret ?_ | refine WQ.then rfl ?_ | refine WQ.thenExit ?_ | refine WQ.thenRet ?_ | refine WQ.blk ?_ | refine WQ.blkRet ?_ | refine WQ.blkHere rfl ?_ | refine WQ.blkOther rfl ?_ | refine WL.pure rfl rfl rfl rfl ?_ | refine WL.on rfl rfl ?_ | refine WL.off rfl rfl rfl ?_ | refine WC.condTrue rfl ?_ | refine WC.condFalse rfl ?_)
        exact WQ.ret1 rfl rfl (no hw2 fun h => e9 ⟨h.2.2.2.2.2.2.2.1, h.2.2.2.2.2.2.2.2⟩)
end K
end Go.Proofs.Ytlamdhekjlnccaa

/- Blocks (chapter 11): shape. -/
namespace Go.Proofs.Ytlamdhekjlnccaa
open Go.RowKit
namespace K
def BoolIs (p : Prop) (w : World) (r : Ending) (w' : World) : Prop := (∃ b, r = .returned (.bool b) ∧ (b = true ↔ p)) ∧ Below w.heap.size w w'
theorem BoolIs.no {p : Prop} {w w' : World} (h : ¬ p) (hb : Below w.heap.size w w') : BoolIs p w (.returned (.bool false)) w' := ⟨⟨false, rfl, by simp [h]⟩, hb⟩
theorem BoolIs.of {p q : Prop} {b : Bool} {w w' : World} (hb : Below w.heap.size w w') (h1 : b = true ↔ q) (h2 : p ↔ q) : BoolIs p w (.returned (.bool b)) w' := ⟨⟨b, rfl, h1.trans h2.symm⟩, hb⟩
theorem BoolIs.yes {p : Prop} {w w' : World} (h : p) (hb : Below w.heap.size w w') : BoolIs p w (.returned (.bool true)) w' := ⟨⟨true, rfl, by simp [h]⟩, hb⟩
set_option maxHeartbeats 8000000 in
theorem shape_any {f : Nat} {w : World} {e : En} {cs : List Value} (h : IsE f w e cs) : Calls Try.prog 42 #[.agg cs.toArray] w (BoolIs (formE e) w) := by
  obtain ⟨dc, rfl, hv, hdl, hone, hh, hby, htx, hk, hta, hdo, hve, hab, hae⟩ := h
  have hall : EnP (IsV f w) e (enC e dc) := ⟨dc, rfl, hv, hdl, hone, hh, hby, htx, hk, hta, hdo, hve, hab, hae⟩
  refine enter (args := [.agg (enC e dc).toArray]) Try.func42 rfl Try.ntmps42 rfl ?_
  repeat (first | ((with_reducible refine WL.topT ?_ ?_); omega) | ((with_reducible refine WL.topF ?_ ?_); omega) | ((with_reducible refine WL.top64 ?_ ?_); omega) | refine WC.seq ?_ | refine WC.block ?_ | refine WC.region ?_ | refine WL.nil ?_ | refine WC.skip ?_ | refine WC.exit ?_ | refine WC.ret ?_ | refine WQ.then rfl ?_ | refine WQ.thenExit ?_ | refine WQ.thenRet ?_ | refine WQ.blk ?_ | refine WQ.blkRet ?_ | refine WQ.blkHere rfl ?_ | refine WQ.blkOther rfl ?_ | refine WL.pure rfl rfl rfl rfl ?_ | refine WL.on rfl rfl ?_ | refine WL.off rfl rfl rfl ?_ | refine WC.condTrue rfl ?_ | refine WC.condFalse rfl ?_)
  refine WL.box rfl rfl rfl rfl rfl fun g w1 hf => ?_
  have hf' : Fresh w g w1 49 (enC e dc) := hf
  clear hf
  have B1 : EnAt _ g w1 e dc := ⟨hf'.blk, hdl, hh⟩
  have hw1 := hf'.below
  have hz1 := hf'.size
  have he1 := hf'.eq
  clear hf'
  repeat (first | ((with_reducible refine WL.topT ?_ ?_); omega) | ((with_reducible refine WL.topF ?_ ?_); omega) | ((with_reducible refine WL.top64 ?_ ?_); omega) | refine WC.seq ?_ | refine WC.block ?_ | refine WC.region ?_ | refine WL.nil ?_ | refine WC.skip ?_ | refine WC.exit ?_ | refine WC.ret ?_ | refine WQ.then rfl ?_ | refine WQ.thenExit ?_ | refine WQ.thenRet ?_ | refine WQ.blk ?_ | refine WQ.blkRet ?_ | refine WQ.blkHere rfl ?_ | refine WQ.blkOther rfl ?_ | refine WL.pure rfl rfl rfl rfl ?_ | refine WL.on rfl rfl ?_ | refine WL.off rfl rfl rfl ?_ | refine WC.condTrue rfl ?_ | refine WC.condFalse rfl ?_)
  refine WL.load rfl rfl rfl rfl rfl rfl B1.table ?_
  refine WL.call rfl rfl rfl rfl rfl Try.func26 rfl (by kernel_rfl) (within_any _ _ _ _) ?_
  rintro _ w1 ⟨rfl, rfl⟩
  refine ⟨_, rfl, ?_⟩
  refine WL.pure rfl rfl rfl rfl ?_
  repeat (first | refine WC.seq ?_ | refine WC.block ?_ | refine WC.region ?_ | refine WL.nil ?_ | refine WC.skip ?_ | refine WC.exit ?_ | refine WC.ret ?_ | refine WQ.then rfl ?_ | refine WQ.thenExit ?_ | refine WQ.thenRet ?_ | refine WQ.blk ?_ | refine WQ.blkRet ?_ | refine WQ.blkHere rfl ?_ | refine WQ.blkOther rfl ?_)
  refine WL.loadMid rfl rfl rfl rfl rfl rfl (VBlk.rangeAt B1.blk) B1.len ?_
  refine WL.alloc (z := .agg (enC noE zCells).toArray) rfl rfl rfl rfl (fun _ => by kernel_rfl) fun c w2 hf2 => ?_
  have hf2' : Fresh w1 c w2 49 (enC noE zCells) := hf2
  clear hf2
  refine WL.storeRow rfl rfl rfl rfl rfl rfl hf2'.blk B1.len (by rfl) hall.one ?_
  have hk3 : Below w1.heap.size w1 (w2.setRow c (enC e dc).toArray) := below_setRow hf2'.below (by rw [hf2'.eq]; exact Nat.le_refl _) _
  have C3 : EnAt 49 c (w2.setRow c (enC e dc).toArray) e dc := ⟨hf2'.blk.setRow _, hdl, hh⟩
  have he2 := hf2'.eq
  clear hf2'
  generalize w2.setRow c (enC e dc).toArray = w3 at hk3 C3
  have B3 := B1.below hk3
  have hw3 : Below w.heap.size w w3 := hw1.trans (hk3.mono (by omega))
  have hgc : g ≠ c := by omega
  have hcw : w.heap.size ≤ c := by omega
  have hv3 := hv.below hw3
  have hd3 := C3.data
  -- a store into the copy
  have stB : ∀ {wx : World} {i : Nat} (u : Value), Below w.heap.size w wx → EnAt 49 g wx e dc → Below w.heap.size w (wx.setCell ⟨c, i, none⟩ u) ∧ EnAt 49 g (wx.setCell ⟨c, i, none⟩ u) e dc := fun {wx i} u h1 h2 =>
    ⟨Keep.below ((Keep.of_below h1).setCell (fun hk => by simp only at hk; omega) _), h2.keep (K := fun b => b ≠ c) ((Keep.refl _ wx).setCell (fun hk => hk rfl) _) hgc⟩
  have stR : ∀ {wx : World} (u : Array Value), Below w.heap.size w wx → EnAt 49 g wx e dc → Below w.heap.size w (wx.setRow c u) ∧ EnAt 49 g (wx.setRow c u) e dc := fun {wx} u h1 h2 =>
    ⟨Keep.below (Keep.setRow (Keep.of_below h1) (fun hk => by omega) _), h2.keep (K := fun b => b ≠ c) (Keep.setRow (Keep.refl _ wx) (fun hk => hk rfl) _) hgc⟩
  repeat (first | ((with_reducible refine WL.topT ?_ ?_); omega) | ((with_reducible refine WL.topF ?_ ?_); omega) | ((with_reducible refine WL.top64 ?_ ?_); omega) | refine WC.seq ?_ | refine WC.block ?_ | refine WC.region ?_ | refine WL.nil ?_ | refine WC.skip ?_ | refine WC.exit ?_ | refine WC.ret ?_ | refine WQ.then rfl ?_ | refine WQ.thenExit ?_ | refine WQ.thenRet ?_ | refine WQ.blk ?_ | refine WQ.blkRet ?_ | refine WQ.blkHere rfl ?_ | refine WQ.blkOther rfl ?_ | refine WL.pure rfl rfl rfl rfl ?_ | refine WL.on rfl rfl ?_ | refine WL.off rfl rfl rfl ?_ | refine WC.condTrue rfl ?_ | refine WC.condFalse rfl ?_)
  refine WL.load rfl rfl rfl rfl rfl rfl B3.kind ?_
  by_cases k1 : e.kind = 1
  · have hform : formE e ↔ (1 ≤ e.text.size ∧ e.text.size ≤ 4096) ∧ nilE { e with text := noT } := by unfold formE; rw [if_pos k1]; constructor <;> (intro h; simp_all)
    repeat (first | ((with_reducible refine WL.topT ?_ ?_); omega) | ((with_reducible refine WL.topF ?_ ?_); omega) | ((with_reducible refine WL.top64 ?_ ?_); omega) | refine WC.seq ?_ | refine WC.block ?_ | refine WC.region ?_ | refine WL.nil ?_ | refine WC.skip ?_ | refine WC.exit ?_ | refine WC.ret ?_ | refine WQ.then rfl ?_ | refine WQ.thenExit ?_ | refine WQ.thenRet ?_ | refine WQ.blk ?_ | refine WQ.blkRet ?_ | refine WQ.blkHere rfl ?_ | refine WQ.blkOther rfl ?_ | refine WL.pure rfl rfl rfl rfl ?_ | refine WL.on rfl rfl ?_ | refine WL.off rfl rfl rfl ?_ | refine WC.condTrue rfl ?_ | refine WC.condFalse rfl ?_)
    refine WL.store (v := .string noT) rfl rfl rfl rfl rfl rfl (by kernel_rfl) C3.text (C3.blk.free 1) ?_
    obtain ⟨hw4, B4⟩ := stB (i := 1) (.string noT) hw3 B3
    have C4 := C3.setText noT
    generalize w3.setCell ⟨c, 1, none⟩ (.string noT) = w4 at hw4 B4 C4
    repeat (first | ((with_reducible refine WL.topT ?_ ?_); omega) | ((with_reducible refine WL.topF ?_ ?_); omega) | ((with_reducible refine WL.top64 ?_ ?_); omega) | refine WC.seq ?_ | refine WC.block ?_ | refine WC.region ?_ | refine WL.nil ?_ | refine WC.skip ?_ | refine WC.exit ?_ | refine WC.ret ?_ | refine WQ.then rfl ?_ | refine WQ.thenExit ?_ | refine WQ.thenRet ?_ | refine WQ.blk ?_ | refine WQ.blkRet ?_ | refine WQ.blkHere rfl ?_ | refine WQ.blkOther rfl ?_ | refine WL.pure rfl rfl rfl rfl ?_ | refine WL.on rfl rfl ?_ | refine WL.off rfl rfl rfl ?_ | refine WC.condTrue rfl ?_ | refine WC.condFalse rfl ?_)
    refine WL.load rfl rfl rfl rfl rfl rfl B4.text ?_
    repeat (first | ((with_reducible refine WL.topT ?_ ?_); omega) | ((with_reducible refine WL.topF ?_ ?_); omega) | ((with_reducible refine WL.top64 ?_ ?_); omega) | refine WC.seq ?_ | refine WC.block ?_ | refine WC.region ?_ | refine WL.nil ?_ | refine WC.skip ?_ | refine WC.exit ?_ | refine WC.ret ?_ | refine WQ.then rfl ?_ | refine WQ.thenExit ?_ | refine WQ.thenRet ?_ | refine WQ.blk ?_ | refine WQ.blkRet ?_ | refine WQ.blkHere rfl ?_ | refine WQ.blkOther rfl ?_ | refine WL.pure rfl rfl rfl rfl ?_ | refine WL.on rfl rfl ?_ | refine WL.off rfl rfl rfl ?_ | refine WC.condTrue rfl ?_ | refine WC.condFalse rfl ?_)
    refine WL.call rfl rfl rfl rfl rfl Try.func26 rfl (by kernel_rfl) (within_any _ _ _ _) ?_
    rintro _ w4 ⟨rfl, rfl⟩
    refine ⟨_, rfl, ?_⟩
    by_cases ht : (1 : Int) ≤ (e.text.size : Int) ∧ (e.text.size : Int) ≤ 4096
    · repeat (first | ((with_reducible refine WL.topT ?_ ?_); omega) | ((with_reducible refine WL.topF ?_ ?_); omega) | ((with_reducible refine WL.top64 ?_ ?_); omega) | refine WC.seq ?_ | refine WC.block ?_ | refine WC.region ?_ | refine WL.nil ?_ | refine WC.skip ?_ | refine WC.exit ?_ | refine WC.ret ?_ | refine WQ.then rfl ?_ | refine WQ.thenExit ?_ | refine WQ.thenRet ?_ | refine WQ.blk ?_ | refine WQ.blkRet ?_ | refine WQ.blkHere rfl ?_ | refine WQ.blkOther rfl ?_ | refine WL.pure rfl rfl rfl rfl ?_ | refine WL.on rfl rfl ?_ | refine WL.off rfl rfl rfl ?_ | refine WC.condTrue rfl ?_ | refine WC.condFalse rfl ?_)
      refine WL.loadMid rfl rfl rfl rfl rfl rfl (VBlk.rangeAt C4.blk) C4.len ?_
      refine WL.on rfl rfl ?_
      refine WL.call rfl rfl rfl rfl rfl Try.func55 rfl (by kernel_rfl) (nothing_any (e := { e with text := noT }) (hv.below hw4) hh ⟨hta, hdo, hve⟩) ?_
      rintro _ w5 ⟨⟨b, rfl, hb⟩, hk5⟩
      refine ⟨_, rfl, ?_⟩
      repeat (first | ((with_reducible refine WL.topT ?_ ?_); omega) | ((with_reducible refine WL.topF ?_ ?_); omega) | ((with_reducible refine WL.top64 ?_ ?_); omega) | refine WC.seq ?_ | refine WC.block ?_ | refine WC.region ?_ | refine WL.nil ?_ | refine WC.skip ?_ | refine WC.exit ?_ | refine WC.ret ?_ | refine WQ.then rfl ?_ | refine WQ.thenExit ?_ | refine WQ.thenRet ?_ | refine WQ.blk ?_ | refine WQ.blkRet ?_ | refine WQ.blkHere rfl ?_ | refine WQ.blkOther rfl ?_ | refine WL.pure rfl rfl rfl rfl ?_ | refine WL.on rfl rfl ?_ | refine WL.off rfl rfl rfl ?_ | refine WC.condTrue rfl ?_ | refine WC.condFalse rfl ?_)
      exact WQ.ret1 rfl rfl (BoolIs.of (hw4.trans (hk5.mono hw4.size)) hb (hform.trans ⟨fun h => h.2, fun h => ⟨by omega, h⟩⟩))
    · repeat (first | ((with_reducible refine WL.topT ?_ ?_); omega) | ((with_reducible refine WL.topF ?_ ?_); omega) | ((with_reducible refine WL.top64 ?_ ?_); omega) | refine WC.seq ?_ | refine WC.block ?_ | refine WC.region ?_ | refine WL.nil ?_ | refine WC.skip ?_ | refine WC.exit ?_ | refine WC.ret ?_ | refine WQ.then rfl ?_ | refine WQ.thenExit ?_ | refine WQ.thenRet ?_ | refine WQ.blk ?_ | refine WQ.blkRet ?_ | refine WQ.blkHere rfl ?_ | refine WQ.blkOther rfl ?_ | refine WL.pure rfl rfl rfl rfl ?_ | refine WL.on rfl rfl ?_ | refine WL.off rfl rfl rfl ?_ | refine WC.condTrue rfl ?_ | refine WC.condFalse rfl ?_)
      exact WQ.ret1 rfl rfl (BoolIs.no (fun h => ht (by have := (hform.1 h).1; omega)) hw4)
  by_cases k23 : e.kind = 2 ∨ e.kind = 3
  · have hform : formE e ↔ ((1 ≤ e.table ∧ e.table ≤ 64) ∧ (1 ≤ e.doc ∧ e.doc ≤ 65536)) ∧ ((if e.kind = 3 then 1 else 0) ≤ e.ver ∧ e.ver ≤ 2147483648) ∧ nilE (if e.kind = 2 then { e with data := zV, hash := Dig.Z32, gone := false, table := 0, doc := 0, ver := 0 } else { e with table := 0, doc := 0, ver := 0 }) ∧ (e.gone = true → e.data = zV) := by
      unfold formE
      rw [if_neg k1]
      rcases k23 with k2 | k3
      · rw [if_pos k2, if_pos k2, if_neg (by omega)]
        constructor
        · rintro ⟨a, b, c, d, x⟩; exact ⟨⟨a, b⟩, c, d, x⟩
        · rintro ⟨⟨a, b⟩, c, d, x⟩; exact ⟨a, b, c, d, x⟩
      · rw [if_neg (by omega), if_pos k3, if_pos k3, if_neg (by omega)]
        constructor
        · rintro ⟨a, b, c, d⟩; exact ⟨⟨a, b⟩, c, d, fun h => by have := d.2.2.2.2.2.2.1; simp only at this; rw [this] at h; cases h⟩
        · rintro ⟨⟨a, b⟩, c, d, x⟩; exact ⟨a, b, c, d⟩
    rcases k23 with k2 | k3
    · repeat (first | ((with_reducible refine WL.topT ?_ ?_); omega) | ((with_reducible refine WL.topF ?_ ?_); omega) | ((with_reducible refine WL.top64 ?_ ?_); omega) | refine WC.seq ?_ | refine WC.block ?_ | refine WC.region ?_ | refine WL.nil ?_ | refine WC.skip ?_ | refine WC.exit ?_ | refine WC.ret ?_ | refine WQ.then rfl ?_ | refine WQ.thenExit ?_ | refine WQ.thenRet ?_ | refine WQ.blk ?_ | refine WQ.blkRet ?_ | refine WQ.blkHere rfl ?_ | refine WQ.blkOther rfl ?_ | refine WL.pure rfl rfl rfl rfl ?_ | refine WL.on rfl rfl ?_ | refine WL.off rfl rfl rfl ?_ | refine WC.condTrue rfl ?_ | refine WC.condFalse rfl ?_)
      refine WL.load rfl rfl rfl rfl rfl rfl B3.kind ?_
      repeat (first | ((with_reducible refine WL.topT ?_ ?_); omega) | ((with_reducible refine WL.topF ?_ ?_); omega) | ((with_reducible refine WL.top64 ?_ ?_); omega) | refine WC.seq ?_ | refine WC.block ?_ | refine WC.region ?_ | refine WL.nil ?_ | refine WC.skip ?_ | refine WC.exit ?_ | refine WC.ret ?_ | refine WQ.then rfl ?_ | refine WQ.thenExit ?_ | refine WQ.thenRet ?_ | refine WQ.blk ?_ | refine WQ.blkRet ?_ | refine WQ.blkHere rfl ?_ | refine WQ.blkOther rfl ?_ | refine WL.pure rfl rfl rfl rfl ?_ | refine WL.on rfl rfl ?_ | refine WL.off rfl rfl rfl ?_ | refine WC.condTrue rfl ?_ | refine WC.condFalse rfl ?_)
      refine WL.build zCells rfl rfl rfl rfl rfl (by kernel_rfl) ?_
      refine WL.build (hashC Dig.Z32) rfl rfl rfl rfl rfl (by kernel_rfl) ?_
      repeat (first | ((with_reducible refine WL.topT ?_ ?_); omega) | ((with_reducible refine WL.topF ?_ ?_); omega) | ((with_reducible refine WL.top64 ?_ ?_); omega) | refine WC.seq ?_ | refine WC.block ?_ | refine WC.region ?_ | refine WL.nil ?_ | refine WC.skip ?_ | refine WC.exit ?_ | refine WC.ret ?_ | refine WQ.then rfl ?_ | refine WQ.thenExit ?_ | refine WQ.thenRet ?_ | refine WQ.blk ?_ | refine WQ.blkRet ?_ | refine WQ.blkHere rfl ?_ | refine WQ.blkOther rfl ?_ | refine WL.pure rfl rfl rfl rfl ?_ | refine WL.on rfl rfl ?_ | refine WL.off rfl rfl rfl ?_ | refine WC.condTrue rfl ?_ | refine WC.condFalse rfl ?_)
      refine WL.storeMid rfl rfl rfl rfl rfl rfl C3.blk rfl (by rw [C3.len]; omega) (zV_is (fun _ => True) 0 w3).one ?_
      obtain ⟨hw4, B4⟩ := stR ((enC e dc).take (0 + 5) ++ zCells ++ (enC e dc).drop (0 + 5 + 6)).toArray hw3 B3
      have C4 := C3.setData (m := zCells) (off := 0 + 5) zV rfl rfl
      generalize w3.setRow c ((enC e dc).take (0 + 5) ++ zCells ++ (enC e dc).drop (0 + 5 + 6)).toArray = w4 at hw4 B4 C4
      repeat (first | ((with_reducible refine WL.topT ?_ ?_); omega) | ((with_reducible refine WL.topF ?_ ?_); omega) | ((with_reducible refine WL.top64 ?_ ?_); omega) | refine WC.seq ?_ | refine WC.block ?_ | refine WC.region ?_ | refine WL.nil ?_ | refine WC.skip ?_ | refine WC.exit ?_ | refine WC.ret ?_ | refine WQ.then rfl ?_ | refine WQ.thenExit ?_ | refine WQ.thenRet ?_ | refine WQ.blk ?_ | refine WQ.blkRet ?_ | refine WQ.blkHere rfl ?_ | refine WQ.blkOther rfl ?_ | refine WL.pure rfl rfl rfl rfl ?_ | refine WL.on rfl rfl ?_ | refine WL.off rfl rfl rfl ?_ | refine WC.condTrue rfl ?_ | refine WC.condFalse rfl ?_)
      refine WL.storeMid rfl rfl rfl rfl rfl rfl C4.blk (by rfl) (by rw [C4.len]; omega) (Ones.int _ _) ?_
      obtain ⟨hw5, B5⟩ := stR ((enC { e with data := zV } zCells).take (0 + 11) ++ hashC Dig.Z32 ++ (enC { e with data := zV } zCells).drop (0 + 11 + 32)).toArray hw4 B4
      have C5 := C4.setHash (off := 0 + 11) (hh := Dig.Z32) rfl rfl
      generalize w4.setRow c ((enC { e with data := zV } zCells).take (0 + 11) ++ hashC Dig.Z32 ++ (enC { e with data := zV } zCells).drop (0 + 11 + 32)).toArray = w5 at hw5 B5 C5
      repeat (first | ((with_reducible refine WL.topT ?_ ?_); omega) | ((with_reducible refine WL.topF ?_ ?_); omega) | ((with_reducible refine WL.top64 ?_ ?_); omega) | refine WC.seq ?_ | refine WC.block ?_ | refine WC.region ?_ | refine WL.nil ?_ | refine WC.skip ?_ | refine WC.exit ?_ | refine WC.ret ?_ | refine WQ.then rfl ?_ | refine WQ.thenExit ?_ | refine WQ.thenRet ?_ | refine WQ.blk ?_ | refine WQ.blkRet ?_ | refine WQ.blkHere rfl ?_ | refine WQ.blkOther rfl ?_ | refine WL.pure rfl rfl rfl rfl ?_ | refine WL.on rfl rfl ?_ | refine WL.off rfl rfl rfl ?_ | refine WC.condTrue rfl ?_ | refine WC.condFalse rfl ?_)
      refine WL.store (v := .bool false) rfl rfl rfl rfl rfl rfl (by kernel_rfl) C5.gone (C5.blk.free 43) ?_
      obtain ⟨hw6, B6⟩ := stB (i := 43) (.bool false) hw5 B5
      have C6 := C5.setGone false
      generalize w5.setCell ⟨c, 43, none⟩ (.bool false) = w6 at hw6 B6 C6
      repeat (first | ((with_reducible refine WL.topT ?_ ?_); omega) | ((with_reducible refine WL.topF ?_ ?_); omega) | ((with_reducible refine WL.top64 ?_ ?_); omega) | refine WC.seq ?_ | refine WC.block ?_ | refine WC.region ?_ | refine WL.nil ?_ | refine WC.skip ?_ | refine WC.exit ?_ | refine WC.ret ?_ | refine WQ.then rfl ?_ | refine WQ.thenExit ?_ | refine WQ.thenRet ?_ | refine WQ.blk ?_ | refine WQ.blkRet ?_ | refine WQ.blkHere rfl ?_ | refine WQ.blkOther rfl ?_ | refine WL.pure rfl rfl rfl rfl ?_ | refine WL.on rfl rfl ?_ | refine WL.off rfl rfl rfl ?_ | refine WC.condTrue rfl ?_ | refine WC.condFalse rfl ?_)
      refine WL.store (v := .int .i64 0) rfl rfl rfl rfl rfl rfl (by kernel_rfl) C6.table (C6.blk.free 2) ?_
      obtain ⟨hwp, Bp⟩ := stB (i := 2) (.int .i64 0) hw6 B6
      have Cp := C6.setTable 0
      generalize w6.setCell ⟨c, 2, none⟩ (.int .i64 0) = wp at hwp Bp Cp
      repeat (first | ((with_reducible refine WL.topT ?_ ?_); omega) | ((with_reducible refine WL.topF ?_ ?_); omega) | ((with_reducible refine WL.top64 ?_ ?_); omega) | refine WC.seq ?_ | refine WC.block ?_ | refine WC.region ?_ | refine WL.nil ?_ | refine WC.skip ?_ | refine WC.exit ?_ | refine WC.ret ?_ | refine WQ.then rfl ?_ | refine WQ.thenExit ?_ | refine WQ.thenRet ?_ | refine WQ.blk ?_ | refine WQ.blkRet ?_ | refine WQ.blkHere rfl ?_ | refine WQ.blkOther rfl ?_ | refine WL.pure rfl rfl rfl rfl ?_ | refine WL.on rfl rfl ?_ | refine WL.off rfl rfl rfl ?_ | refine WC.condTrue rfl ?_ | refine WC.condFalse rfl ?_)
      refine WL.store (v := .int .i64 0) rfl rfl rfl rfl rfl rfl (by kernel_rfl) Cp.doc (Cp.blk.free 3) ?_
      obtain ⟨hwq, Bq⟩ := stB (i := 3) (.int .i64 0) hwp Bp
      have Cq := Cp.setDoc 0
      generalize wp.setCell ⟨c, 3, none⟩ (.int .i64 0) = wq at hwq Bq Cq
      repeat (first | ((with_reducible refine WL.topT ?_ ?_); omega) | ((with_reducible refine WL.topF ?_ ?_); omega) | ((with_reducible refine WL.top64 ?_ ?_); omega) | refine WC.seq ?_ | refine WC.block ?_ | refine WC.region ?_ | refine WL.nil ?_ | refine WC.skip ?_ | refine WC.exit ?_ | refine WC.ret ?_ | refine WQ.then rfl ?_ | refine WQ.thenExit ?_ | refine WQ.thenRet ?_ | refine WQ.blk ?_ | refine WQ.blkRet ?_ | refine WQ.blkHere rfl ?_ | refine WQ.blkOther rfl ?_ | refine WL.pure rfl rfl rfl rfl ?_ | refine WL.on rfl rfl ?_ | refine WL.off rfl rfl rfl ?_ | refine WC.condTrue rfl ?_ | refine WC.condFalse rfl ?_)
      refine WL.store (v := .int .i64 0) rfl rfl rfl rfl rfl rfl (by kernel_rfl) Cq.ver (Cq.blk.free 4) ?_
      obtain ⟨hwx, Bx⟩ := stB (i := 4) (.int .i64 0) hwq Bq
      have Cx := Cq.setVer 0
      generalize wq.setCell ⟨c, 4, none⟩ (.int .i64 0) = wx at hwx Bx Cx
      have hform' : formE e ↔ ((1 ≤ e.table ∧ e.table ≤ 64) ∧ (1 ≤ e.doc ∧ e.doc ≤ 65536)) ∧ (0 ≤ e.ver ∧ e.ver ≤ 2147483648) ∧ nilE { e with data := zV, hash := Dig.Z32, gone := false, table := 0, doc := 0, ver := 0 } ∧ (e.gone = true → e.data = zV) := by
        rw [hform, if_pos k2, if_neg (by omega)]
      by_cases c1 : 1 ≤ e.table ∧ e.table ≤ 64
      rotate_left
      · repeat (first | ((with_reducible refine WL.topT ?_ ?_); omega) | ((with_reducible refine WL.topF ?_ ?_); omega) | ((with_reducible refine WL.top64 ?_ ?_); omega) | refine WC.seq ?_ | refine WC.block ?_ | refine WC.region ?_ | refine WL.nil ?_ | refine WC.skip ?_ | refine WC.exit ?_ | refine WC.ret ?_ | refine WQ.then rfl ?_ | refine WQ.thenExit ?_ | refine WQ.thenRet ?_ | refine WQ.blk ?_ | refine WQ.blkRet ?_ | refine WQ.blkHere rfl ?_ | refine WQ.blkOther rfl ?_ | refine WL.pure rfl rfl rfl rfl ?_ | refine WL.on rfl rfl ?_ | refine WL.off rfl rfl rfl ?_ | refine WC.condTrue rfl ?_ | refine WC.condFalse rfl ?_)
        exact WQ.ret1 rfl rfl (BoolIs.no (fun h => c1 (hform'.1 h).1.1) hwx)
      repeat (first | ((with_reducible refine WL.topT ?_ ?_); omega) | ((with_reducible refine WL.topF ?_ ?_); omega) | ((with_reducible refine WL.top64 ?_ ?_); omega) | refine WC.seq ?_ | refine WC.block ?_ | refine WC.region ?_ | refine WL.nil ?_ | refine WC.skip ?_ | refine WC.exit ?_ | refine WC.ret ?_ | refine WQ.then rfl ?_ | refine WQ.thenExit ?_ | refine WQ.thenRet ?_ | refine WQ.blk ?_ | refine WQ.blkRet ?_ | refine WQ.blkHere rfl ?_ | refine WQ.blkOther rfl ?_ | refine WL.pure rfl rfl rfl rfl ?_ | refine WL.on rfl rfl ?_ | refine WL.off rfl rfl rfl ?_ | refine WC.condTrue rfl ?_ | refine WC.condFalse rfl ?_)
      refine WL.load rfl rfl rfl rfl rfl rfl Bx.doc ?_
      refine WL.on rfl rfl ?_
      refine WL.call rfl rfl rfl rfl rfl Try.func26 rfl (by kernel_rfl) (within_any _ _ _ _) ?_
      rintro _ wx ⟨rfl, rfl⟩
      refine ⟨_, rfl, ?_⟩
      by_cases c2 : 1 ≤ e.doc ∧ e.doc ≤ 65536
      rotate_left
      · repeat (first | ((with_reducible refine WL.topT ?_ ?_); omega) | ((with_reducible refine WL.topF ?_ ?_); omega) | ((with_reducible refine WL.top64 ?_ ?_); omega) | refine WC.seq ?_ | refine WC.block ?_ | refine WC.region ?_ | refine WL.nil ?_ | refine WC.skip ?_ | refine WC.exit ?_ | refine WC.ret ?_ | refine WQ.then rfl ?_ | refine WQ.thenExit ?_ | refine WQ.thenRet ?_ | refine WQ.blk ?_ | refine WQ.blkRet ?_ | refine WQ.blkHere rfl ?_ | refine WQ.blkOther rfl ?_ | refine WL.pure rfl rfl rfl rfl ?_ | refine WL.on rfl rfl ?_ | refine WL.off rfl rfl rfl ?_ | refine WC.condTrue rfl ?_ | refine WC.condFalse rfl ?_)
        exact WQ.ret1 rfl rfl (BoolIs.no (fun h => c2 (hform'.1 h).1.2) hwx)
      repeat (first | ((with_reducible refine WL.topT ?_ ?_); omega) | ((with_reducible refine WL.topF ?_ ?_); omega) | ((with_reducible refine WL.top64 ?_ ?_); omega) | refine WC.seq ?_ | refine WC.block ?_ | refine WC.region ?_ | refine WL.nil ?_ | refine WC.skip ?_ | refine WC.exit ?_ | refine WC.ret ?_ | refine WQ.then rfl ?_ | refine WQ.thenExit ?_ | refine WQ.thenRet ?_ | refine WQ.blk ?_ | refine WQ.blkRet ?_ | refine WQ.blkHere rfl ?_ | refine WQ.blkOther rfl ?_ | refine WL.pure rfl rfl rfl rfl ?_ | refine WL.on rfl rfl ?_ | refine WL.off rfl rfl rfl ?_ | refine WC.condTrue rfl ?_ | refine WC.condFalse rfl ?_)
      refine WL.load rfl rfl rfl rfl rfl rfl Bx.ver ?_
      repeat (first | ((with_reducible refine WL.topT ?_ ?_); omega) | ((with_reducible refine WL.topF ?_ ?_); omega) | ((with_reducible refine WL.top64 ?_ ?_); omega) | refine WC.seq ?_ | refine WC.block ?_ | refine WC.region ?_ | refine WL.nil ?_ | refine WC.skip ?_ | refine WC.exit ?_ | refine WC.ret ?_ | refine WQ.then rfl ?_ | refine WQ.thenExit ?_ | refine WQ.thenRet ?_ | refine WQ.blk ?_ | refine WQ.blkRet ?_ | refine WQ.blkHere rfl ?_ | refine WQ.blkOther rfl ?_ | refine WL.pure rfl rfl rfl rfl ?_ | refine WL.on rfl rfl ?_ | refine WL.off rfl rfl rfl ?_ | refine WC.condTrue rfl ?_ | refine WC.condFalse rfl ?_)
      refine WL.call rfl rfl rfl rfl rfl Try.func26 rfl (by kernel_rfl) (within_any _ _ _ _) ?_
      rintro _ wx ⟨rfl, rfl⟩
      refine ⟨_, rfl, ?_⟩
      by_cases c3 : 0 ≤ e.ver ∧ e.ver ≤ 2147483648
      rotate_left
      · repeat (first | ((with_reducible refine WL.topT ?_ ?_); omega) | ((with_reducible refine WL.topF ?_ ?_); omega) | ((with_reducible refine WL.top64 ?_ ?_); omega) | refine WC.seq ?_ | refine WC.block ?_ | refine WC.region ?_ | refine WL.nil ?_ | refine WC.skip ?_ | refine WC.exit ?_ | refine WC.ret ?_ | refine WQ.then rfl ?_ | refine WQ.thenExit ?_ | refine WQ.thenRet ?_ | refine WQ.blk ?_ | refine WQ.blkRet ?_ | refine WQ.blkHere rfl ?_ | refine WQ.blkOther rfl ?_ | refine WL.pure rfl rfl rfl rfl ?_ | refine WL.on rfl rfl ?_ | refine WL.off rfl rfl rfl ?_ | refine WC.condTrue rfl ?_ | refine WC.condFalse rfl ?_)
        exact WQ.ret1 rfl rfl (BoolIs.no (fun h => c3 (hform'.1 h).2.1) hwx)
      repeat (first | ((with_reducible refine WL.topT ?_ ?_); omega) | ((with_reducible refine WL.topF ?_ ?_); omega) | ((with_reducible refine WL.top64 ?_ ?_); omega) | refine WC.seq ?_ | refine WC.block ?_ | refine WC.region ?_ | refine WL.nil ?_ | refine WC.skip ?_ | refine WC.exit ?_ | refine WC.ret ?_ | refine WQ.then rfl ?_ | refine WQ.thenExit ?_ | refine WQ.thenRet ?_ | refine WQ.blk ?_ | refine WQ.blkRet ?_ | refine WQ.blkHere rfl ?_ | refine WQ.blkOther rfl ?_ | refine WL.pure rfl rfl rfl rfl ?_ | refine WL.on rfl rfl ?_ | refine WL.off rfl rfl rfl ?_ | refine WC.condTrue rfl ?_ | refine WC.condFalse rfl ?_)
      refine WL.loadMid rfl rfl rfl rfl rfl rfl (VBlk.rangeAt Cx.blk) Cx.len ?_
      refine WL.on rfl rfl ?_
      refine WL.call rfl rfl rfl rfl rfl Try.func55 rfl (by kernel_rfl) (nothing_any (e := { e with data := zV, hash := Dig.Z32, gone := false, table := 0, doc := 0, ver := 0 }) (zV_is (fun _ => True) 0 _).isV Cx.hl ⟨by show R64 0; omega, by show R64 0; omega, by show R64 0; omega⟩) ?_
      rintro _ wy ⟨⟨b, rfl, hb⟩, hky⟩
      refine ⟨_, rfl, ?_⟩
      have hwy := hwx.trans (hky.mono hwx.size)
      have By := Bx.below hky
      cases b with
      | false =>
        repeat (first | ((with_reducible refine WL.topT ?_ ?_); omega) | ((with_reducible refine WL.topF ?_ ?_); omega) | ((with_reducible refine WL.top64 ?_ ?_); omega) | refine WC.seq ?_ | refine WC.block ?_ | refine WC.region ?_ | refine WL.nil ?_ | refine WC.skip ?_ | refine WC.exit ?_ | refine WC.ret ?_ | refine WQ.then rfl ?_ | refine WQ.thenExit ?_ | refine WQ.thenRet ?_ | refine WQ.blk ?_ | refine WQ.blkRet ?_ | refine WQ.blkHere rfl ?_ | refine WQ.blkOther rfl ?_ | refine WL.pure rfl rfl rfl rfl ?_ | refine WL.on rfl rfl ?_ | refine WL.off rfl rfl rfl ?_ | refine WC.condTrue rfl ?_ | refine WC.condFalse rfl ?_)
        exact WQ.ret1 rfl rfl (BoolIs.no (fun h => by have := hb.2 (hform'.1 h).2.2.1; cases this) hwy)
      | true =>
        have hN := hb.1 rfl
        repeat (first | ((with_reducible refine WL.topT ?_ ?_); omega) | ((with_reducible refine WL.topF ?_ ?_); omega) | ((with_reducible refine WL.top64 ?_ ?_); omega) | refine WC.seq ?_ | refine WC.block ?_ | refine WC.region ?_ | refine WL.nil ?_ | refine WC.skip ?_ | refine WC.exit ?_ | refine WC.ret ?_ | refine WQ.then rfl ?_ | refine WQ.thenExit ?_ | refine WQ.thenRet ?_ | refine WQ.blk ?_ | refine WQ.blkRet ?_ | refine WQ.blkHere rfl ?_ | refine WQ.blkOther rfl ?_ | refine WL.pure rfl rfl rfl rfl ?_ | refine WL.on rfl rfl ?_ | refine WL.off rfl rfl rfl ?_ | refine WC.condTrue rfl ?_ | refine WC.condFalse rfl ?_)
        refine WL.load rfl rfl rfl rfl rfl rfl By.gone ?_
        cases hgo : e.gone with
        | false =>
          repeat (first | ((with_reducible refine WL.topT ?_ ?_); omega) | ((with_reducible refine WL.topF ?_ ?_); omega) | ((with_reducible refine WL.top64 ?_ ?_); omega) | refine WC.seq ?_ | refine WC.block ?_ | refine WC.region ?_ | refine WL.nil ?_ | refine WC.skip ?_ | refine WC.exit ?_ | refine WC.ret ?_ | refine WQ.then rfl ?_ | refine WQ.thenExit ?_ | refine WQ.thenRet ?_ | refine WQ.blk ?_ | refine WQ.blkRet ?_ | refine WQ.blkHere rfl ?_ | refine WQ.blkOther rfl ?_ | refine WL.pure rfl rfl rfl rfl ?_ | refine WL.on rfl rfl ?_ | refine WL.off rfl rfl rfl ?_ | refine WC.condTrue rfl ?_ | refine WC.condFalse rfl ?_)
          exact WQ.ret1 rfl rfl (BoolIs.yes (hform'.2 ⟨⟨c1, c2⟩, c3, hN, fun h => by rw [hgo] at h; cases h⟩) hwy)
        | true =>
          repeat (first | ((with_reducible refine WL.topT ?_ ?_); omega) | ((with_reducible refine WL.topF ?_ ?_); omega) | ((with_reducible refine WL.top64 ?_ ?_); omega) | refine WC.seq ?_ | refine WC.block ?_ | refine WC.region ?_ | refine WL.nil ?_ | refine WC.skip ?_ | refine WC.exit ?_ | refine WC.ret ?_ | refine WQ.then rfl ?_ | refine WQ.thenExit ?_ | refine WQ.thenRet ?_ | refine WQ.blk ?_ | refine WQ.blkRet ?_ | refine WQ.blkHere rfl ?_ | refine WQ.blkOther rfl ?_ | refine WL.pure rfl rfl rfl rfl ?_ | refine WL.on rfl rfl ?_ | refine WL.off rfl rfl rfl ?_ | refine WC.condTrue rfl ?_ | refine WC.condFalse rfl ?_)
          refine WL.loadMid rfl rfl rfl rfl rfl rfl By.data hdl ?_
          refine WL.on rfl rfl ?_
          refine WL.call rfl rfl rfl rfl rfl Try.func56 rfl (by kernel_rfl) (blank_any (hv.below hwy)) ?_
          rintro _ wz ⟨⟨b2, rfl, hb2⟩, hkz⟩
          refine ⟨_, rfl, ?_⟩
          repeat (first | ((with_reducible refine WL.topT ?_ ?_); omega) | ((with_reducible refine WL.topF ?_ ?_); omega) | ((with_reducible refine WL.top64 ?_ ?_); omega) | refine WC.seq ?_ | refine WC.block ?_ | refine WC.region ?_ | refine WL.nil ?_ | refine WC.skip ?_ | refine WC.exit ?_ | refine WC.ret ?_ | refine WQ.then rfl ?_ | refine WQ.thenExit ?_ | refine WQ.thenRet ?_ | refine WQ.blk ?_ | refine WQ.blkRet ?_ | refine WQ.blkHere rfl ?_ | refine WQ.blkOther rfl ?_ | refine WL.pure rfl rfl rfl rfl ?_ | refine WL.on rfl rfl ?_ | refine WL.off rfl rfl rfl ?_ | refine WC.condTrue rfl ?_ | refine WC.condFalse rfl ?_)
          exact WQ.ret1 rfl rfl (BoolIs.of (hwy.trans (hkz.mono hwy.size)) hb2 (hform'.trans ⟨fun h => h.2.2.2 hgo, fun h => ⟨⟨c1, c2⟩, c3, hN, fun _ => h⟩⟩))
    · repeat (first | ((with_reducible refine WL.topT ?_ ?_); omega) | ((with_reducible refine WL.topF ?_ ?_); omega) | ((with_reducible refine WL.top64 ?_ ?_); omega) | refine WC.seq ?_ | refine WC.block ?_ | refine WC.region ?_ | refine WL.nil ?_ | refine WC.skip ?_ | refine WC.exit ?_ | refine WC.ret ?_ | refine WQ.then rfl ?_ | refine WQ.thenExit ?_ | refine WQ.thenRet ?_ | refine WQ.blk ?_ | refine WQ.blkRet ?_ | refine WQ.blkHere rfl ?_ | refine WQ.blkOther rfl ?_ | refine WL.pure rfl rfl rfl rfl ?_ | refine WL.on rfl rfl ?_ | refine WL.off rfl rfl rfl ?_ | refine WC.condTrue rfl ?_ | refine WC.condFalse rfl ?_)
      refine WL.load rfl rfl rfl rfl rfl rfl B3.kind ?_
      repeat (first | ((with_reducible refine WL.topT ?_ ?_); omega) | ((with_reducible refine WL.topF ?_ ?_); omega) | ((with_reducible refine WL.top64 ?_ ?_); omega) | refine WC.seq ?_ | refine WC.block ?_ | refine WC.region ?_ | refine WL.nil ?_ | refine WC.skip ?_ | refine WC.exit ?_ | refine WC.ret ?_ | refine WQ.then rfl ?_ | refine WQ.thenExit ?_ | refine WQ.thenRet ?_ | refine WQ.blk ?_ | refine WQ.blkRet ?_ | refine WQ.blkHere rfl ?_ | refine WQ.blkOther rfl ?_ | refine WL.pure rfl rfl rfl rfl ?_ | refine WL.on rfl rfl ?_ | refine WL.off rfl rfl rfl ?_ | refine WC.condTrue rfl ?_ | refine WC.condFalse rfl ?_)
      refine WL.store (v := .int .i64 0) rfl rfl rfl rfl rfl rfl (by kernel_rfl) C3.table (C3.blk.free 2) ?_
      obtain ⟨hwp, Bp⟩ := stB (i := 2) (.int .i64 0) hw3 B3
      have Cp := C3.setTable 0
      generalize w3.setCell ⟨c, 2, none⟩ (.int .i64 0) = wp at hwp Bp Cp
      repeat (first | ((with_reducible refine WL.topT ?_ ?_); omega) | ((with_reducible refine WL.topF ?_ ?_); omega) | ((with_reducible refine WL.top64 ?_ ?_); omega) | refine WC.seq ?_ | refine WC.block ?_ | refine WC.region ?_ | refine WL.nil ?_ | refine WC.skip ?_ | refine WC.exit ?_ | refine WC.ret ?_ | refine WQ.then rfl ?_ | refine WQ.thenExit ?_ | refine WQ.thenRet ?_ | refine WQ.blk ?_ | refine WQ.blkRet ?_ | refine WQ.blkHere rfl ?_ | refine WQ.blkOther rfl ?_ | refine WL.pure rfl rfl rfl rfl ?_ | refine WL.on rfl rfl ?_ | refine WL.off rfl rfl rfl ?_ | refine WC.condTrue rfl ?_ | refine WC.condFalse rfl ?_)
      refine WL.store (v := .int .i64 0) rfl rfl rfl rfl rfl rfl (by kernel_rfl) Cp.doc (Cp.blk.free 3) ?_
      obtain ⟨hwq, Bq⟩ := stB (i := 3) (.int .i64 0) hwp Bp
      have Cq := Cp.setDoc 0
      generalize wp.setCell ⟨c, 3, none⟩ (.int .i64 0) = wq at hwq Bq Cq
      repeat (first | ((with_reducible refine WL.topT ?_ ?_); omega) | ((with_reducible refine WL.topF ?_ ?_); omega) | ((with_reducible refine WL.top64 ?_ ?_); omega) | refine WC.seq ?_ | refine WC.block ?_ | refine WC.region ?_ | refine WL.nil ?_ | refine WC.skip ?_ | refine WC.exit ?_ | refine WC.ret ?_ | refine WQ.then rfl ?_ | refine WQ.thenExit ?_ | refine WQ.thenRet ?_ | refine WQ.blk ?_ | refine WQ.blkRet ?_ | refine WQ.blkHere rfl ?_ | refine WQ.blkOther rfl ?_ | refine WL.pure rfl rfl rfl rfl ?_ | refine WL.on rfl rfl ?_ | refine WL.off rfl rfl rfl ?_ | refine WC.condTrue rfl ?_ | refine WC.condFalse rfl ?_)
      refine WL.store (v := .int .i64 0) rfl rfl rfl rfl rfl rfl (by kernel_rfl) Cq.ver (Cq.blk.free 4) ?_
      obtain ⟨hwx, Bx⟩ := stB (i := 4) (.int .i64 0) hwq Bq
      have Cx := Cq.setVer 0
      generalize wq.setCell ⟨c, 4, none⟩ (.int .i64 0) = wx at hwx Bx Cx
      have hform' : formE e ↔ ((1 ≤ e.table ∧ e.table ≤ 64) ∧ (1 ≤ e.doc ∧ e.doc ≤ 65536)) ∧ (1 ≤ e.ver ∧ e.ver ≤ 2147483648) ∧ nilE { e with table := 0, doc := 0, ver := 0 } ∧ (e.gone = true → e.data = zV) := by
        rw [hform, if_pos k3, if_neg (by omega)]
      by_cases c1 : 1 ≤ e.table ∧ e.table ≤ 64
      rotate_left
      · repeat (first | ((with_reducible refine WL.topT ?_ ?_); omega) | ((with_reducible refine WL.topF ?_ ?_); omega) | ((with_reducible refine WL.top64 ?_ ?_); omega) | refine WC.seq ?_ | refine WC.block ?_ | refine WC.region ?_ | refine WL.nil ?_ | refine WC.skip ?_ | refine WC.exit ?_ | refine WC.ret ?_ | refine WQ.then rfl ?_ | refine WQ.thenExit ?_ | refine WQ.thenRet ?_ | refine WQ.blk ?_ | refine WQ.blkRet ?_ | refine WQ.blkHere rfl ?_ | refine WQ.blkOther rfl ?_ | refine WL.pure rfl rfl rfl rfl ?_ | refine WL.on rfl rfl ?_ | refine WL.off rfl rfl rfl ?_ | refine WC.condTrue rfl ?_ | refine WC.condFalse rfl ?_)
        exact WQ.ret1 rfl rfl (BoolIs.no (fun h => c1 (hform'.1 h).1.1) hwx)
      repeat (first | ((with_reducible refine WL.topT ?_ ?_); omega) | ((with_reducible refine WL.topF ?_ ?_); omega) | ((with_reducible refine WL.top64 ?_ ?_); omega) | refine WC.seq ?_ | refine WC.block ?_ | refine WC.region ?_ | refine WL.nil ?_ | refine WC.skip ?_ | refine WC.exit ?_ | refine WC.ret ?_ | refine WQ.then rfl ?_ | refine WQ.thenExit ?_ | refine WQ.thenRet ?_ | refine WQ.blk ?_ | refine WQ.blkRet ?_ | refine WQ.blkHere rfl ?_ | refine WQ.blkOther rfl ?_ | refine WL.pure rfl rfl rfl rfl ?_ | refine WL.on rfl rfl ?_ | refine WL.off rfl rfl rfl ?_ | refine WC.condTrue rfl ?_ | refine WC.condFalse rfl ?_)
      refine WL.load rfl rfl rfl rfl rfl rfl Bx.doc ?_
      refine WL.on rfl rfl ?_
      refine WL.call rfl rfl rfl rfl rfl Try.func26 rfl (by kernel_rfl) (within_any _ _ _ _) ?_
      rintro _ wx ⟨rfl, rfl⟩
      refine ⟨_, rfl, ?_⟩
      by_cases c2 : 1 ≤ e.doc ∧ e.doc ≤ 65536
      rotate_left
      · repeat (first | ((with_reducible refine WL.topT ?_ ?_); omega) | ((with_reducible refine WL.topF ?_ ?_); omega) | ((with_reducible refine WL.top64 ?_ ?_); omega) | refine WC.seq ?_ | refine WC.block ?_ | refine WC.region ?_ | refine WL.nil ?_ | refine WC.skip ?_ | refine WC.exit ?_ | refine WC.ret ?_ | refine WQ.then rfl ?_ | refine WQ.thenExit ?_ | refine WQ.thenRet ?_ | refine WQ.blk ?_ | refine WQ.blkRet ?_ | refine WQ.blkHere rfl ?_ | refine WQ.blkOther rfl ?_ | refine WL.pure rfl rfl rfl rfl ?_ | refine WL.on rfl rfl ?_ | refine WL.off rfl rfl rfl ?_ | refine WC.condTrue rfl ?_ | refine WC.condFalse rfl ?_)
        exact WQ.ret1 rfl rfl (BoolIs.no (fun h => c2 (hform'.1 h).1.2) hwx)
      repeat (first | ((with_reducible refine WL.topT ?_ ?_); omega) | ((with_reducible refine WL.topF ?_ ?_); omega) | ((with_reducible refine WL.top64 ?_ ?_); omega) | refine WC.seq ?_ | refine WC.block ?_ | refine WC.region ?_ | refine WL.nil ?_ | refine WC.skip ?_ | refine WC.exit ?_ | refine WC.ret ?_ | refine WQ.then rfl ?_ | refine WQ.thenExit ?_ | refine WQ.thenRet ?_ | refine WQ.blk ?_ | refine WQ.blkRet ?_ | refine WQ.blkHere rfl ?_ | refine WQ.blkOther rfl ?_ | refine WL.pure rfl rfl rfl rfl ?_ | refine WL.on rfl rfl ?_ | refine WL.off rfl rfl rfl ?_ | refine WC.condTrue rfl ?_ | refine WC.condFalse rfl ?_)
      refine WL.load rfl rfl rfl rfl rfl rfl Bx.ver ?_
      repeat (first | ((with_reducible refine WL.topT ?_ ?_); omega) | ((with_reducible refine WL.topF ?_ ?_); omega) | ((with_reducible refine WL.top64 ?_ ?_); omega) | refine WC.seq ?_ | refine WC.block ?_ | refine WC.region ?_ | refine WL.nil ?_ | refine WC.skip ?_ | refine WC.exit ?_ | refine WC.ret ?_ | refine WQ.then rfl ?_ | refine WQ.thenExit ?_ | refine WQ.thenRet ?_ | refine WQ.blk ?_ | refine WQ.blkRet ?_ | refine WQ.blkHere rfl ?_ | refine WQ.blkOther rfl ?_ | refine WL.pure rfl rfl rfl rfl ?_ | refine WL.on rfl rfl ?_ | refine WL.off rfl rfl rfl ?_ | refine WC.condTrue rfl ?_ | refine WC.condFalse rfl ?_)
      refine WL.call rfl rfl rfl rfl rfl Try.func26 rfl (by kernel_rfl) (within_any _ _ _ _) ?_
      rintro _ wx ⟨rfl, rfl⟩
      refine ⟨_, rfl, ?_⟩
      by_cases c3 : 1 ≤ e.ver ∧ e.ver ≤ 2147483648
      rotate_left
      · repeat (first | ((with_reducible refine WL.topT ?_ ?_); omega) | ((with_reducible refine WL.topF ?_ ?_); omega) | ((with_reducible refine WL.top64 ?_ ?_); omega) | refine WC.seq ?_ | refine WC.block ?_ | refine WC.region ?_ | refine WL.nil ?_ | refine WC.skip ?_ | refine WC.exit ?_ | refine WC.ret ?_ | refine WQ.then rfl ?_ | refine WQ.thenExit ?_ | refine WQ.thenRet ?_ | refine WQ.blk ?_ | refine WQ.blkRet ?_ | refine WQ.blkHere rfl ?_ | refine WQ.blkOther rfl ?_ | refine WL.pure rfl rfl rfl rfl ?_ | refine WL.on rfl rfl ?_ | refine WL.off rfl rfl rfl ?_ | refine WC.condTrue rfl ?_ | refine WC.condFalse rfl ?_)
        exact WQ.ret1 rfl rfl (BoolIs.no (fun h => c3 (hform'.1 h).2.1) hwx)
      repeat (first | ((with_reducible refine WL.topT ?_ ?_); omega) | ((with_reducible refine WL.topF ?_ ?_); omega) | ((with_reducible refine WL.top64 ?_ ?_); omega) | refine WC.seq ?_ | refine WC.block ?_ | refine WC.region ?_ | refine WL.nil ?_ | refine WC.skip ?_ | refine WC.exit ?_ | refine WC.ret ?_ | refine WQ.then rfl ?_ | refine WQ.thenExit ?_ | refine WQ.thenRet ?_ | refine WQ.blk ?_ | refine WQ.blkRet ?_ | refine WQ.blkHere rfl ?_ | refine WQ.blkOther rfl ?_ | refine WL.pure rfl rfl rfl rfl ?_ | refine WL.on rfl rfl ?_ | refine WL.off rfl rfl rfl ?_ | refine WC.condTrue rfl ?_ | refine WC.condFalse rfl ?_)
      refine WL.loadMid rfl rfl rfl rfl rfl rfl (VBlk.rangeAt Cx.blk) Cx.len ?_
      refine WL.on rfl rfl ?_
      refine WL.call rfl rfl rfl rfl rfl Try.func55 rfl (by kernel_rfl) (nothing_any (e := { e with table := 0, doc := 0, ver := 0 }) (hv.below hwx) Cx.hl ⟨by show R64 0; omega, by show R64 0; omega, by show R64 0; omega⟩) ?_
      rintro _ wy ⟨⟨b, rfl, hb⟩, hky⟩
      refine ⟨_, rfl, ?_⟩
      have hwy := hwx.trans (hky.mono hwx.size)
      have By := Bx.below hky
      cases b with
      | false =>
        repeat (first | ((with_reducible refine WL.topT ?_ ?_); omega) | ((with_reducible refine WL.topF ?_ ?_); omega) | ((with_reducible refine WL.top64 ?_ ?_); omega) | refine WC.seq ?_ | refine WC.block ?_ | refine WC.region ?_ | refine WL.nil ?_ | refine WC.skip ?_ | refine WC.exit ?_ | refine WC.ret ?_ | refine WQ.then rfl ?_ | refine WQ.thenExit ?_ | refine WQ.thenRet ?_ | refine WQ.blk ?_ | refine WQ.blkRet ?_ | refine WQ.blkHere rfl ?_ | refine WQ.blkOther rfl ?_ | refine WL.pure rfl rfl rfl rfl ?_ | refine WL.on rfl rfl ?_ | refine WL.off rfl rfl rfl ?_ | refine WC.condTrue rfl ?_ | refine WC.condFalse rfl ?_)
        exact WQ.ret1 rfl rfl (BoolIs.no (fun h => by have := hb.2 (hform'.1 h).2.2.1; cases this) hwy)
      | true =>
        have hN := hb.1 rfl
        repeat (first | ((with_reducible refine WL.topT ?_ ?_); omega) | ((with_reducible refine WL.topF ?_ ?_); omega) | ((with_reducible refine WL.top64 ?_ ?_); omega) | refine WC.seq ?_ | refine WC.block ?_ | refine WC.region ?_ | refine WL.nil ?_ | refine WC.skip ?_ | refine WC.exit ?_ | refine WC.ret ?_ | refine WQ.then rfl ?_ | refine WQ.thenExit ?_ | refine WQ.thenRet ?_ | refine WQ.blk ?_ | refine WQ.blkRet ?_ | refine WQ.blkHere rfl ?_ | refine WQ.blkOther rfl ?_ | refine WL.pure rfl rfl rfl rfl ?_ | refine WL.on rfl rfl ?_ | refine WL.off rfl rfl rfl ?_ | refine WC.condTrue rfl ?_ | refine WC.condFalse rfl ?_)
        refine WL.load rfl rfl rfl rfl rfl rfl By.gone ?_
        cases hgo : e.gone with
        | false =>
          repeat (first | ((with_reducible refine WL.topT ?_ ?_); omega) | ((with_reducible refine WL.topF ?_ ?_); omega) | ((with_reducible refine WL.top64 ?_ ?_); omega) | refine WC.seq ?_ | refine WC.block ?_ | refine WC.region ?_ | refine WL.nil ?_ | refine WC.skip ?_ | refine WC.exit ?_ | refine WC.ret ?_ | refine WQ.then rfl ?_ | refine WQ.thenExit ?_ | refine WQ.thenRet ?_ | refine WQ.blk ?_ | refine WQ.blkRet ?_ | refine WQ.blkHere rfl ?_ | refine WQ.blkOther rfl ?_ | refine WL.pure rfl rfl rfl rfl ?_ | refine WL.on rfl rfl ?_ | refine WL.off rfl rfl rfl ?_ | refine WC.condTrue rfl ?_ | refine WC.condFalse rfl ?_)
          exact WQ.ret1 rfl rfl (BoolIs.yes (hform'.2 ⟨⟨c1, c2⟩, c3, hN, fun h => by rw [hgo] at h; cases h⟩) hwy)
        | true =>
          repeat (first | ((with_reducible refine WL.topT ?_ ?_); omega) | ((with_reducible refine WL.topF ?_ ?_); omega) | ((with_reducible refine WL.top64 ?_ ?_); omega) | refine WC.seq ?_ | refine WC.block ?_ | refine WC.region ?_ | refine WL.nil ?_ | refine WC.skip ?_ | refine WC.exit ?_ | refine WC.ret ?_ | refine WQ.then rfl ?_ | refine WQ.thenExit ?_ | refine WQ.thenRet ?_ | refine WQ.blk ?_ | refine WQ.blkRet ?_ | refine WQ.blkHere rfl ?_ | refine WQ.blkOther rfl ?_ | refine WL.pure rfl rfl rfl rfl ?_ | refine WL.on rfl rfl ?_ | refine WL.off rfl rfl rfl ?_ | refine WC.condTrue rfl ?_ | refine WC.condFalse rfl ?_)
          refine WL.loadMid rfl rfl rfl rfl rfl rfl By.data hdl ?_
          refine WL.on rfl rfl ?_
          refine WL.call rfl rfl rfl rfl rfl Try.func56 rfl (by kernel_rfl) (blank_any (hv.below hwy)) ?_
          rintro _ wz ⟨⟨b2, rfl, hb2⟩, hkz⟩
          refine ⟨_, rfl, ?_⟩
          repeat (first | ((with_reducible refine WL.topT ?_ ?_); omega) | ((with_reducible refine WL.topF ?_ ?_); omega) | ((with_reducible refine WL.top64 ?_ ?_); omega) | refine WC.seq ?_ | refine WC.block ?_ | refine WC.region ?_ | refine WL.nil ?_ | refine WC.skip ?_ | refine WC.exit ?_ | refine WC.ret ?_ | refine WQ.then rfl ?_ | refine WQ.thenExit ?_ | refine WQ.thenRet ?_ | refine WQ.blk ?_ | refine WQ.blkRet ?_ | refine WQ.blkHere rfl ?_ | refine WQ.blkOther rfl ?_ | refine WL.pure rfl rfl rfl rfl ?_ | refine WL.on rfl rfl ?_ | refine WL.off rfl rfl rfl ?_ | refine WC.condTrue rfl ?_ | refine WC.condFalse rfl ?_)
          exact WQ.ret1 rfl rfl (BoolIs.of (hwy.trans (hkz.mono hwy.size)) hb2 (hform'.trans ⟨fun h => h.2.2.2 hgo, fun h => ⟨⟨c1, c2⟩, c3, hN, fun _ => h⟩⟩))
  by_cases k4 : e.kind = 4
  · have hform : formE e ↔ (0 ≤ e.ab ∧ e.ab ≤ 2147483648) ∧ (0 ≤ e.ae ∧ e.ae ≤ 2147483648) ∧ nilE { e with ab := 0, ae := 0 } := by
      unfold formE; rw [if_neg k1, if_neg (by omega), if_neg (by omega), if_pos k4]
    repeat (first | ((with_reducible refine WL.topT ?_ ?_); omega) | ((with_reducible refine WL.topF ?_ ?_); omega) | ((with_reducible refine WL.top64 ?_ ?_); omega) | refine WC.seq ?_ | refine WC.block ?_ | refine WC.region ?_ | refine WL.nil ?_ | refine WC.skip ?_ | refine WC.exit ?_ | refine WC.ret ?_ | refine WQ.then rfl ?_ | refine WQ.thenExit ?_ | refine WQ.thenRet ?_ | refine WQ.blk ?_ | refine WQ.blkRet ?_ | refine WQ.blkHere rfl ?_ | refine WQ.blkOther rfl ?_ | refine WL.pure rfl rfl rfl rfl ?_ | refine WL.on rfl rfl ?_ | refine WL.off rfl rfl rfl ?_ | refine WC.condTrue rfl ?_ | refine WC.condFalse rfl ?_)
    refine WL.build [.int .i64 0, .int .i64 0] rfl rfl rfl rfl rfl (by kernel_rfl) ?_
    repeat (first | ((with_reducible refine WL.topT ?_ ?_); omega) | ((with_reducible refine WL.topF ?_ ?_); omega) | ((with_reducible refine WL.top64 ?_ ?_); omega) | refine WC.seq ?_ | refine WC.block ?_ | refine WC.region ?_ | refine WL.nil ?_ | refine WC.skip ?_ | refine WC.exit ?_ | refine WC.ret ?_ | refine WQ.then rfl ?_ | refine WQ.thenExit ?_ | refine WQ.thenRet ?_ | refine WQ.blk ?_ | refine WQ.blkRet ?_ | refine WQ.blkHere rfl ?_ | refine WQ.blkOther rfl ?_ | refine WL.pure rfl rfl rfl rfl ?_ | refine WL.on rfl rfl ?_ | refine WL.off rfl rfl rfl ?_ | refine WC.condTrue rfl ?_ | refine WC.condFalse rfl ?_)
    refine WL.storeMid rfl rfl rfl rfl rfl rfl C3.blk rfl (by rw [C3.len]; omega) (by intro u hu; simp at hu; rw [hu]; rfl) ?_
    obtain ⟨hw4, B4⟩ := stR ((enC e dc).take (0 + 44) ++ [Value.int .i64 0, .int .i64 0] ++ (enC e dc).drop (0 + 44 + 2)).toArray hw3 B3
    have C4 := C3.setAt (off := 0 + 44) 0 0 rfl
    generalize w3.setRow c ((enC e dc).take (0 + 44) ++ [Value.int .i64 0, .int .i64 0] ++ (enC e dc).drop (0 + 44 + 2)).toArray = w4 at hw4 B4 C4
    repeat (first | ((with_reducible refine WL.topT ?_ ?_); omega) | ((with_reducible refine WL.topF ?_ ?_); omega) | ((with_reducible refine WL.top64 ?_ ?_); omega) | refine WC.seq ?_ | refine WC.block ?_ | refine WC.region ?_ | refine WL.nil ?_ | refine WC.skip ?_ | refine WC.exit ?_ | refine WC.ret ?_ | refine WQ.then rfl ?_ | refine WQ.thenExit ?_ | refine WQ.thenRet ?_ | refine WQ.blk ?_ | refine WQ.blkRet ?_ | refine WQ.blkHere rfl ?_ | refine WQ.blkOther rfl ?_ | refine WL.pure rfl rfl rfl rfl ?_ | refine WL.on rfl rfl ?_ | refine WL.off rfl rfl rfl ?_ | refine WC.condTrue rfl ?_ | refine WC.condFalse rfl ?_)
    refine WL.load rfl rfl rfl rfl rfl rfl B4.ab ?_
    refine WL.call rfl rfl rfl rfl rfl Try.func26 rfl (by kernel_rfl) (within_any _ _ _ _) ?_
    rintro _ w4 ⟨rfl, rfl⟩
    refine ⟨_, rfl, ?_⟩
    by_cases c1 : 0 ≤ e.ab ∧ e.ab ≤ 2147483648
    rotate_left
    · repeat (first | ((with_reducible refine WL.topT ?_ ?_); omega) | ((with_reducible refine WL.topF ?_ ?_); omega) | ((with_reducible refine WL.top64 ?_ ?_); omega) | refine WC.seq ?_ | refine WC.block ?_ | refine WC.region ?_ | refine WL.nil ?_ | refine WC.skip ?_ | refine WC.exit ?_ | refine WC.ret ?_ | refine WQ.then rfl ?_ | refine WQ.thenExit ?_ | refine WQ.thenRet ?_ | refine WQ.blk ?_ | refine WQ.blkRet ?_ | refine WQ.blkHere rfl ?_ | refine WQ.blkOther rfl ?_ | refine WL.pure rfl rfl rfl rfl ?_ | refine WL.on rfl rfl ?_ | refine WL.off rfl rfl rfl ?_ | refine WC.condTrue rfl ?_ | refine WC.condFalse rfl ?_)
      exact WQ.ret1 rfl rfl (BoolIs.no (fun h => c1 (hform.1 h).1) hw4)
    repeat (first | ((with_reducible refine WL.topT ?_ ?_); omega) | ((with_reducible refine WL.topF ?_ ?_); omega) | ((with_reducible refine WL.top64 ?_ ?_); omega) | refine WC.seq ?_ | refine WC.block ?_ | refine WC.region ?_ | refine WL.nil ?_ | refine WC.skip ?_ | refine WC.exit ?_ | refine WC.ret ?_ | refine WQ.then rfl ?_ | refine WQ.thenExit ?_ | refine WQ.thenRet ?_ | refine WQ.blk ?_ | refine WQ.blkRet ?_ | refine WQ.blkHere rfl ?_ | refine WQ.blkOther rfl ?_ | refine WL.pure rfl rfl rfl rfl ?_ | refine WL.on rfl rfl ?_ | refine WL.off rfl rfl rfl ?_ | refine WC.condTrue rfl ?_ | refine WC.condFalse rfl ?_)
    refine WL.load rfl rfl rfl rfl rfl rfl B4.ae ?_
    refine WL.on rfl rfl ?_
    refine WL.call rfl rfl rfl rfl rfl Try.func26 rfl (by kernel_rfl) (within_any _ _ _ _) ?_
    rintro _ w4 ⟨rfl, rfl⟩
    refine ⟨_, rfl, ?_⟩
    by_cases c2 : 0 ≤ e.ae ∧ e.ae ≤ 2147483648
    · repeat (first | ((with_reducible refine WL.topT ?_ ?_); omega) | ((with_reducible refine WL.topF ?_ ?_); omega) | ((with_reducible refine WL.top64 ?_ ?_); omega) | refine WC.seq ?_ | refine WC.block ?_ | refine WC.region ?_ | refine WL.nil ?_ | refine WC.skip ?_ | refine WC.exit ?_ | refine WC.ret ?_ | refine WQ.then rfl ?_ | refine WQ.thenExit ?_ | refine WQ.thenRet ?_ | refine WQ.blk ?_ | refine WQ.blkRet ?_ | refine WQ.blkHere rfl ?_ | refine WQ.blkOther rfl ?_ | refine WL.pure rfl rfl rfl rfl ?_ | refine WL.on rfl rfl ?_ | refine WL.off rfl rfl rfl ?_ | refine WC.condTrue rfl ?_ | refine WC.condFalse rfl ?_)
      refine WL.loadMid rfl rfl rfl rfl rfl rfl (VBlk.rangeAt C4.blk) C4.len ?_
      refine WL.on rfl rfl ?_
      refine WL.call rfl rfl rfl rfl rfl Try.func55 rfl (by kernel_rfl) (nothing_any (e := { e with ab := 0, ae := 0 }) (hv.below hw4) C4.hl ⟨by first | exact hta | (show R64 0; omega), hdo, hve⟩) ?_
      rintro _ wy ⟨⟨b, rfl, hb⟩, hky⟩
      refine ⟨_, rfl, ?_⟩
      repeat (first | ((with_reducible refine WL.topT ?_ ?_); omega) | ((with_reducible refine WL.topF ?_ ?_); omega) | ((with_reducible refine WL.top64 ?_ ?_); omega) | refine WC.seq ?_ | refine WC.block ?_ | refine WC.region ?_ | refine WL.nil ?_ | refine WC.skip ?_ | refine WC.exit ?_ | refine WC.ret ?_ | refine WQ.then rfl ?_ | refine WQ.thenExit ?_ | refine WQ.thenRet ?_ | refine WQ.blk ?_ | refine WQ.blkRet ?_ | refine WQ.blkHere rfl ?_ | refine WQ.blkOther rfl ?_ | refine WL.pure rfl rfl rfl rfl ?_ | refine WL.on rfl rfl ?_ | refine WL.off rfl rfl rfl ?_ | refine WC.condTrue rfl ?_ | refine WC.condFalse rfl ?_)
      exact WQ.ret1 rfl rfl (BoolIs.of (hw4.trans (hky.mono hw4.size)) hb (hform.trans ⟨fun h => h.2.2, fun h => ⟨c1, c2, h⟩⟩))
    · repeat (first | ((with_reducible refine WL.topT ?_ ?_); omega) | ((with_reducible refine WL.topF ?_ ?_); omega) | ((with_reducible refine WL.top64 ?_ ?_); omega) | refine WC.seq ?_ | refine WC.block ?_ | refine WC.region ?_ | refine WL.nil ?_ | refine WC.skip ?_ | refine WC.exit ?_ | refine WC.ret ?_ | refine WQ.then rfl ?_ | refine WQ.thenExit ?_ | refine WQ.thenRet ?_ | refine WQ.blk ?_ | refine WQ.blkRet ?_ | refine WQ.blkHere rfl ?_ | refine WQ.blkOther rfl ?_ | refine WL.pure rfl rfl rfl rfl ?_ | refine WL.on rfl rfl ?_ | refine WL.off rfl rfl rfl ?_ | refine WC.condTrue rfl ?_ | refine WC.condFalse rfl ?_)
      exact WQ.ret1 rfl rfl (BoolIs.no (fun h => c2 (hform.1 h).2.1) hw4)
  by_cases k57 : e.kind = 5 ∨ e.kind = 7
  · have hform : formE e ↔ (1 ≤ e.table ∧ e.table ≤ 64) ∧ (1 ≤ e.text.size ∧ e.text.size ≤ 40) ∧ nilE { e with table := 0, text := noT } := by
      unfold formE; rw [if_neg k1, if_neg (by omega), if_neg (by omega), if_neg k4, if_pos k57]
      constructor
      · rintro ⟨a, b, c, d⟩; exact ⟨a, ⟨b, c⟩, d⟩
      · rintro ⟨a, ⟨b, c⟩, d⟩; exact ⟨a, b, c, d⟩
    rcases k57 with k5 | k7
    all_goals
      repeat (first | ((with_reducible refine WL.topT ?_ ?_); omega) | ((with_reducible refine WL.topF ?_ ?_); omega) | ((with_reducible refine WL.top64 ?_ ?_); omega) | refine WC.seq ?_ | refine WC.block ?_ | refine WC.region ?_ | refine WL.nil ?_ | refine WC.skip ?_ | refine WC.exit ?_ | refine WC.ret ?_ | refine WQ.then rfl ?_ | refine WQ.thenExit ?_ | refine WQ.thenRet ?_ | refine WQ.blk ?_ | refine WQ.blkRet ?_ | refine WQ.blkHere rfl ?_ | refine WQ.blkOther rfl ?_ | refine WL.pure rfl rfl rfl rfl ?_ | refine WL.on rfl rfl ?_ | refine WL.off rfl rfl rfl ?_ | refine WC.condTrue rfl ?_ | refine WC.condFalse rfl ?_)
      refine WL.store (v := .int .i64 0) rfl rfl rfl rfl rfl rfl (by kernel_rfl) C3.table (C3.blk.free 2) ?_
      obtain ⟨hw4, B4⟩ := stB (i := 2) (.int .i64 0) hw3 B3
      have C4 := C3.setTable 0
      generalize w3.setCell ⟨c, 2, none⟩ (.int .i64 0) = w4 at hw4 B4 C4
      repeat (first | ((with_reducible refine WL.topT ?_ ?_); omega) | ((with_reducible refine WL.topF ?_ ?_); omega) | ((with_reducible refine WL.top64 ?_ ?_); omega) | refine WC.seq ?_ | refine WC.block ?_ | refine WC.region ?_ | refine WL.nil ?_ | refine WC.skip ?_ | refine WC.exit ?_ | refine WC.ret ?_ | refine WQ.then rfl ?_ | refine WQ.thenExit ?_ | refine WQ.thenRet ?_ | refine WQ.blk ?_ | refine WQ.blkRet ?_ | refine WQ.blkHere rfl ?_ | refine WQ.blkOther rfl ?_ | refine WL.pure rfl rfl rfl rfl ?_ | refine WL.on rfl rfl ?_ | refine WL.off rfl rfl rfl ?_ | refine WC.condTrue rfl ?_ | refine WC.condFalse rfl ?_)
      refine WL.store (v := .string noT) rfl rfl rfl rfl rfl rfl (by kernel_rfl) C4.text (C4.blk.free 1) ?_
      obtain ⟨hw5, B5⟩ := stB (i := 1) (.string noT) hw4 B4
      have C5 := C4.setText noT
      generalize w4.setCell ⟨c, 1, none⟩ (.string noT) = w5 at hw5 B5 C5
      by_cases c1 : 1 ≤ e.table ∧ e.table ≤ 64
      rotate_left
      · repeat (first | ((with_reducible refine WL.topT ?_ ?_); omega) | ((with_reducible refine WL.topF ?_ ?_); omega) | ((with_reducible refine WL.top64 ?_ ?_); omega) | refine WC.seq ?_ | refine WC.block ?_ | refine WC.region ?_ | refine WL.nil ?_ | refine WC.skip ?_ | refine WC.exit ?_ | refine WC.ret ?_ | refine WQ.then rfl ?_ | refine WQ.thenExit ?_ | refine WQ.thenRet ?_ | refine WQ.blk ?_ | refine WQ.blkRet ?_ | refine WQ.blkHere rfl ?_ | refine WQ.blkOther rfl ?_ | refine WL.pure rfl rfl rfl rfl ?_ | refine WL.on rfl rfl ?_ | refine WL.off rfl rfl rfl ?_ | refine WC.condTrue rfl ?_ | refine WC.condFalse rfl ?_)
        exact WQ.ret1 rfl rfl (BoolIs.no (fun h => c1 (hform.1 h).1) hw5)
      repeat (first | ((with_reducible refine WL.topT ?_ ?_); omega) | ((with_reducible refine WL.topF ?_ ?_); omega) | ((with_reducible refine WL.top64 ?_ ?_); omega) | refine WC.seq ?_ | refine WC.block ?_ | refine WC.region ?_ | refine WL.nil ?_ | refine WC.skip ?_ | refine WC.exit ?_ | refine WC.ret ?_ | refine WQ.then rfl ?_ | refine WQ.thenExit ?_ | refine WQ.thenRet ?_ | refine WQ.blk ?_ | refine WQ.blkRet ?_ | refine WQ.blkHere rfl ?_ | refine WQ.blkOther rfl ?_ | refine WL.pure rfl rfl rfl rfl ?_ | refine WL.on rfl rfl ?_ | refine WL.off rfl rfl rfl ?_ | refine WC.condTrue rfl ?_ | refine WC.condFalse rfl ?_)
      refine WL.load rfl rfl rfl rfl rfl rfl B5.text ?_
      repeat (first | ((with_reducible refine WL.topT ?_ ?_); omega) | ((with_reducible refine WL.topF ?_ ?_); omega) | ((with_reducible refine WL.top64 ?_ ?_); omega) | refine WC.seq ?_ | refine WC.block ?_ | refine WC.region ?_ | refine WL.nil ?_ | refine WC.skip ?_ | refine WC.exit ?_ | refine WC.ret ?_ | refine WQ.then rfl ?_ | refine WQ.thenExit ?_ | refine WQ.thenRet ?_ | refine WQ.blk ?_ | refine WQ.blkRet ?_ | refine WQ.blkHere rfl ?_ | refine WQ.blkOther rfl ?_ | refine WL.pure rfl rfl rfl rfl ?_ | refine WL.on rfl rfl ?_ | refine WL.off rfl rfl rfl ?_ | refine WC.condTrue rfl ?_ | refine WC.condFalse rfl ?_)
      refine WL.call rfl rfl rfl rfl rfl Try.func26 rfl (by kernel_rfl) (within_any _ _ _ _) ?_
      rintro _ w5 ⟨rfl, rfl⟩
      refine ⟨_, rfl, ?_⟩
      by_cases c2 : (1 : Int) ≤ (e.text.size : Int) ∧ (e.text.size : Int) ≤ 40
      rotate_left
      · repeat (first | ((with_reducible refine WL.topT ?_ ?_); omega) | ((with_reducible refine WL.topF ?_ ?_); omega) | ((with_reducible refine WL.top64 ?_ ?_); omega) | refine WC.seq ?_ | refine WC.block ?_ | refine WC.region ?_ | refine WL.nil ?_ | refine WC.skip ?_ | refine WC.exit ?_ | refine WC.ret ?_ | refine WQ.then rfl ?_ | refine WQ.thenExit ?_ | refine WQ.thenRet ?_ | refine WQ.blk ?_ | refine WQ.blkRet ?_ | refine WQ.blkHere rfl ?_ | refine WQ.blkOther rfl ?_ | refine WL.pure rfl rfl rfl rfl ?_ | refine WL.on rfl rfl ?_ | refine WL.off rfl rfl rfl ?_ | refine WC.condTrue rfl ?_ | refine WC.condFalse rfl ?_)
        exact WQ.ret1 rfl rfl (BoolIs.no (fun h => c2 (by have := (hform.1 h).2.1; omega)) hw5)
      repeat (first | ((with_reducible refine WL.topT ?_ ?_); omega) | ((with_reducible refine WL.topF ?_ ?_); omega) | ((with_reducible refine WL.top64 ?_ ?_); omega) | refine WC.seq ?_ | refine WC.block ?_ | refine WC.region ?_ | refine WL.nil ?_ | refine WC.skip ?_ | refine WC.exit ?_ | refine WC.ret ?_ | refine WQ.then rfl ?_ | refine WQ.thenExit ?_ | refine WQ.thenRet ?_ | refine WQ.blk ?_ | refine WQ.blkRet ?_ | refine WQ.blkHere rfl ?_ | refine WQ.blkOther rfl ?_ | refine WL.pure rfl rfl rfl rfl ?_ | refine WL.on rfl rfl ?_ | refine WL.off rfl rfl rfl ?_ | refine WC.condTrue rfl ?_ | refine WC.condFalse rfl ?_)
      refine WL.loadMid rfl rfl rfl rfl rfl rfl (VBlk.rangeAt C5.blk) C5.len ?_
      refine WL.on rfl rfl ?_
      refine WL.call rfl rfl rfl rfl rfl Try.func55 rfl (by kernel_rfl) (nothing_any (e := { e with table := 0, text := noT }) (hv.below hw5) C5.hl ⟨by first | exact hta | (show R64 0; omega), hdo, hve⟩) ?_
      rintro _ wy ⟨⟨b, rfl, hb⟩, hky⟩
      refine ⟨_, rfl, ?_⟩
      repeat (first | ((with_reducible refine WL.topT ?_ ?_); omega) | ((with_reducible refine WL.topF ?_ ?_); omega) | ((with_reducible refine WL.top64 ?_ ?_); omega) | refine WC.seq ?_ | refine WC.block ?_ | refine WC.region ?_ | refine WL.nil ?_ | refine WC.skip ?_ | refine WC.exit ?_ | refine WC.ret ?_ | refine WQ.then rfl ?_ | refine WQ.thenExit ?_ | refine WQ.thenRet ?_ | refine WQ.blk ?_ | refine WQ.blkRet ?_ | refine WQ.blkHere rfl ?_ | refine WQ.blkOther rfl ?_ | refine WL.pure rfl rfl rfl rfl ?_ | refine WL.on rfl rfl ?_ | refine WL.off rfl rfl rfl ?_ | refine WC.condTrue rfl ?_ | refine WC.condFalse rfl ?_)
      exact WQ.ret1 rfl rfl (BoolIs.of (hw5.trans (hky.mono hw5.size)) hb (hform.trans ⟨fun h => h.2.2, fun h => ⟨c1, by omega, h⟩⟩))
  by_cases k6 : e.kind = 6
  · have hform : formE e ↔ (1 ≤ e.table ∧ e.table ≤ 64) ∧ nilE { e with table := 0 } := by
      unfold formE; rw [if_neg k1, if_neg (by omega), if_neg (by omega), if_neg k4, if_neg k57, if_pos k6]
    repeat (first | ((with_reducible refine WL.topT ?_ ?_); omega) | ((with_reducible refine WL.topF ?_ ?_); omega) | ((with_reducible refine WL.top64 ?_ ?_); omega) | refine WC.seq ?_ | refine WC.block ?_ | refine WC.region ?_ | refine WL.nil ?_ | refine WC.skip ?_ | refine WC.exit ?_ | refine WC.ret ?_ | refine WQ.then rfl ?_ | refine WQ.thenExit ?_ | refine WQ.thenRet ?_ | refine WQ.blk ?_ | refine WQ.blkRet ?_ | refine WQ.blkHere rfl ?_ | refine WQ.blkOther rfl ?_ | refine WL.pure rfl rfl rfl rfl ?_ | refine WL.on rfl rfl ?_ | refine WL.off rfl rfl rfl ?_ | refine WC.condTrue rfl ?_ | refine WC.condFalse rfl ?_)
    refine WL.store (v := .int .i64 0) rfl rfl rfl rfl rfl rfl (by kernel_rfl) C3.table (C3.blk.free 2) ?_
    obtain ⟨hw4, B4⟩ := stB (i := 2) (.int .i64 0) hw3 B3
    have C4 := C3.setTable 0
    generalize w3.setCell ⟨c, 2, none⟩ (.int .i64 0) = w4 at hw4 B4 C4
    by_cases c1 : 1 ≤ e.table ∧ e.table ≤ 64
    · repeat (first | ((with_reducible refine WL.topT ?_ ?_); omega) | ((with_reducible refine WL.topF ?_ ?_); omega) | ((with_reducible refine WL.top64 ?_ ?_); omega) | refine WC.seq ?_ | refine WC.block ?_ | refine WC.region ?_ | refine WL.nil ?_ | refine WC.skip ?_ | refine WC.exit ?_ | refine WC.ret ?_ | refine WQ.then rfl ?_ | refine WQ.thenExit ?_ | refine WQ.thenRet ?_ | refine WQ.blk ?_ | refine WQ.blkRet ?_ | refine WQ.blkHere rfl ?_ | refine WQ.blkOther rfl ?_ | refine WL.pure rfl rfl rfl rfl ?_ | refine WL.on rfl rfl ?_ | refine WL.off rfl rfl rfl ?_ | refine WC.condTrue rfl ?_ | refine WC.condFalse rfl ?_)
      refine WL.loadMid rfl rfl rfl rfl rfl rfl (VBlk.rangeAt C4.blk) C4.len ?_
      refine WL.on rfl rfl ?_
      refine WL.call rfl rfl rfl rfl rfl Try.func55 rfl (by kernel_rfl) (nothing_any (e := { e with table := 0 }) (hv.below hw4) C4.hl ⟨by first | exact hta | (show R64 0; omega), hdo, hve⟩) ?_
      rintro _ wy ⟨⟨b, rfl, hb⟩, hky⟩
      refine ⟨_, rfl, ?_⟩
      repeat (first | ((with_reducible refine WL.topT ?_ ?_); omega) | ((with_reducible refine WL.topF ?_ ?_); omega) | ((with_reducible refine WL.top64 ?_ ?_); omega) | refine WC.seq ?_ | refine WC.block ?_ | refine WC.region ?_ | refine WL.nil ?_ | refine WC.skip ?_ | refine WC.exit ?_ | refine WC.ret ?_ | refine WQ.then rfl ?_ | refine WQ.thenExit ?_ | refine WQ.thenRet ?_ | refine WQ.blk ?_ | refine WQ.blkRet ?_ | refine WQ.blkHere rfl ?_ | refine WQ.blkOther rfl ?_ | refine WL.pure rfl rfl rfl rfl ?_ | refine WL.on rfl rfl ?_ | refine WL.off rfl rfl rfl ?_ | refine WC.condTrue rfl ?_ | refine WC.condFalse rfl ?_)
      exact WQ.ret1 rfl rfl (BoolIs.of (hw4.trans (hky.mono hw4.size)) hb (hform.trans ⟨fun h => h.2, fun h => ⟨c1, h⟩⟩))
    · repeat (first | ((with_reducible refine WL.topT ?_ ?_); omega) | ((with_reducible refine WL.topF ?_ ?_); omega) | ((with_reducible refine WL.top64 ?_ ?_); omega) | refine WC.seq ?_ | refine WC.block ?_ | refine WC.region ?_ | refine WL.nil ?_ | refine WC.skip ?_ | refine WC.exit ?_ | refine WC.ret ?_ | refine WQ.then rfl ?_ | refine WQ.thenExit ?_ | refine WQ.thenRet ?_ | refine WQ.blk ?_ | refine WQ.blkRet ?_ | refine WQ.blkHere rfl ?_ | refine WQ.blkOther rfl ?_ | refine WL.pure rfl rfl rfl rfl ?_ | refine WL.on rfl rfl ?_ | refine WL.off rfl rfl rfl ?_ | refine WC.condTrue rfl ?_ | refine WC.condFalse rfl ?_)
      exact WQ.ret1 rfl rfl (BoolIs.no (fun h => c1 (hform.1 h).1) hw4)
  · have hform : ¬ formE e := by
      unfold formE; rw [if_neg k1, if_neg (by omega), if_neg (by omega), if_neg k4, if_neg k57, if_neg k6]; exact id
    repeat (first | ((with_reducible refine WL.topT ?_ ?_); omega) | ((with_reducible refine WL.topF ?_ ?_); omega) | ((with_reducible refine WL.top64 ?_ ?_); omega) | refine WC.seq ?_ | refine WC.block ?_ | refine WC.region ?_ | refine WL.nil ?_ | refine WC.skip ?_ | refine WC.exit ?_ | refine WC.ret ?_ | refine WQ.then rfl ?_ | refine WQ.thenExit ?_ | refine WQ.thenRet ?_ | refine WQ.blk ?_ | refine WQ.blkRet ?_ | refine WQ.blkHere rfl ?_ | refine WQ.blkOther rfl ?_ | refine WL.pure rfl rfl rfl rfl ?_ | refine WL.on rfl rfl ?_ | refine WL.off rfl rfl rfl ?_ | refine WC.condTrue rfl ?_ | refine WC.condFalse rfl ?_)
    exact WQ.ret1 rfl rfl (BoolIs.no hform hw3)
end K
end Go.Proofs.Ytlamdhekjlnccaa

/- Blocks (chapter 11): number, layEntry. -/
namespace Go.Proofs.Ytlamdhekjlnccaa
open Go.RowKit
namespace K
theorem max0 (n : Int) (h : R64 n) : IntKind.u64.wrap (if n > 0 then n else 0) = ((n.toNat : Nat) : Int) := by rw [IntKind.wrap_u64]; split <;> omega
theorem number11_any {w : World} {b : Value} {l : List Int} (n : Int) (hb : Bu w b l) (hn : R64 n) (hm : l.length ≤ 70368744177664) :
    Calls Try.prog 29 #[b, .int .i64 n] w fun e w' => ∃ b', e = .returned b' ∧ Bu w' b' (l ++ uvB n.toNat) ∧ Grow w b w' b' := by
  refine enter (args := [b, .int .i64 n]) Try.func29 rfl Try.ntmps29 rfl ?_
  have e := max0 n hn
  have hul := uvB_len n.toNat
  repeat (first | ((with_reducible refine WL.topT ?_ ?_); omega) | ((with_reducible refine WL.topF ?_ ?_); omega) | ((with_reducible refine WL.top64 ?_ ?_); omega) | refine WC.seq ?_ | refine WC.block ?_ | refine WC.region ?_ | refine WL.nil ?_ | refine WC.skip ?_ | refine WC.exit ?_ | refine WC.ret ?_ | refine WQ.then rfl ?_ | refine WQ.thenExit ?_ | refine WQ.thenRet ?_ | refine WQ.blk ?_ | refine WQ.blkRet ?_ | refine WQ.blkHere rfl ?_ | refine WQ.blkOther rfl ?_ | refine WL.pure rfl rfl rfl rfl ?_ | refine WL.on rfl rfl ?_ | refine WL.off rfl rfl rfl ?_ | refine WC.condTrue rfl ?_ | refine WC.condFalse rfl ?_)
  refine WL.call rfl rfl rfl rfl rfl Try.func44 rfl (by kernel_rfl) (by rw [show (bif false then (if (0 : Int) > n then n else 0) else (if n > 0 then n else 0)) = (if n > 0 then n else 0) from rfl, e]; exact uvarint_any n.toNat (by omega) w) ?_
  rintro _ w2 ⟨b2, rfl, hb2, hk2, -⟩
  refine ⟨_, rfl, ?_⟩
  refine WL.app rfl rfl rfl rfl rfl (hb.below hk2) rfl hb2.sl (by omega) fun b3 w3 hb3 hg3 => ?_
  repeat (first | ((with_reducible refine WL.topT ?_ ?_); omega) | ((with_reducible refine WL.topF ?_ ?_); omega) | ((with_reducible refine WL.top64 ?_ ?_); omega) | refine WC.seq ?_ | refine WC.block ?_ | refine WC.region ?_ | refine WL.nil ?_ | refine WC.skip ?_ | refine WC.exit ?_ | refine WC.ret ?_ | refine WQ.then rfl ?_ | refine WQ.thenExit ?_ | refine WQ.thenRet ?_ | refine WQ.blk ?_ | refine WQ.blkRet ?_ | refine WQ.blkHere rfl ?_ | refine WQ.blkOther rfl ?_ | refine WL.pure rfl rfl rfl rfl ?_ | refine WL.on rfl rfl ?_ | refine WL.off rfl rfl rfl ?_ | refine WC.condTrue rfl ?_ | refine WC.condFalse rfl ?_)
  exact WQ.ret1 rfl rfl ⟨b3, rfl, hb3, ((Grow.refl w b).below hk2).trans hg3⟩
/-- A digest in a block, as bytes. -/
theorem hash_sl {w : World} {b off : Nat} {h : List Int} (hr : w.rangeAt b off (hashC h)) (hl : h.length = 32) (hb : b < w.heap.size) : Sl .u8 w (.slice (some ⟨b, off, none⟩) 32 32) h := by
  have := Sl.mk (k := .u8) (w := w) (b := b) (o := off) (cap := 32) (l := h) (by omega) (by omega) hb (fun j hj => by
    have h1 := hr j (.int .u8 (nth h j)) (by simp [nth, hj])
    exact h1)
  rw [hl] at this
  exact this
theorem layE_len (e : En) (hh : e.hash.length = 32) : (layE e).length ≤ 100 + e.text.size := by
  have h1 := uvB_len e.table.toNat
  have h2 := uvB_len e.doc.toNat
  have h3 := uvB_len e.ver.toNat
  have h4 := uvB_len e.text.size
  have h5 := uvB_len e.ab.toNat
  have h6 := uvB_len e.ae.toNat
  have h7 := byI_len e.text
  unfold layE
  by_cases k2 : e.kind = 2
  · rw [if_pos k2]; simp only [List.length_cons, List.length_append]; omega
  · rw [if_neg k2]; simp only [List.length_cons, List.length_append, List.length_nil]; omega
set_option maxHeartbeats 4000000 in
theorem layEntry_any {f : Nat} {w0 w : World} {e : En} {cs : List Value} {b : Value} {l : List Int} (h : IsE f w0 e cs) (hk : 1 ≤ e.kind ∧ e.kind ≤ 7) (hb : Bu w b l) (hm : l.length + e.text.size ≤ 70368744170000) :
    Calls Try.prog 30 #[b, .agg cs.toArray] w fun r w' => ∃ b', r = .returned b' ∧ Bu w' b' (l ++ layE e) ∧ Grow w b w' b' := by
  obtain ⟨dc, rfl, hv, hdl, hone, hh, hby, htx, -, hta, hdo, hve, hab, hae⟩ := h
  refine enter (args := [b, .agg (enC e dc).toArray]) Try.func30 rfl Try.ntmps30 rfl ?_
  repeat (first | ((with_reducible refine WL.topT ?_ ?_); omega) | ((with_reducible refine WL.topF ?_ ?_); omega) | ((with_reducible refine WL.top64 ?_ ?_); omega) | refine WC.seq ?_ | refine WC.block ?_ | refine WC.region ?_ | refine WL.nil ?_ | refine WC.skip ?_ | refine WC.exit ?_ | refine WC.ret ?_ | refine WQ.then rfl ?_ | refine WQ.thenExit ?_ | refine WQ.thenRet ?_ | refine WQ.blk ?_ | refine WQ.blkRet ?_ | refine WQ.blkHere rfl ?_ | refine WQ.blkOther rfl ?_ | refine WL.pure rfl rfl rfl rfl ?_ | refine WL.on rfl rfl ?_ | refine WL.off rfl rfl rfl ?_ | refine WC.condTrue rfl ?_ | refine WC.condFalse rfl ?_)
  refine WL.box rfl rfl rfl rfl rfl fun g w1 hf => ?_
  have hf' : Fresh w g w1 49 (enC e dc) := hf
  clear hf
  have hb1 : Bu w1 b l := hb.below hf'.below
  have hg1 : Grow w b w1 b := (Grow.refl w b).below hf'.below
  have hR : ∀ {wk vk}, Grow w1 b wk vk → EnAt 49 g wk e dc := fun h => ⟨hf'.stand hb h, hdl, hh⟩
  have fin : ∀ {b' w'}, Bu w' b' (l ++ layE e) → Grow w1 b w' b' → ∃ b'', Ending.returned b' = .returned b'' ∧ Bu w' b'' (l ++ layE e) ∧ Grow w b w' b'' := fun {b' w'} h1 h2 => ⟨b', rfl, h1, hg1.trans h2⟩
  have g0 := Grow.refl w1 b
  have e8 : IntKind.u8.wrap e.kind = e.kind := by rw [IntKind.wrap_u8]; omega
  repeat (first | ((with_reducible refine WL.topT ?_ ?_); omega) | ((with_reducible refine WL.topF ?_ ?_); omega) | ((with_reducible refine WL.top64 ?_ ?_); omega) | refine WC.seq ?_ | refine WC.block ?_ | refine WC.region ?_ | refine WL.nil ?_ | refine WC.skip ?_ | refine WC.exit ?_ | refine WC.ret ?_ | refine WQ.then rfl ?_ | refine WQ.thenExit ?_ | refine WQ.thenRet ?_ | refine WQ.blk ?_ | refine WQ.blkRet ?_ | refine WQ.blkHere rfl ?_ | refine WQ.blkOther rfl ?_ | refine WL.pure rfl rfl rfl rfl ?_ | refine WL.on rfl rfl ?_ | refine WL.off rfl rfl rfl ?_ | refine WC.condTrue rfl ?_ | refine WC.condFalse rfl ?_)
  refine WL.load rfl rfl rfl rfl rfl rfl (hR g0).kind ?_
  repeat (first | ((with_reducible refine WL.topT ?_ ?_); omega) | ((with_reducible refine WL.topF ?_ ?_); omega) | ((with_reducible refine WL.top64 ?_ ?_); omega) | refine WC.seq ?_ | refine WC.block ?_ | refine WC.region ?_ | refine WL.nil ?_ | refine WC.skip ?_ | refine WC.exit ?_ | refine WC.ret ?_ | refine WQ.then rfl ?_ | refine WQ.thenExit ?_ | refine WQ.thenRet ?_ | refine WQ.blk ?_ | refine WQ.blkRet ?_ | refine WQ.blkHere rfl ?_ | refine WQ.blkOther rfl ?_ | refine WL.pure rfl rfl rfl rfl ?_ | refine WL.on rfl rfl ?_ | refine WL.off rfl rfl rfl ?_ | refine WC.condTrue rfl ?_ | refine WC.condFalse rfl ?_)
  refine WL.push rfl rfl rfl rfl rfl rfl rfl rfl rfl rfl rfl (fun _ => rfl) rfl hb1 (by simp only [List.length_cons, List.length_nil]; omega) fun b2 w2 hb2 g2 => ?_
  rw [e8] at hb2
  repeat (first | ((with_reducible refine WL.topT ?_ ?_); omega) | ((with_reducible refine WL.topF ?_ ?_); omega) | ((with_reducible refine WL.top64 ?_ ?_); omega) | refine WC.seq ?_ | refine WC.block ?_ | refine WC.region ?_ | refine WL.nil ?_ | refine WC.skip ?_ | refine WC.exit ?_ | refine WC.ret ?_ | refine WQ.then rfl ?_ | refine WQ.thenExit ?_ | refine WQ.thenRet ?_ | refine WQ.blk ?_ | refine WQ.blkRet ?_ | refine WQ.blkHere rfl ?_ | refine WQ.blkOther rfl ?_ | refine WL.pure rfl rfl rfl rfl ?_ | refine WL.on rfl rfl ?_ | refine WL.off rfl rfl rfl ?_ | refine WC.condTrue rfl ?_ | refine WC.condFalse rfl ?_)
  refine WL.load rfl rfl rfl rfl rfl rfl (hR g2).table ?_
  repeat (first | ((with_reducible refine WL.topT ?_ ?_); omega) | ((with_reducible refine WL.topF ?_ ?_); omega) | ((with_reducible refine WL.top64 ?_ ?_); omega) | refine WC.seq ?_ | refine WC.block ?_ | refine WC.region ?_ | refine WL.nil ?_ | refine WC.skip ?_ | refine WC.exit ?_ | refine WC.ret ?_ | refine WQ.then rfl ?_ | refine WQ.thenExit ?_ | refine WQ.thenRet ?_ | refine WQ.blk ?_ | refine WQ.blkRet ?_ | refine WQ.blkHere rfl ?_ | refine WQ.blkOther rfl ?_ | refine WL.pure rfl rfl rfl rfl ?_ | refine WL.on rfl rfl ?_ | refine WL.off rfl rfl rfl ?_ | refine WC.condTrue rfl ?_ | refine WC.condFalse rfl ?_)
  refine WL.load rfl rfl rfl rfl rfl rfl (hR g2).doc ?_
  repeat (first | ((with_reducible refine WL.topT ?_ ?_); omega) | ((with_reducible refine WL.topF ?_ ?_); omega) | ((with_reducible refine WL.top64 ?_ ?_); omega) | refine WC.seq ?_ | refine WC.block ?_ | refine WC.region ?_ | refine WL.nil ?_ | refine WC.skip ?_ | refine WC.exit ?_ | refine WC.ret ?_ | refine WQ.then rfl ?_ | refine WQ.thenExit ?_ | refine WQ.thenRet ?_ | refine WQ.blk ?_ | refine WQ.blkRet ?_ | refine WQ.blkHere rfl ?_ | refine WQ.blkOther rfl ?_ | refine WL.pure rfl rfl rfl rfl ?_ | refine WL.on rfl rfl ?_ | refine WL.off rfl rfl rfl ?_ | refine WC.condTrue rfl ?_ | refine WC.condFalse rfl ?_)
  refine WL.load rfl rfl rfl rfl rfl rfl (hR g2).ver ?_
  repeat (first | ((with_reducible refine WL.topT ?_ ?_); omega) | ((with_reducible refine WL.topF ?_ ?_); omega) | ((with_reducible refine WL.top64 ?_ ?_); omega) | refine WC.seq ?_ | refine WC.block ?_ | refine WC.region ?_ | refine WL.nil ?_ | refine WC.skip ?_ | refine WC.exit ?_ | refine WC.ret ?_ | refine WQ.then rfl ?_ | refine WQ.thenExit ?_ | refine WQ.thenRet ?_ | refine WQ.blk ?_ | refine WQ.blkRet ?_ | refine WQ.blkHere rfl ?_ | refine WQ.blkOther rfl ?_ | refine WL.pure rfl rfl rfl rfl ?_ | refine WL.on rfl rfl ?_ | refine WL.off rfl rfl rfl ?_ | refine WC.condTrue rfl ?_ | refine WC.condFalse rfl ?_)
  refine WL.load rfl rfl rfl rfl rfl rfl (hR g2).text ?_
  repeat (first | ((with_reducible refine WL.topT ?_ ?_); omega) | ((with_reducible refine WL.topF ?_ ?_); omega) | ((with_reducible refine WL.top64 ?_ ?_); omega) | refine WC.seq ?_ | refine WC.block ?_ | refine WC.region ?_ | refine WL.nil ?_ | refine WC.skip ?_ | refine WC.exit ?_ | refine WC.ret ?_ | refine WQ.then rfl ?_ | refine WQ.thenExit ?_ | refine WQ.thenRet ?_ | refine WQ.blk ?_ | refine WQ.blkRet ?_ | refine WQ.blkHere rfl ?_ | refine WQ.blkOther rfl ?_ | refine WL.pure rfl rfl rfl rfl ?_ | refine WL.on rfl rfl ?_ | refine WL.off rfl rfl rfl ?_ | refine WC.condTrue rfl ?_ | refine WC.condFalse rfl ?_)
  refine WL.build [.int .i64 e.table, .int .i64 e.doc, .int .i64 e.ver, .int .i64 e.text.size] rfl rfl rfl rfl rfl (by kernel_rfl) ?_
  have hN : ∃ N : List Int, N = [e.table, e.doc, e.ver, (e.text.size : Int)] := ⟨_, rfl⟩
  obtain ⟨N, hN⟩ := hN
  have hNg : ∀ i, i < 4 → [Value.int .i64 e.table, .int .i64 e.doc, .int .i64 e.ver, .int .i64 e.text.size][i]? = some (.int .i64 (N.getD i 0)) ∧ R64 (N.getD i 0) := fun i hi => by
    rw [hN]
    match i, hi with
    | 0, _ => exact ⟨rfl, hta⟩
    | 1, _ => exact ⟨rfl, hdo⟩
    | 2, _ => exact ⟨rfl, hve⟩
    | 3, _ => exact ⟨rfl, by show R64 (e.text.size : Int); omega⟩
  have hpl : ∀ i, i ≤ 4 → ((N.take i).flatMap fun n => uvB n.toNat).length ≤ 10 * i := fun i hi => by
    have h1 := uvB_len e.table.toNat
    have h2 := uvB_len e.doc.toNat
    have h3 := uvB_len e.ver.toNat
    have h4 := uvB_len (e.text.size : Int).toNat
    rw [hN]
    match i, hi with
    | 0, _ => simp
    | 1, _ => simp; omega
    | 2, _ => simp; omega
    | 3, _ => simp; omega
    | 4, _ => simp only [List.take_succ_cons, List.take_zero, List.flatMap_cons, List.flatMap_nil, List.length_append, List.length_nil]; omega
  have hM : (l ++ [e.kind]).length = l.length + 1 := by simp
  have hML : l ++ layE e = (l ++ [e.kind]) ++ ((N.take 4).flatMap (fun n => uvB n.toNat) ++ (byI e.text ++ (uvB e.ab.toNat ++ (uvB e.ae.toNat ++ (if e.kind = 2 then e.hash else []))))) := by
    rw [hN]
    unfold layE
    simp
  generalize l ++ [e.kind] = M at hb2 hM hML
  repeat (first | ((with_reducible refine WL.topT ?_ ?_); omega) | ((with_reducible refine WL.topF ?_ ?_); omega) | ((with_reducible refine WL.top64 ?_ ?_); omega) | refine WC.seq ?_ | refine WC.block ?_ | refine WC.region ?_ | refine WL.nil ?_ | refine WC.skip ?_ | refine WC.exit ?_ | refine WC.ret ?_ | refine WQ.then rfl ?_ | refine WQ.thenExit ?_ | refine WQ.thenRet ?_ | refine WQ.blk ?_ | refine WQ.blkRet ?_ | refine WQ.blkHere rfl ?_ | refine WQ.blkOther rfl ?_ | refine WL.pure rfl rfl rfl rfl ?_ | refine WL.on rfl rfl ?_ | refine WL.off rfl rfl rfl ?_ | refine WC.condTrue rfl ?_ | refine WC.condFalse rfl ?_)
  refine WC.loop (fun i : Nat × Value => [(0, i.2), (3, .pointer (some ⟨g, 0, none⟩)), (22, .agg [.int .i64 e.table, .int .i64 e.doc, .int .i64 e.ver, .int .i64 e.text.size].toArray), (23, .int .i64 i.1)])
    (fun i w' => i.1 ≤ 4 ∧ Bu w' i.2 (M ++ (N.take i.1).flatMap fun n => uvB n.toNat) ∧ Grow w1 b w' i.2) (fun i => 4 - i.1) (0, b2) ⟨rfl, rfl, rfl, rfl, trivial⟩ ⟨Nat.zero_le _, by simpa using hb2, g2⟩ ?_
  rintro ⟨i, br⟩ wr ⟨hi, hbr, hgr⟩
  simp only at hi hbr hgr ⊢
  have hpi := hpl i hi
  by_cases hik : i < 4
  · obtain ⟨hn1, hn2⟩ := hNg i hik
    repeat (first | ((with_reducible refine WL.topT ?_ ?_); omega) | ((with_reducible refine WL.topF ?_ ?_); omega) | ((with_reducible refine WL.top64 ?_ ?_); omega) | refine WC.seq ?_ | refine WC.block ?_ | refine WC.region ?_ | refine WL.nil ?_ | refine WC.skip ?_ | refine WC.exit ?_ | refine WC.ret ?_ | refine WQ.then rfl ?_ | refine WQ.thenExit ?_ | refine WQ.thenRet ?_ | refine WQ.blk ?_ | refine WQ.blkRet ?_ | refine WQ.blkHere rfl ?_ | refine WQ.blkOther rfl ?_ | refine WL.pure rfl rfl rfl rfl ?_ | refine WL.on rfl rfl ?_ | refine WL.off rfl rfl rfl ?_ | refine WC.condTrue rfl ?_ | refine WC.condFalse rfl ?_)
    refine WL.elem i rfl rfl rfl rfl rfl rfl rfl rfl hik hn1 ?_
    repeat (first | ((with_reducible refine WL.topT ?_ ?_); omega) | ((with_reducible refine WL.topF ?_ ?_); omega) | ((with_reducible refine WL.top64 ?_ ?_); omega) | refine WC.seq ?_ | refine WC.block ?_ | refine WC.region ?_ | refine WL.nil ?_ | refine WC.skip ?_ | refine WC.exit ?_ | refine WC.ret ?_ | refine WQ.then rfl ?_ | refine WQ.thenExit ?_ | refine WQ.thenRet ?_ | refine WQ.blk ?_ | refine WQ.blkRet ?_ | refine WQ.blkHere rfl ?_ | refine WQ.blkOther rfl ?_ | refine WL.pure rfl rfl rfl rfl ?_ | refine WL.on rfl rfl ?_ | refine WL.off rfl rfl rfl ?_ | refine WC.condTrue rfl ?_ | refine WC.condFalse rfl ?_)
    refine WL.call rfl rfl rfl rfl rfl Try.func29 rfl (by kernel_rfl) (number11_any (N.getD i 0) hbr hn2 (by rw [List.length_append]; omega)) ?_
    rintro _ w3 ⟨b3, rfl, hb3, hg3⟩
    refine ⟨_, rfl, ?_⟩
    repeat (first | ((with_reducible refine WL.topT ?_ ?_); omega) | ((with_reducible refine WL.topF ?_ ?_); omega) | ((with_reducible refine WL.top64 ?_ ?_); omega) | refine WC.seq ?_ | refine WC.block ?_ | refine WC.region ?_ | refine WL.nil ?_ | refine WC.skip ?_ | refine WC.exit ?_ | refine WC.ret ?_ | refine WQ.then rfl ?_ | refine WQ.thenExit ?_ | refine WQ.thenRet ?_ | refine WQ.blk ?_ | refine WQ.blkRet ?_ | refine WQ.blkHere rfl ?_ | refine WQ.blkOther rfl ?_ | refine WL.pure rfl rfl rfl rfl ?_ | refine WL.on rfl rfl ?_ | refine WL.off rfl rfl rfl ?_ | refine WC.condTrue rfl ?_ | refine WC.condFalse rfl ?_)
    refine WQ.again (i + 1, b3) ⟨rfl, rfl, rfl, rfl, trivial⟩ ⟨hik, ?_, hgr.trans hg3⟩ (by show 4 - (i + 1) < 4 - i; omega)
    have hNl : N.length = 4 := by rw [hN]; rfl
    have ht : N.take (i + 1) = N.take i ++ [N.getD i 0] := by rw [List.take_add_one]; simp [show i < N.length by omega]
    show Bu w3 b3 (M ++ (N.take (i + 1)).flatMap _)
    rw [ht, List.flatMap_append, ← List.append_assoc]
    simpa using hb3
  · obtain rfl : i = 4 := by omega
    have hgt := byI_len e.text
    have hu5 := uvB_len e.ab.toNat
    have hu6 := uvB_len e.ae.toNat
    repeat (first | ((with_reducible refine WL.topT ?_ ?_); omega) | ((with_reducible refine WL.topF ?_ ?_); omega) | ((with_reducible refine WL.top64 ?_ ?_); omega) | refine WC.seq ?_ | refine WC.block ?_ | refine WC.region ?_ | refine WL.nil ?_ | refine WC.skip ?_ | refine WC.exit ?_ | refine WC.ret ?_ | refine WQ.then rfl ?_ | refine WQ.thenExit ?_ | refine WQ.thenRet ?_ | refine WQ.blk ?_ | refine WQ.blkRet ?_ | refine WQ.blkHere rfl ?_ | refine WQ.blkOther rfl ?_ | refine WL.pure rfl rfl rfl rfl ?_ | refine WL.on rfl rfl ?_ | refine WL.off rfl rfl rfl ?_ | refine WC.condTrue rfl ?_ | refine WC.condFalse rfl ?_)
    refine WC.drawn 11 (fun wx => EnAt 49 g wx e dc) fun w4 hd4 => ?_
    have hb4 := hbr.below (hd4.below _)
    have hg4 := hgr.below (hd4.below _)
    have hS := hR hg4
    (((first | refine WD.free 0 rfl (by kernel_rfl) rfl rfl (fun _ _ _ _ _ h => h) rfl rfl (.inr hS) ?_ | refine WD.skip 0 rfl (by kernel_rfl) rfl rfl (fun _ _ _ _ _ h => h) rfl (.inr hS) ?_); try (first | ((with_reducible refine WD.topT ?_ ?_); omega) | ((with_reducible refine WD.topF ?_ ?_); omega) | ((with_reducible refine WD.top64 ?_ ?_); omega))); ((first | refine WD.free 1 rfl (by kernel_rfl) rfl rfl (fun _ _ _ _ _ h => h) rfl rfl (.inr hS) ?_ | refine WD.skip 1 rfl (by kernel_rfl) rfl rfl (fun _ _ _ _ _ h => h) rfl (.inr hS) ?_); try (first | ((with_reducible refine WD.topT ?_ ?_); omega) | ((with_reducible refine WD.topF ?_ ?_); omega) | ((with_reducible refine WD.top64 ?_ ?_); omega))))
    refine WD.load 2 [3, 7, 11, 12] rfl (by kernel_rfl) rfl rfl (fun _ _ _ _ _ h => h) rfl rfl rfl rfl (fun wx hx => hx.text) hS ?_
    (((first | refine WD.free 4 rfl (by kernel_rfl) rfl rfl (fun _ _ _ _ _ h => h) rfl rfl (.inr hS) ?_ | refine WD.skip 4 rfl (by kernel_rfl) rfl rfl (fun _ _ _ _ _ h => h) rfl (.inr hS) ?_); try (first | ((with_reducible refine WD.topT ?_ ?_); omega) | ((with_reducible refine WD.topF ?_ ?_); omega) | ((with_reducible refine WD.top64 ?_ ?_); omega))); ((first | refine WD.free 5 rfl (by kernel_rfl) rfl rfl (fun _ _ _ _ _ h => h) rfl rfl (.inr hS) ?_ | refine WD.skip 5 rfl (by kernel_rfl) rfl rfl (fun _ _ _ _ _ h => h) rfl (.inr hS) ?_); try (first | ((with_reducible refine WD.topT ?_ ?_); omega) | ((with_reducible refine WD.topF ?_ ?_); omega) | ((with_reducible refine WD.top64 ?_ ?_); omega))))
    refine WD.load 6 [7, 11, 12] rfl (by kernel_rfl) rfl rfl (fun _ _ _ _ _ h => h) rfl rfl rfl rfl (fun wx hx => hx.ab) hS ?_
    (((first | refine WD.free 8 rfl (by kernel_rfl) rfl rfl (fun _ _ _ _ _ h => h) rfl rfl (.inr hS) ?_ | refine WD.skip 8 rfl (by kernel_rfl) rfl rfl (fun _ _ _ _ _ h => h) rfl (.inr hS) ?_); try (first | ((with_reducible refine WD.topT ?_ ?_); omega) | ((with_reducible refine WD.topF ?_ ?_); omega) | ((with_reducible refine WD.top64 ?_ ?_); omega))); ((first | refine WD.free 9 rfl (by kernel_rfl) rfl rfl (fun _ _ _ _ _ h => h) rfl rfl (.inr hS) ?_ | refine WD.skip 9 rfl (by kernel_rfl) rfl rfl (fun _ _ _ _ _ h => h) rfl (.inr hS) ?_); try (first | ((with_reducible refine WD.topT ?_ ?_); omega) | ((with_reducible refine WD.topF ?_ ?_); omega) | ((with_reducible refine WD.top64 ?_ ?_); omega))))
    refine WD.load 10 [11, 12] rfl (by kernel_rfl) rfl rfl (fun _ _ _ _ _ h => h) rfl rfl rfl rfl (fun wx hx => hx.ae) hS ?_
    refine WD.one 3 (by kernel_rfl) rfl ?_
    refine WL.appS rfl rfl rfl rfl rfl hb4 rfl (by rw [List.length_append]; omega) fun b5 w5 hb5 hg5 => ?_
    have g5 := hg4.trans hg5
    refine WL.nil (WQ.dk (.inr (hR g5)) ?_)
    refine WD.one 7 (by kernel_rfl) rfl ?_
    refine WL.call rfl rfl rfl rfl rfl Try.func29 rfl (by kernel_rfl) (number11_any e.ab hb5 hab (by rw [List.length_append, List.length_append, bytesI_len]; omega)) ?_
    rintro _ w6 ⟨b6, rfl, hb6, hg6⟩
    refine ⟨_, rfl, ?_⟩
    have g6 := g5.trans hg6
    refine WL.nil (WQ.dk (.inr (hR g6)) ?_)
    refine WD.one 11 (by kernel_rfl) rfl ?_
    refine WL.call rfl rfl rfl rfl rfl Try.func29 rfl (by kernel_rfl) (number11_any e.ae hb6 hae (by rw [List.length_append, List.length_append, List.length_append, bytesI_len]; omega)) ?_
    rintro _ w7 ⟨b7, rfl, hb7, hg7⟩
    refine ⟨_, rfl, ?_⟩
    have g7 := g6.trans hg7
    refine WL.nil (WQ.dk (.inl rfl) ?_)
    refine WD.one 12 (by kernel_rfl) rfl ?_
    refine WL.pure rfl rfl rfl rfl ?_
    refine WL.nil (WQ.dk (.inl rfl) ?_)
    refine WD.done (by kernel_rfl) ?_
    repeat (first | ((with_reducible refine WL.topT ?_ ?_); omega) | ((with_reducible refine WL.topF ?_ ?_); omega) | ((with_reducible refine WL.top64 ?_ ?_); omega) | refine WC.seq ?_ | refine WC.block ?_ | refine WC.region ?_ | refine WL.nil ?_ | refine WC.skip ?_ | refine WC.exit ?_ | refine WC.ret ?_ | refine WQ.then rfl ?_ | refine WQ.thenExit ?_ | refine WQ.thenRet ?_ | refine WQ.blk ?_ | refine WQ.blkRet ?_ | refine WQ.blkHere rfl ?_ | refine WQ.blkOther rfl ?_ | refine WL.pure rfl rfl rfl rfl ?_ | refine WL.on rfl rfl ?_ | refine WL.off rfl rfl rfl ?_ | refine WC.condTrue rfl ?_ | refine WC.condFalse rfl ?_)
    refine WL.load rfl rfl rfl rfl rfl rfl (hR g7).kind ?_
    have hb7' : Bu w7 b7 (M ++ ((N.take 4).flatMap (fun n => uvB n.toNat) ++ (byI e.text ++ (uvB e.ab.toNat ++ uvB e.ae.toNat)))) := by simpa [List.append_assoc, bytesI, byI] using hb7
    by_cases k2 : e.kind = 2
    · repeat (first | ((with_reducible refine WL.topT ?_ ?_); omega) | ((with_reducible refine WL.topF ?_ ?_); omega) | ((with_reducible refine WL.top64 ?_ ?_); omega) | refine WC.seq ?_ | refine WC.block ?_ | refine WC.region ?_ | refine WL.nil ?_ | refine WC.skip ?_ | refine WC.exit ?_ | refine WC.ret ?_ | refine WQ.then rfl ?_ | refine WQ.thenExit ?_ | refine WQ.thenRet ?_ | refine WQ.blk ?_ | refine WQ.blkRet ?_ | refine WQ.blkHere rfl ?_ | refine WQ.blkOther rfl ?_ | refine WL.pure rfl rfl rfl rfl ?_ | refine WL.on rfl rfl ?_ | refine WL.off rfl rfl rfl ?_ | refine WC.condTrue rfl ?_ | refine WC.condFalse rfl ?_)
      refine WL.all rfl rfl rfl rfl rfl rfl ?_
      refine WL.app rfl rfl rfl rfl rfl hb7' rfl (hash_sl (hR g7).hash hh (hR g7).blk.lt) (by simp only [List.length_append]; omega) fun b8 w8 hb8 hg8 => ?_
      repeat (first | ((with_reducible refine WL.topT ?_ ?_); omega) | ((with_reducible refine WL.topF ?_ ?_); omega) | ((with_reducible refine WL.top64 ?_ ?_); omega) | refine WC.seq ?_ | refine WC.block ?_ | refine WC.region ?_ | refine WL.nil ?_ | refine WC.skip ?_ | refine WC.exit ?_ | refine WC.ret ?_ | refine WQ.then rfl ?_ | refine WQ.thenExit ?_ | refine WQ.thenRet ?_ | refine WQ.blk ?_ | refine WQ.blkRet ?_ | refine WQ.blkHere rfl ?_ | refine WQ.blkOther rfl ?_ | refine WL.pure rfl rfl rfl rfl ?_ | refine WL.on rfl rfl ?_ | refine WL.off rfl rfl rfl ?_ | refine WC.condTrue rfl ?_ | refine WC.condFalse rfl ?_)
      refine WQ.ret1 rfl rfl (fin ?_ (g7.trans hg8))
      rw [hML, if_pos k2]
      simpa [List.append_assoc] using hb8
    · repeat (first | ((with_reducible refine WL.topT ?_ ?_); omega) | ((with_reducible refine WL.topF ?_ ?_); omega) | ((with_reducible refine WL.top64 ?_ ?_); omega) | refine WC.seq ?_ | refine WC.block ?_ | refine WC.region ?_ | refine WL.nil ?_ | refine WC.skip ?_ | refine WC.exit ?_ | refine WC.ret ?_ | refine WQ.then rfl ?_ | refine WQ.thenExit ?_ | refine WQ.thenRet ?_ | refine WQ.blk ?_ | refine WQ.blkRet ?_ | refine WQ.blkHere rfl ?_ | refine WQ.blkOther rfl ?_ | refine WL.pure rfl rfl rfl rfl ?_ | refine WL.on rfl rfl ?_ | refine WL.off rfl rfl rfl ?_ | refine WC.condTrue rfl ?_ | refine WC.condFalse rfl ?_)
      refine WQ.ret1 rfl rfl (fin ?_ g7)
      rw [hML, if_neg k2, List.append_nil]
      exact hb7'
end K
end Go.Proofs.Ytlamdhekjlnccaa
