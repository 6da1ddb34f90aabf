/- Several texts in one; nothing here is a statement on the program. -/
import Derived.Test.YtcpfkkppfgolaaaGreatDoorTTR6
set_option linter.unusedVariables false
set_option linter.unusedSimpArgs false
namespace Go.Proofs.YtcpfkkppfgolaaaGreatDoor
open Go GW Go.Proofs
attribute [local irreducible] bnd ldV stV ifV binV eqI
set_option maxRecDepth 20000
def initW : Nat → List Int
  | 0 => (List.replicate 634 0).set 16 4
  | k + 1 => (initW k).set (17 + k) ((k + 2) * 4)
def initA (k : Nat) : Ar := ⟨initW k, List.replicate 8 0, false⟩
def newAr : Ar := initA 11
theorem initW_len : ∀ k, (initW k).length = 634 := by
  intro k
  induction k with
  | zero => simp [initW]
  | succ k ih => simp [initW, ih]
theorem initA_ok : ∀ k, k ≤ 11 → (initA k).ok := by
  intro k
  induction k with
  | zero =>
    intro _
    refine ⟨initW_len _, rfl, fun x hx => ?_⟩
    rcases List.mem_or_eq_of_mem_set hx with q | q
    · rw [(List.mem_replicate.1 q).2]; exact zero64
    · subst q; constructor <;> decide
  | succ k ih =>
    intro hk
    refine ⟨initW_len _, rfl, fun x hx => ?_⟩
    rcases List.mem_or_eq_of_mem_set hx with q | q
    · exact (ih (by omega)).range x q
    · subst q; constructor <;> omega
section
variable {a b : Nat} {A : Ar} {R : List Part} {h : GH} {K : Value → GH → Prop} {T' : TypeId}
theorem stw {i o : Nat} {x : Int} {C : GH → Prop} (hp : All (arP T' b A :: R) h) (hi : i < 634) (ho : o = i) (hx : I64 x) (k : ∀ h', All (arP T' b ⟨A.ws.set i x, A.last, A.any⟩ :: R) h' → C h') : bnd (stV 1 (.pointer (some ⟨b, o, none⟩)) (i64 x) h) C := by
  subst ho
  obtain ⟨hb, ok⟩ := arP.at hp
  refine bnd_of (stV_row hb 1 o (i64 x) rfl (by rw [ok.len]; omega) rfl) ?_
  have e : setCells A.cells o (i64 x).cells.toList = (Ar.mk (A.ws.set o x) A.last A.any).cells := Ar.set_word ok hi x
  rw [e]
  refine k _ (arP.upd hp ⟨by rw [List.length_set]; exact ok.words, ok.touch, fun y hy => ?_⟩)
  rcases List.mem_or_eq_of_mem_set hy with q | q
  · exact ok.range y q
  · subst q; exact hx
theorem zeroCells : (List.replicate 642 (Value.int .i64 0) ++ [Value.bool false]) = (Ar.mk (List.replicate 634 0) (List.replicate 8 0) false).cells := by
  unfold Ar.cells
  rw [List.map_replicate, List.map_replicate, ← List.append_assoc, List.replicate_append_replicate]
theorem zero_ok : (Ar.mk (List.replicate 634 0) (List.replicate 8 0) false).ok :=
  ⟨by simp, by simp, fun x hx => by rw [(List.mem_replicate.1 hx).2]; exact zero64⟩
theorem nwAr {K : Value → GH → Prop} (hp : All R h) (k : ∀ b h', All (arP T' b (Ar.mk (List.replicate 634 0) (List.replicate 8 0) false) :: R) h' → K (ptr b) h') : newV T' ((.agg (List.replicate 642 (Value.int .i64 0) ++ [Value.bool false]).toArray) : Value).cells.toList h K := by
  refine nw hp (.row T' (Ar.mk (List.replicate 634 0) (List.replicate 8 0) false).cells 643 true) ?_ fun b h' hp => k b h' (hp.head fun _ z => ⟨z, zero_ok⟩)
  have e : ((.agg (List.replicate 642 (Value.int .i64 0) ++ [Value.bool false]).toArray) : Value).cells.toList = (Ar.mk (List.replicate 634 0) (List.replicate 8 0) false).cells := zeroCells
  rw [e, zero_ok.len]
theorem T_arenaNew (hp : All R h) (hK : ∀ b h', All (arP 142 b newAr :: R) h' → K (ptr b) h') : T Tryz.prog 49 [] h K := by
  apply S49_T
  unfold S49
  refine bnd_of (v := List.replicate 642 (Value.int .i64 0) ++ [Value.bool false]) rfl ?_
  refine nwAr hp fun b h1 hp => ?_
  refine wk ?_
  refine T_Of (by decide) (by decide) ?_
  refine bnd_of (iaV_at (i := 16) (by decide) .i64) ?_
  refine stw (i := 16) hp (by decide) (by omega) (by constructor <;> decide) fun h2 hp => ?_
  refine Lfp_fam (ι := Nat) (fun k => [ptr b, i64 k]) (fun k h' => k ≤ 11 ∧ All (arP 142 b (initA k) :: R) h') (fun k => 11 - k) ?_ 0 h2 ⟨by omega, hp⟩
  intro k h3 X ⟨hk, hp⟩ again
  simp only [tup_zero, tup_succ]
  refine wk ?_
  refine ifV_cases (fun c => ?_) fun c => ?_
  · refine wk ?_
    refine T_Of (by omega) (by omega) ?_
    have e : (17 : Int) + k = ((17 + k : Nat) : Int) := by omega
    rw [e]
    refine bnd_of (iaV_at (i := 17 + k) (by omega) .i64) ?_
    refine stw (i := 17 + k) hp (by omega) (by omega) (by constructor <;> omega) fun h4 hp => ?_
    refine wk ?_
    exact again (k + 1) _ ⟨by omega, hp⟩ (by omega)
  · have : k = 11 := by omega
    subst this
    exact hK b _ hp
theorem flatten_encI (xs : List Int) : (xs.map encI).flatten = xs.map i64 := by
  induction xs with
  | nil => rfl
  | cons x xs ih => rw [List.map_cons, List.flatten_cons, ih]; rfl
theorem arP.rows {P : Part} (hp : All (arP T' b A :: R) h) : rowsAt h 1 (.slice (some ⟨b, 0, none⟩) 634 634) (A.ws.map encI) := by
  obtain ⟨hb, ok⟩ := arP.at hp
  refine rowsAt_of hb (by rw [List.length_map]; exact ok.words) (Nat.le_refl _) (by decide) (fun c hc => (encI_good _ c hc).1) (Nat.zero_le _) ?_
  rw [flatten_encI, List.drop_zero]
  exact ⟨_, rfl⟩
def baseP (g : GH) : Part := fun h => HLe g h
theorem T_CloneInts {v : Value} {xs : List Int} (hp : All R h) (r : ∀ h', All R h' → rowsAt h' 1 v (xs.map encI)) (hb : xs.length * 8 ≤ 140737488355328) (hn : eqK .slice true v (.slice none 0 0) = some false) (hK : ∀ v' h', All (rowP 1 v' (xs.map encI) :: R) h' → K v' h') : T Tryz.prog 57 [v] h K := by
  apply S57_T
  unfold S57
  refine bnd_of hn ?_
  refine wk ?_
  refine bs0 (size := 1) hp [] rfl rfl (by simp) (fun c hc => by cases hc) fun v2 h1 hp => ?_
  refine ap0 hp (r _ hp.tail) (encI_good _) (by decide) (by simpa using hb) fun v' h2 hp => ?_
  exact hK _ _ hp
theorem T_All (hp : All (arP 142 b A :: R) h) (hK : ∀ v' h', All (rowP 1 v' (A.ws.map encI) :: arP 142 b A :: R) h' → K v' h') : T Tryz.prog 29 [ptr b] h K := by
  apply S29_T
  unfold S29
  have ok := (arP.at hp).2
  refine wk ?_
  refine T_CloneInts hp (fun h' hp => arP.rows (P := emp) hp) (by rw [ok.words]; decide) rfl hK
theorem T_Last (hp : All (arP 142 b A :: R) h) (hK : K (.tuple #[.agg (A.last.map i64).toArray, .bool A.any]) h) : T Tryz.prog 53 [ptr b] h K := by
  apply T.drop
  apply S53_T
  unfold S53
  obtain ⟨hb, ok⟩ := arP.at hp
  have hlw : (A.ws.map i64).length = 634 := by rw [List.length_map]; exact ok.words
  have e1 : (A.cells.drop 634).take 8 = A.last.map i64 := by
    unfold Ar.cells
    rw [List.drop_left' hlw, List.take_left' (by rw [List.length_map]; exact ok.touch)]
  have e2 : A.cells[642]? = some (.bool A.any) := by
    unfold Ar.cells
    rw [List.getElem?_append_right (by omega), hlw, List.getElem?_append_right (by rw [List.length_map, ok.touch]; decide), List.length_map, ok.touch]; rfl
  intro c hc
  have hne : b ≠ c := ne_of_fresh hc hb
  refine wk ?_
  refine bnd_of (v := .agg (A.last.map i64).toArray) (by rw [ldV_other hne, ldV_agg hb _ _ (by rw [ok.len]; decide), e1]) ?_
  refine wk ?_
  refine bnd_of (v := .bool A.any) (by rw [ldV_other hne, ldV_cell hb, e2]) ?_
  have hl8 : (A.last.map i64).length = 8 := by rw [List.length_map]; exact ok.touch
  have hones : (A.last.map i64).all oneCell = true := (good_ints (size := 8) ok.touch).2
  refine bnd_of (v := upd h c (.row 105 (A.last.map i64) 8 true)) ?_ ?_
  · rw [stV_same, if_pos ⟨hl8, by simp, hones⟩, show (Value.agg (A.last.map i64).toArray).cells.toList = A.last.map i64 from rfl, setCells_all (by rw [hl8]; rfl)]; rfl
  refine ⟨by rw [ldV_other hne, ldV_cell hb, e2], ?_⟩
  refine bnd_of (v := .agg (A.last.map i64).toArray) (by rw [ldV_same_agg, if_pos (by rw [hl8]; decide), List.drop_zero, ← hl8, List.take_length]) ?_
  exact ⟨h, (HLe.refl h).new _ hc, hK⟩
end
end Go.Proofs.YtcpfkkppfgolaaaGreatDoor
namespace Go.Proofs.YtcpfkkppfgolaaaGreatDoor
open Go GW Go.Proofs
set_option maxRecDepth 20000
structure Sw where
  c : Int
  w : Int
  n : Int
def encS (s : Sw) : List Value := [i64 s.c, i64 s.w, i64 s.n]
theorem encS_good (ts : List Sw) : ∀ c ∈ ts.map encS, good 3 c := by
  intro c hc
  obtain ⟨t, _, rfl⟩ := List.mem_map.1 hc
  exact ⟨rfl, rfl⟩
def Sw.fine (last : Int) (s : Sw) : Prop := last < s.c ∧ s.c < 16 ∧ 0 ≤ s.w ∧ s.w < 1099511627776 ∧ 0 ≤ s.n ∧ s.n < 1099511627776
instance (last : Int) (s : Sw) : Decidable (s.fine last) := by unfold Sw.fine; infer_instance
def swOk (last : Int) : List Sw → Bool
  | [] => true
  | s :: r => decide (s.fine last) && swOk s.c r
def swMay (ds : List Sw) : Bool := decide (ds.length ≤ 16) && swOk (-1) ds
def lifeMay (slot gen : Int) : Bool := decide (0 ≤ slot ∧ slot < 12 ∧ 0 ≤ gen ∧ gen < 65536)
def descRow (g : Int) (ds : List Sw) : List Int := [stateW g 0, (ds.length : Int) * 4] ++ (ds.map fun s => [s.c * 4, s.w * 4, s.n * 4]).flatten
theorem swOk_mem : ∀ {ds : List Sw} {last : Int}, -1 ≤ last → swOk last ds = true → ∀ s ∈ ds, 0 ≤ s.c ∧ s.c < 16 ∧ 0 ≤ s.w ∧ s.w < 1099511627776 ∧ 0 ≤ s.n ∧ s.n < 1099511627776 := by
  intro ds
  induction ds with
  | nil => intro last _ _ s hs; cases hs
  | cons d ds ih =>
    intro last hl h s hs
    unfold swOk at h
    simp only [Bool.and_eq_true, decide_eq_true_eq] at h
    obtain ⟨⟨h1, h2, h3, h4, h5, h6⟩, h7⟩ := h
    rcases List.mem_cons.1 hs with rfl | hs
    · exact ⟨by omega, h2, h3, h4, h5, h6⟩
    · exact ih (by omega) h7 s hs
theorem descRow_len (g : Int) (ds : List Sw) : (descRow g ds).length = 2 + 3 * ds.length := by
  unfold descRow
  rw [List.length_append]
  have : ((ds.map fun s => [s.c * 4, s.w * 4, s.n * 4]).flatten).length = 3 * ds.length := by
    induction ds with
    | nil => rfl
    | cons d ds ih => simp only [List.map_cons, List.flatten_cons, List.length_append, List.length_cons, List.length_nil, ih]; omega
  rw [this]; rfl
theorem descRow_range {g : Int} {ds : List Sw} (g0 : 0 ≤ g) (g1 : g < 65536) (h : swMay ds = true) : ∀ x ∈ descRow g ds, I64 x := by
  unfold swMay at h
  simp only [Bool.and_eq_true, decide_eq_true_eq] at h
  intro x hx
  unfold descRow at hx
  rcases List.mem_append.1 hx with hx | hx
  · simp only [List.mem_cons, List.not_mem_nil, or_false] at hx
    rcases hx with rfl | rfl
    · exact stateW_range g0 g1 (by decide) (by decide)
    · constructor <;> omega
  · obtain ⟨l, hl, hx⟩ := List.mem_flatten.1 hx
    obtain ⟨s, hs, rfl⟩ := List.mem_map.1 hl
    obtain ⟨h1, h2, h3, h4, h5, h6⟩ := swOk_mem (by decide) h.2 s hs
    simp only [List.mem_cons, List.not_mem_nil, or_false] at hx
    rcases hx with rfl | rfl | rfl <;> constructor <;> omega
section
variable {a b : Nat} {A : Ar} {R : List Part} {h : GH} {K : Value → GH → Prop}
theorem swOk_drop {ds : List Sw} {i : Nat} {s : Sw} (hs : ds[i]? = some s) (last : Int) : swOk last (ds.drop i) = (decide (s.fine last) && swOk s.c (ds.drop (i + 1))) := by
  have hi := (List.getElem?_eq_some_iff.1 hs).1
  have e : ds.drop i = s :: ds.drop (i + 1) := by
    rw [List.drop_eq_getElem_cons hi]
    congr 1
    rw [List.getElem?_eq_getElem hi] at hs
    exact Option.some.inj hs
  rw [e]; rfl
end
structure Wr where
  addr : Int
  left : List Int
def Wr.step (w : Wr) (a : Ar) : Wr × Bool × Ar :=
  match w.left with
  | [] => (w, true, a)
  | x :: r => (⟨w.addr + 1, r⟩, r.isEmpty, a.put w.addr x)
structure Wr.ok (w : Wr) : Prop where
  a0 : 0 ≤ w.addr
  a1 : w.addr + w.left.length ≤ 634
  range : ∀ x ∈ w.left, I64 x
theorem Wr.step_ok {w : Wr} {a : Ar} (o : w.ok) (ha : a.ok) : (w.step a).1.ok ∧ (w.step a).2.2.ok := by
  unfold Wr.step
  split
  · exact ⟨o, ha⟩
  · rename_i x r e
    have h1 := o.a1
    have h2 := o.range
    rw [e] at h1 h2
    have h0 := o.a0
    refine ⟨⟨by simp only; omega, by simp only [List.length_cons] at h1; simp only; omega, fun y hy => h2 y (List.mem_cons_of_mem _ hy)⟩, ha.put _ (h2 x (by simp))⟩
def newWr (slot gen : Int) (ds : List Sw) : Wr := ⟨baseOf slot, descRow gen ds⟩
theorem newWr_ok {slot gen : Int} {ds : List Sw} (h1 : lifeMay slot gen = true) (h2 : swMay ds = true) : (newWr slot gen ds).ok := by
  unfold lifeMay at h1
  simp only [decide_eq_true_eq] at h1
  have hl : ds.length ≤ 16 := by unfold swMay at h2; simp only [Bool.and_eq_true, decide_eq_true_eq] at h2; exact h2.1
  refine ⟨?_, ?_, descRow_range h1.2.2.1 h1.2.2.2 h2⟩
  · simp only [newWr, baseOf]; omega
  · simp only [newWr, baseOf, descRow_len]; omega
section
variable {a b : Nat} {A : Ar} {R : List Part} {h : GH} {K : Value → GH → Prop}
end
theorem newAr_ok : newAr.ok := initA_ok 11 (by decide)
section
variable {a b : Nat} {A : Ar} {R : List Part} {h : GH} {K : Value → GH → Prop}
end
theorem plainOf_val {v : Int} (h0 : 0 ≤ v) (h1 : v < 1099511627776) : plainOf (v * 4) = some v := by
  have : read (v * 4) = some (.val v) := read_number (f := .val v) (may_val.2 ⟨h0, h1⟩)
  unfold plainOf; rw [this]
theorem stateW_val {g st : Int} (h0 : 0 ≤ g) (h1 : g < 65536) (h2 : 0 ≤ st) (h3 : st < 4) : (plainOf (stateW g st)).isSome = true := by
  unfold stateW; rw [plainOf_val (by omega) (by omega)]; rfl
section
variable {t q : Int} {A : Ar} {w : Wh} {st : Int} {ds : List Sw}
variable {k : Nat} {d : Sw}
end
def eachP {α β : Type} (P : α → β → Part) : List α → List β → Part
  | [], [] => emp
  | a :: xs, b :: ys => fun h => All [P a b, eachP P xs ys] h
  | _, _ => fun _ => False
section
variable {α β : Type} {P : α → β → Part} {R : List Part} {h : GH}
theorem eachP_len : ∀ {xs : List α} {ys : List β} {h : GH}, eachP P xs ys h → xs.length = ys.length := by
  intro xs
  induction xs with
  | nil => intro ys h p; cases ys with
    | nil => rfl
    | cons b ys => exact p.elim
  | cons a xs ih => intro ys h p; cases ys with
    | nil => exact p.elim
    | cons b ys =>
      obtain ⟨h1, h2, _, _, _, _, q⟩ := p
      obtain ⟨h1, h2, _, _, _, q, _⟩ := q
      simp [ih q]
theorem eachP_at : ∀ {k : Nat} {xs : List α} {ys : List β} {a : α} {b : β} {R : List Part} {h : GH}, xs[k]? = some a → ys[k]? = some b → All (eachP P xs ys :: R) h → All (P a b :: eachP P (xs.eraseIdx k) (ys.eraseIdx k) :: R) h := by
  intro k
  induction k with
  | zero =>
    intro xs ys a b R h ea eb hp
    cases xs with
    | nil => simp at ea
    | cons a' xs => cases ys with
      | nil => simp at eb
      | cons b' ys =>
        simp at ea eb
        subst ea eb
        exact All.flat hp
  | succ k ih =>
    intro xs ys a b R h ea eb hp
    cases xs with
    | nil => simp at ea
    | cons a' xs => cases ys with
      | nil => simp at eb
      | cons b' ys =>
        have hp1 : All (P a' b' :: eachP P xs ys :: R) h := All.flat hp
        have hp2 := hp1.mono2 fun _ z => ih (by simpa using ea) (by simpa using eb) z
        have hp3 : All (P a b :: P a' b' :: eachP P (xs.eraseIdx k) (ys.eraseIdx k) :: R) h := hp2.up 1
        exact hp3.mono2 fun _ z => All.fold (l := [_, _]) z
theorem eachP_put : ∀ {k : Nat} {xs : List α} {ys : List β} {a : α} {b : β} {R : List Part} {h : GH}, xs[k]? = some a → k < ys.length → All (P a b :: eachP P (xs.eraseIdx k) (ys.eraseIdx k) :: R) h → All (eachP P xs (ys.set k b) :: R) h := by
  intro k
  induction k with
  | zero =>
    intro xs ys a b R h ea eb hp
    cases xs with
    | nil => simp at ea
    | cons a' xs => cases ys with
      | nil => simp at eb
      | cons b' ys =>
        simp at ea
        subst ea
        exact All.fold (l := [_, _]) hp
  | succ k ih =>
    intro xs ys a b R h ea eb hp
    cases xs with
    | nil => simp at ea
    | cons a' xs => cases ys with
      | nil => simp at eb
      | cons b' ys =>
        have hp1 : All (P a b :: P a' b' :: eachP P (xs.eraseIdx k) (ys.eraseIdx k) :: R) h := hp.mono2 fun _ z => All.flat z
        have hp2 : All (P a' b' :: P a b :: eachP P (xs.eraseIdx k) (ys.eraseIdx k) :: R) h := hp1.up 1
        have hp3 := hp2.mono2 fun _ z => ih (by simpa using ea) (by simpa using eb) z
        exact All.fold (l := [_, _]) hp3
theorem eachP_snoc : ∀ {xs : List α} {ys : List β} {a : α} {b : β} {R : List Part} {h : GH}, All (P a b :: eachP P xs ys :: R) h → All (eachP P (xs ++ [a]) (ys ++ [b]) :: R) h := by
  intro xs
  induction xs with
  | nil =>
    intro ys a b R h hp
    cases ys with
    | nil => exact All.fold (l := [_, _]) hp
    | cons b' ys => exact (All.case (hp.up 1) fun h1 p _ => p.elim)
  | cons a' xs ih =>
    intro ys a b R h hp
    cases ys with
    | nil => exact (All.case (hp.up 1) fun h1 p _ => p.elim)
    | cons b' ys =>
      have hp1 : All (P a b :: P a' b' :: eachP P xs ys :: R) h := hp.mono2 fun _ z => All.flat z
      have hp2 : All (P a' b' :: P a b :: eachP P xs ys :: R) h := hp1.up 1
      have hp3 := hp2.mono2 fun _ z => ih z
      exact All.fold (l := [_, _]) hp3
end
def encP (b : Nat) : List Value := [ptr b]
theorem encP_good (bs : List Nat) : ∀ c ∈ bs.map encP, good 1 c := by
  intro c hc
  obtain ⟨t, _, rfl⟩ := List.mem_map.1 hc
  exact ⟨rfl, rfl⟩
theorem baseP.le {g : GH} {R : List Part} {h : GH} (hp : All (baseP g :: R) h) : HLe g h := by
  obtain ⟨h1, h2, _, l1, _, p, _⟩ := hp
  exact p.trans l1
section
variable {a b c : Nat} {A B : Ar} {R : List Part} {h : GH} {K : Value → GH → Prop} {H : Help}
end
attribute [local irreducible] bnd ldV stV ifV binV eqI
structure Rd where
  t : Int
  q : Int
  cell : Int
  value : Int
  help : Option Help
  slot : Int
  gen : Int
  over : Bool
def Rd.new (t q c : Int) : Rd := ⟨t, q, c, 0, none, -1, 0, false⟩
def Rd.may (t q c : Int) : Prop := (0 ≤ t ∧ t < 4) ∧ (0 ≤ q ∧ q < 1048576) ∧ 0 ≤ c ∧ c < 16
def Rd.load (r : Rd) (A : Ar) : Rd × Int × Ar :=
  match plainOf (A.at r.cell) with
  | some v => ({ r with slot := -1, gen := 0, value := v, over := true }, 0, A.ld r.cell)
  | none => match newHelp r.t r.q (A.at r.cell) with
    | some H => ({ r with slot := -1, gen := 0, help := some H }, 0, A.ld r.cell)
    | none => ({ r with slot := -1, gen := 0, over := true }, 1500, A.ld r.cell)
def Rd.helping (r : Rd) (H : Help) (A : Ar) : Rd × Int × Ar :=
  ({ r with slot := (H.step A).1.slot, gen := (H.step A).1.gen, q := (H.step A).1.q, help := if (H.step A).1.over then none else some (H.step A).1, over := !decide ((H.step A).2.1 = 0) }, if (H.step A).2.1 = 0 then 0 else 1500, (H.step A).2.2)
def Rd.step (r : Rd) (A : Ar) : Rd × Int × Ar :=
  if r.over then (r, 0, A) else
  match r.help with
  | some H => r.helping H A
  | none => r.load A
structure Rd.ok (r : Rd) : Prop where
  t0 : 0 ≤ r.t
  t1 : r.t < 4
  q0 : 0 ≤ r.q
  q1 : r.q < 1048576
  c0 : 0 ≤ r.cell
  c1 : r.cell < 16
  help : ∀ H, r.help = some H → H.ok ∧ H.over = false
theorem Rd.new_ok {t q c : Int} (m : Rd.may t q c) : (Rd.new t q c).ok := ⟨m.1.1, m.1.2, m.2.1.1, m.2.1.2, m.2.2.1, m.2.2.2, fun H h => by cases h⟩
theorem newHelp_live {t q x : Int} {H : Help} (e : newHelp t q x = some H) : H.over = false := by
  unfold newHelp at e
  split at e
  · split at e
    · cases e; rfl
    · cases e
  · cases e
theorem Rd.step_ok {r : Rd} {A : Ar} (o : r.ok) (hA : A.ok) : (r.step A).1.ok ∧ (r.step A).2.2.ok := by
  unfold Rd.step
  split
  · exact ⟨o, hA⟩
  · split
    · rename_i H e
      have h := o.help H e
      have s := Help.step_ok h.1 hA
      refine ⟨⟨o.t0, o.t1, s.1.q0, s.1.q1, o.c0, o.c1, fun G e => ?_⟩, s.2⟩
      simp only [Rd.helping] at e
      split at e
      · cases e
      · rename_i n; cases e; exact ⟨s.1, by simpa using n⟩
    · unfold Rd.load
      split
      · exact ⟨⟨o.t0, o.t1, o.q0, o.q1, o.c0, o.c1, o.help⟩, hA.ld _⟩
      · split
        · rename_i H e
          exact ⟨⟨o.t0, o.t1, o.q0, o.q1, o.c0, o.c1, fun G g => by cases g; exact ⟨newHelp_ok e, newHelp_live e⟩⟩, hA.ld _⟩
        · exact ⟨⟨o.t0, o.t1, o.q0, o.q1, o.c0, o.c1, o.help⟩, hA.ld _⟩
def rdRow (r : Rd) (hv : Value) : GObj := .row 317 [i64 r.t, i64 r.q, i64 r.cell, i64 r.value, hv, i64 r.slot, i64 r.gen, .bool r.over] 8 true
def hvP (P : Nat → Help → Part) (hv : Value) : Option Help → Part
  | none => fun _ => hv = .pointer none
  | some H => fun h => ∃ b, hv = ptr b ∧ P b H h
def readP (b : Nat) (r : Rd) : Part := fun h => ∃ hv, All [pts b (rdRow r hv), hvP helpP hv r.help] h
section
variable {a b c : Nat} {A : Ar} {R : List Part} {h : GH} {K : Value → GH → Prop} {r : Rd}
theorem readP_open {C : Prop} (hp : All (readP b r :: R) h) (k : ∀ hv, All (pts b (rdRow r hv) :: hvP helpP hv r.help :: R) h → C) : C := by
  obtain ⟨hv, hp⟩ := All.ex hp
  exact k hv (All.flat hp)
theorem readP_shut {hv : Value} (hp : All (pts b (rdRow r hv) :: hvP helpP hv r.help :: R) h) : All (readP b r :: R) h := (All.fold (l := [_, _]) hp).head fun h1 z => ⟨hv, z⟩
theorem hvP_none {P : Nat → Help → Part} {hv : Value} {X : Part} (hp : All (X :: hvP P hv none :: R) h) : hv = .pointer none := All.case (hp.up 1) fun h1 p _ => p
theorem hvP_some {P : Nat → Help → Part} {hv : Value} {H : Help} {X : Part} (hp : All (X :: hvP P hv (some H) :: R) h) : ∃ hb, hv = ptr hb ∧ All (X :: P hb H :: R) h := by
  obtain ⟨hb, hp1⟩ := All.ex (hp.up 1)
  obtain ⟨e, hp1⟩ := All.pure hp1
  exact ⟨hb, e, hp1.up 1⟩
theorem hvP_mk {P : Nat → Help → Part} {H : Help} {X : Part} {hb : Nat} (hp : All (X :: P hb H :: R) h) : All (X :: hvP P (ptr hb) (some H) :: R) h := hp.mono2 fun _ z => z.head fun _ p => ⟨hb, rfl, p⟩
theorem hvP_no {P : Nat → Help → Part} {X : Part} (hp : All (X :: R) h) : All (X :: hvP P (.pointer none) none :: R) h := hp.mono2 fun _ z => All.emp_cons z rfl
theorem T_readNew {t q x : Int} (hp : All R h) (kn : ¬ Rd.may t q x → ∀ h', All R h' → K (.tuple #[.pointer none, i64 1500]) h') (ky : Rd.may t q x → ∀ b h', All (readP b (.new t q x) :: R) h' → K (.tuple #[ptr b, i64 0]) h') : T Tryz.prog 176 [i64 t, i64 q, i64 x] h K := by
  apply S176_T
  unfold S176
  refine T_ThreadMay ?_
  refine wk ?_
  refine ifN_cases (fun c => ?_) fun c => ?_
  · exact kn (fun m => c m.1) _ hp
  refine T_Below ?_
  refine wk ?_
  refine ifN_cases (fun c2 => ?_) fun c2 => ?_
  · exact kn (fun m => c2 m.2.1) _ hp
  refine T_Below ?_
  refine wk ?_
  refine ifN_cases (fun c3 => ?_) fun c3 => ?_
  · exact kn (fun m => c3 m.2.2) _ hp
  refine wk ?_
  refine nw hp (rdRow (.new t q x) (.pointer none)) rfl fun b h1 hp => ?_
  exact ky ⟨c, c2, c3⟩ b _ (readP_shut (hvP_no hp))
theorem T_rdValue (hp : All (readP b r :: R) h) (hK : K (i64 r.value) h) : T Tryz.prog 179 [ptr b] h K := by
  apply S179_T
  unfold S179
  refine readP_open hp fun hv hp => ?_
  refine wk ?_
  exact hK
theorem T_rdSeq (hp : All (readP b r :: R) h) (hK : K (i64 r.q) h) : T Tryz.prog 237 [ptr b] h K := by
  apply S237_T
  unfold S237
  refine readP_open hp fun hv hp => ?_
  refine wk ?_
  exact hK
theorem T_rdThrough (hp : All (readP b r :: R) h) (hK : K (.tuple #[i64 r.slot, i64 r.gen]) h) : T Tryz.prog 239 [ptr b] h K := by
  apply S239_T
  unfold S239
  refine readP_open hp fun hv hp => ?_
  refine wk ?_
  exact hK
end
end Go.Proofs.YtcpfkkppfgolaaaGreatDoor
namespace Go.Proofs.YtcpfkkppfgolaaaGreatDoor
open Go GW Go.Proofs
attribute [local irreducible] bnd ldV stV ifV binV eqI
set_option maxRecDepth 20000
def Half (o : Rd × Int × Ar) (e : Int) (r' : Rd) : Prop := (e = 0 ∧ o.2.1 = 0 ∧ r' = o.1) ∨ (e ≠ 0 ∧ o.2.1 = 1500 ∧ { r' with over := true } = o.1)
section
variable {a b c : Nat} {A : Ar} {R : List Part} {h : GH} {K : Value → GH → Prop} {r : Rd}
theorem T_rdLoad (hp : All (arP 142 a A :: readP b r :: R) h) (ok : r.ok) (hn : r.help = none) (hf : r.over = false)
    (hK : ∀ h' e r', Half (r.load A) e r' → All (readP b r' :: arP 142 a (r.load A).2.2 :: R) h' → K (i64 e) h') : T Tryz.prog 240 [ptr b, ptr a] h K := by
  apply S240_T
  unfold S240
  refine readP_open (hp.up 1) fun hv hp => ?_
  obtain ⟨t, q, cell, value, help, slot, gen, over⟩ := r
  simp only at hn hf
  subst hn hf
  obtain rfl := hvP_none hp
  refine wk ?_
  have hA := (arP.at (hp.up 2)).2
  have hx := Ar.at_range hA cell
  refine L_Load (hp.up 2) ok.c0 (by have := ok.c1; simp only at this ⊢; omega) fun h1 hp => ?_
  replace hp := hp.up 1
  refine wk ?_
  refine st0 hp (rdRow ⟨t, q, cell, value, none, -1, gen, false⟩ (.pointer none)) rfl (by simp) rfl rfl fun h2 hp => ?_
  refine wk ?_
  refine st0 hp (rdRow ⟨t, q, cell, value, none, -1, 0, false⟩ (.pointer none)) rfl (by simp) rfl rfl fun h3 hp => ?_
  refine T_Plain hx.2 ?_
  unfold Rd.load at hK
  simp only at hK
  cases hv : plainOf (A.at cell) with
  | some v =>
    rw [hv] at hK
    simp only [Option.getD_some, Option.isSome_some]
    refine wk ?_
    refine st0 hp (rdRow ⟨t, q, cell, v, none, -1, 0, false⟩ (.pointer none)) rfl (by simp) rfl rfl fun h4 hp => ?_
    refine wk ?_
    refine st0 hp (rdRow ⟨t, q, cell, v, none, -1, 0, true⟩ (.pointer none)) rfl (by simp) rfl rfl fun h5 hp => ?_
    exact hK _ 0 _ (.inl ⟨rfl, rfl, rfl⟩) (readP_shut (hv := .pointer none) (hvP_no (hp.re 3 [0, 1])))
  | none =>
    rw [hv] at hK
    simp only [Option.getD_none, Option.isSome_none]
    refine wk ?_
    refine T_New hp hx (fun en h4 hp => ?_) fun H en hb h4 hp => ?_
    · rw [en] at hK
      refine wk ?_
      refine st0 hp (rdRow ⟨t, q, cell, value, none, -1, 0, false⟩ (.pointer none)) rfl (by simp) rfl rfl fun h5 hp => ?_
      exact hK _ 1400 ⟨t, q, cell, value, none, -1, 0, false⟩ (.inr ⟨by decide, rfl, rfl⟩) (readP_shut (hv := .pointer none) (hvP_no (hp.re 3 [0, 1])))
    · rw [en] at hK
      replace hp := hp.up 1
      refine wk ?_
      refine st0 hp (rdRow ⟨t, q, cell, value, some H, -1, 0, false⟩ (ptr hb)) rfl (by simp) rfl rfl fun h5 hp => ?_
      exact hK _ 0 _ (.inl ⟨rfl, rfl, rfl⟩) (readP_shut (hvP_mk (hp.re 4 [0, 1, 2])))
theorem T_rdHelping {H : Help} (hp : All (arP 142 a A :: readP b r :: R) h) (ok : r.ok) (hn : r.help = some H) (hf : r.over = false)
    (hK : ∀ h' e r', Half (r.helping H A) e r' → All (readP b r' :: arP 142 a (r.helping H A).2.2 :: R) h' → K (i64 e) h') : T Tryz.prog 241 [ptr b, ptr a] h K := by
  apply S241_T
  unfold S241
  refine readP_open (hp.up 1) fun hv hp => ?_
  have hG := (ok.help H hn).1
  obtain ⟨t, q, cell, value, help, slot, gen, over⟩ := r
  simp only at hn hf
  subst hn hf
  obtain ⟨hb, rfl, hp⟩ := hvP_some hp
  refine wk ?_
  replace hp : All (arP 142 a A :: helpP hb H :: pts b (rdRow ⟨t, q, cell, value, some H, slot, gen, false⟩ (ptr hb)) :: R) h := hp.re 3 [2, 1, 0]
  refine T_Step hp hG fun h1 hp => ?_
  unfold Rd.helping at hK
  simp only at hK
  generalize H.step A = p at hp hK ⊢
  obtain ⟨G, e, B⟩ := p
  simp only at hp hK ⊢
  replace hp : All (pts b (rdRow ⟨t, q, cell, value, some H, slot, gen, false⟩ (ptr hb)) :: helpP hb G :: arP 142 a B :: R) h1 := hp.re 3 [2, 1, 0]
  refine wk ?_
  refine T_Through (hp.up 1) ?_
  refine wk ?_
  refine st0 hp (rdRow ⟨t, q, cell, value, some H, G.slot, gen, false⟩ (ptr hb)) rfl (by simp) rfl rfl fun h2 hp => ?_
  refine wk ?_
  refine st0 hp (rdRow ⟨t, q, cell, value, some H, G.slot, G.gen, false⟩ (ptr hb)) rfl (by simp) rfl rfl fun h3 hp => ?_
  refine wk ?_
  refine T_Seq (hp.up 1) ?_
  refine wk ?_
  refine st0 hp (rdRow ⟨t, G.q, cell, value, some H, G.slot, G.gen, false⟩ (ptr hb)) rfl (by simp) rfl rfl fun h4 hp => ?_
  have half : ∀ o, Half (({ t := t, q := G.q, cell := cell, value := value, help := o, slot := G.slot, gen := G.gen, over := !decide (e = 0) } : Rd), (if e = 0 then 0 else 1500), B) e ⟨t, G.q, cell, value, o, G.slot, G.gen, false⟩ := by
    intro o
    by_cases c : e = 0
    · refine .inl ⟨c, if_pos c, ?_⟩
      rw [decide_eq_true c]; rfl
    · refine .inr ⟨c, if_neg c, ?_⟩
      rw [decide_eq_false c]; rfl
  cases ho : G.over with
  | true =>
    rw [ho] at hK
    simp only [if_true] at hK
    refine wk ?_
    refine st0 hp (rdRow ⟨t, G.q, cell, value, none, G.slot, G.gen, false⟩ (.pointer none)) rfl (by simp) rfl rfl fun h5 hp => ?_
    exact hK _ e _ (half none) (readP_shut (hv := .pointer none) (hvP_no (hp.re 3 [0, 2])))
  | false =>
    rw [ho] at hK
    simp only [Bool.false_eq_true, if_false] at hK
    refine wk ?_
    exact hK _ e _ (half (some G)) (readP_shut (hvP_mk hp))
theorem T_rdStep (hp : All (arP 142 a A :: readP b r :: R) h) (ok : r.ok)
    (hK : ∀ h', All (arP 142 a (r.step A).2.2 :: readP b (r.step A).1 :: R) h' → K (.tuple #[.bool (r.step A).1.over, i64 (r.step A).2.1]) h') : T Tryz.prog 238 [ptr b, ptr a] h K := by
  apply S238_T
  unfold S238
  refine wk ?_
  unfold S238_j1
  refine readP_open (hp.up 1) fun hv hp => ?_
  refine wk ?_
  unfold Rd.step at hK
  cases hov : r.over with
  | true =>
    rw [hov] at hK
    simp only [if_true] at hK
    refine wk ?_
    have := hK h ((readP_shut hp).up 1)
    rw [hov] at this
    exact this
  | false =>
    rw [hov] at hK
    simp only [Bool.false_eq_true, if_false] at hK
    refine wk ?_
    unfold S238_j2
    refine wk ?_
    have j3 : ∀ (o : Rd × Int × Ar) (f : Nat), (∀ h', All (arP 142 a o.2.2 :: readP b o.1 :: R) h' → K (.tuple #[.bool o.1.over, i64 o.2.1]) h') →
        (∀ K' : Value → GH → Prop, (∀ h' e r', Half o e r' → All (readP b r' :: arP 142 a o.2.2 :: R) h' → K' (i64 e) h') → T Tryz.prog f [ptr b, ptr a] h K') → S238_j3 (ptr b) (ptr a) (.func (.func f) #[ptr b] #[]) h K := by
      intro o f hK hT
      unfold S238_j3
      refine hT _ fun h' e r' hf hp => ?_
      refine readP_open hp fun hv hp => ?_
      refine wk ?_
      rcases hf with ⟨rfl, e1, rfl⟩ | ⟨e0, e1, er⟩
      · refine wk ?_
        have := hK h' ((readP_shut hp).up 1)
        rw [e1] at this
        exact this
      · refine ifN_cases (fun _ => ?_) fun q => absurd q e0
        refine wk ?_
        refine st0 hp (rdRow { r' with over := true } hv) rfl (by simp) rfl rfl fun h5 hp => ?_
        have z : All (readP b { r' with over := true } :: arP 142 a o.2.2 :: R) h5 := readP_shut hp
        rw [er] at z
        have := hK h5 (z.up 1)
        rw [e1, ← er] at this
        exact this
    cases hh : r.help with
    | some H =>
      rw [hh] at hK
      have hp' := hp
      rw [hh] at hp'
      obtain ⟨hb, rfl, _⟩ := hvP_some hp'
      clear hp'
      refine wk ?_
      exact j3 _ _ hK fun K' hK' => T_rdHelping ((readP_shut hp).up 1) ok hh hov hK'
    | none =>
      rw [hh] at hK
      have hp' := hp
      rw [hh] at hp'
      obtain rfl := hvP_none hp'
      clear hp'
      refine wk ?_
      exact j3 _ _ hK fun K' hK' => T_rdLoad ((readP_shut hp).up 1) ok hh hov hK'
end
end Go.Proofs.YtcpfkkppfgolaaaGreatDoor
namespace Go.Proofs.YtcpfkkppfgolaaaGreatDoor
open Go GW Go.Proofs
structure Op where
  kind : Int
  a : Int
  b : Int
  x : Int
def Op.ints (t : Op) : List Int := [t.kind, t.a, t.b, t.x]
def Op.enc (t : Op) : List Value := [i64 t.kind, i64 t.a, i64 t.b, i64 t.x]
theorem Op.ext_ints {a b : Op} (h : a.ints = b.ints) : a = b := by
  cases a; cases b; simpa [Op.ints] using h
instance : DecidableEq Op := fun a b => if h : a.ints = b.ints then .isTrue (Op.ext_ints h) else .isFalse fun e => h (by rw [e])
theorem Op.enc_good (t : Op) : good 4 t.enc := ⟨rfl, rfl⟩
theorem Op.all_good (ts : List Op) : ∀ c ∈ ts.map Op.enc, good 4 c := by
  intro c hc
  obtain ⟨t, _, rfl⟩ := List.mem_map.1 hc
  exact t.enc_good
def All2 {α β : Type} (R : α → β → Prop) (xs : List α) (ys : List β) : Prop := xs.length = ys.length ∧ ∀ (i : Nat) x y, xs[i]? = some x → ys[i]? = some y → R x y
theorem All2.mono {α β : Type} {R S : α → β → Prop} {xs : List α} {ys : List β} (a : All2 R xs ys) (h : ∀ x y, R x y → S x y) : All2 S xs ys := ⟨a.1, fun i x y hx hy => h x y (a.2 i x y hx hy)⟩
theorem All2.of {α β : Type} {R : α → β → Prop} {Q : α → Prop} (h : ∀ x, Q x → ∃ y, R x y) : ∀ (xs : List α), (∀ x ∈ xs, Q x) → ∃ ys, All2 R xs ys := by
  intro xs
  induction xs with
  | nil => intro _; exact ⟨[], rfl, fun i x y hx => by simp at hx⟩
  | cons x xs ih =>
    intro hq
    obtain ⟨y, hy⟩ := h x (hq x (by simp))
    obtain ⟨ys, h1, h2⟩ := ih fun z hz => hq z (List.mem_cons_of_mem _ hz)
    refine ⟨y :: ys, by simp [h1], fun i a b ha hb => ?_⟩
    cases i with
    | zero => simp at ha hb; subst ha; subst hb; exact hy
    | succ i => exact h2 i a b (by simpa using ha) (by simpa using hb)
theorem All2.get {α β : Type} {R : α → β → Prop} {xs : List α} {ys : List β} (a : All2 R xs ys) {i : Nat} {y : β} (hy : ys[i]? = some y) : ∃ x, xs[i]? = some x ∧ R x y := by
  have hi := (List.getElem?_eq_some_iff.1 hy).1
  obtain ⟨x, hx⟩ : ∃ x, xs[i]? = some x := ⟨_, List.getElem?_eq_getElem (by have := a.1; omega)⟩
  exact ⟨_, hx, a.2 i _ _ hx hy⟩
abbrev Txn := List Op
def txnC (h : GH) (c : List Value) (t : Txn) : Prop := ∃ w, c = [w] ∧ rowsAt h 4 w (t.map Op.enc)
def thrC (h : GH) (c : List Value) (ts : List Txn) : Prop := ∃ w es, c = [w] ∧ rowsAt h 1 w es ∧ All2 (txnC h) es ts
def threadsAt (h : GH) (v : Value) (p : List (List Txn)) : Prop := ∃ es, rowsAt h 1 v es ∧ All2 (thrC h) es p
theorem txnC.le {h h' : GH} {c : List Value} {t : Txn} (a : txnC h c t) (l : HLe h h') : txnC h' c t := by
  obtain ⟨w, h1, h2⟩ := a
  exact ⟨w, h1, h2.le l⟩
theorem thrC.le {h h' : GH} {c : List Value} {t : List Txn} (a : thrC h c t) (l : HLe h h') : thrC h' c t := by
  obtain ⟨w, es, h1, h2, h3⟩ := a
  exact ⟨w, es, h1, h2.le l, h3.mono fun x y q => q.le l⟩
theorem threadsAt.le {h h' : GH} {v : Value} {p : List (List Txn)} (a : threadsAt h v p) (l : HLe h h') : threadsAt h' v p := by
  obtain ⟨es, h2, h3⟩ := a
  exact ⟨es, h2.le l, h3.mono fun x y q => q.le l⟩
structure Plan where
  threads : List (List Txn)
  attempts : Int
  polite : Bool
def planC (v : Value) (p : Plan) : List Value := [v, i64 p.attempts, .bool p.polite]
def ruleOf (k : Int) : Option (Int × Int × Int) :=
  if k = 0 then some (4, 1, 1048576) else if k = 1 then some (4, 1, 1) else if k = 2 then some (4, 1, 1048576) else if k = 3 then some (4, 1, 1048576) else if k = 4 then some (4, 4, 1048576) else
  if k = 5 then some (1, 1, 1) else if k = 6 then some (5, 1, 2) else if k = 7 then some (5, 1, 1) else if k = 8 then some (5, 1, 1) else if k = 9 then some (1, 1, 1) else if k = 10 then some (5, 5, 1) else none
def Op.may (o : Op) : Bool := match ruleOf o.kind with
  | some (a, b, x) => decide (0 ≤ o.a ∧ o.a < a) && (decide (0 ≤ o.b ∧ o.b < b) && decide (0 ≤ o.x ∧ o.x < x))
  | none => false
def Txn.may (t : Txn) : Bool := t.all Op.may && (decide (1 ≤ (t.length : Int)) && decide ((t.length : Int) ≤ 2))
def thrMay (ts : List Txn) : Bool := decide (ts.length ≤ 8) && ts.all Txn.may
def Plan.may (p : Plan) : Bool := decide (1 ≤ p.threads.length ∧ p.threads.length ≤ 4 ∧ 1 ≤ p.attempts ∧ p.attempts ≤ 16) && p.threads.all thrMay
def opAt (h : GH) (b o : Nat) (x : Op) : Prop := ∀ (j : Nat) v, x.enc[j]? = some v → ldV 1 false (.pointer (some ⟨b, o + j, none⟩)) h = some v
theorem HLe.ld {h h' : GH} (l : HLe h h') {n : Nat} {g : Bool} {p v : Value} (e : ldV n g p h = some v) : ldV n g p h' = some v := by
  unfold ldV at e ⊢
  split at e
  · split at e
    · rename_i he; rw [l _ _ he]; exact e
    · cases e
  · cases e
def rules : List Value := [4, 1, 1048576, 4, 1, 1, 4, 1, 1048576, 4, 1, 1048576, 4, 4, 1048576, 1, 1, 1, 5, 1, 2, 5, 1, 1, 5, 1, 1, 1, 1, 1, 5, 5, 1].map i64
theorem rules_at (k : Nat) (hk : k < 11) : ∃ a b x, (rules.drop (k * 3)).take 3 = [i64 a, i64 b, i64 x] ∧ ruleOf k = some (a, b, x) := by
  match k, hk with
  | 0, _ | 1, _ | 2, _ | 3, _ | 4, _ | 5, _ | 6, _ | 7, _ | 8, _ | 9, _ | 10, _ => exact ⟨_, _, _, rfl, rfl⟩
theorem T_OpMay {b o : Nat} {x : Op} {h : GH} {K : Value → GH → Prop} (hx : opAt h b o x) (hK : K (.bool x.may) h) : T Tryz.prog 51 [.pointer (some ⟨b, o, none⟩)] h K := by
  apply T.drop
  apply S51_T
  unfold S51
  refine bnd_of rfl (bnd_of rfl (bnd_of rfl (bnd_of rfl (bnd_of rfl (bnd_of rfl (bnd_of rfl (bnd_of rfl (bnd_of rfl (bnd_of rfl (bnd_of rfl (bnd_of rfl ?_)))))))))))
  refine new_st rules rfl rfl rfl rfl fun b0 h1 f0 e0 l1 => ?_
  have ld (j : Nat) (v : Value) (h' : GH) (l : HLe h h') (hj : x.enc[j]? = some v) : ldV 1 false (.pointer (some ⟨b, o + j, none⟩)) h' = some v := HLe.ld l (hx j v hj)
  refine bnd_of rfl (bnd_of rfl (bnd_of (ld 0 _ h1 l1 rfl) ?_))
  refine T_Below (bnd_of rfl ?_)
  rw [ifV_iff]
  split
  · rename_i hc
    refine ⟨h, l1, ?_⟩
    have : x.may = false := by
      unfold Op.may ruleOf
      simp at hc
      repeat rw [if_neg (by omega)]
    rw [this] at hK; exact hK
  rename_i hc
  have hc : 0 ≤ x.kind ∧ x.kind < 11 := by simpa using hc
  obtain ⟨k, hk⟩ := Int.eq_ofNat_of_zero_le hc.1
  have hk11 : k < 11 := by omega
  obtain ⟨ra, rb, rx, hr, hr2⟩ := rules_at k hk11
  have hmay : x.may = (decide (0 ≤ x.a ∧ x.a < ra) && (decide (0 ≤ x.b ∧ x.b < rb) && decide (0 ≤ x.x ∧ x.x < rx))) := by
    unfold Op.may; rw [hk]; rw [hr2]
  refine bnd_of rfl (bnd_of rfl (bnd_of (ld 0 _ h1 l1 rfl) ?_))
  rw [hk]
  refine bnd_of (iaV_at hk11 .i64) (bnd_of (v := .agg [i64 ra, i64 rb, i64 rx].toArray) ?_ ?_)
  · rw [ldV_agg e0 _ _ (by have : rules.length = 33 := rfl; omega), Nat.zero_add, hr]
  refine new_st [i64 ra, i64 rb, i64 rx] rfl rfl rfl rfl fun b2 h2 f2 e2 l2 => ?_
  have l12 := l1.trans l2
  refine bnd_of rfl (bnd_of rfl (bnd_of (ld 1 _ h2 l12 rfl) (bnd_of rfl (bnd_of (v := i64 ra) (by rw [ldV_cell e2]; rfl) ?_))))
  refine T_Below ?_
  rw [ifV_dec]
  split
  · rename_i c1
    refine bnd_of rfl (bnd_of rfl (bnd_of (ld 2 _ h2 l12 rfl) (bnd_of rfl (bnd_of (v := i64 rb) (by rw [ldV_cell e2]; rfl) ?_))))
    refine T_Below ?_
    rw [ifV_dec]
    split
    · rename_i c2
      refine bnd_of rfl (bnd_of rfl (bnd_of (ld 3 _ h2 l12 rfl) (bnd_of rfl (bnd_of (v := i64 rx) (by rw [ldV_cell e2]; rfl) ?_))))
      refine T_Below ⟨h, l12, ?_⟩
      have : x.may = decide (0 ≤ x.x ∧ x.x < rx) := by rw [hmay, decide_eq_true c1, decide_eq_true c2]; rfl
      rw [this] at hK; exact hK
    · rename_i c2
      refine ⟨h, l12, ?_⟩
      have : x.may = false := by rw [hmay, decide_eq_false c2]; simp
      rw [this] at hK; exact hK
  · rename_i c1
    refine ⟨h, l12, ?_⟩
    have : x.may = false := by rw [hmay, decide_eq_false c1]; simp
    rw [this] at hK; exact hK
theorem T_OpsMay {v : Value} {t : Txn} {h : GH} {K : Value → GH → Prop} (r : rowsAt h 4 v (t.map Op.enc)) (hK : K (.bool t.may) h) : T Tryz.prog 26 [v] h K := by
  apply S26_T
  unfold S26
  have hln := r.len
  have hmx := r.max
  rw [List.length_map] at hln hmx
  refine bnd_of hln ?_
  refine Lfp_fam (ι := Nat) (fun i => [v, i64 t.length, i64 i]) (fun i h' => i ≤ t.length ∧ h' = h ∧ (t.take i).all Op.may = true) (fun i => t.length - i) ?_ 0 h ⟨Nat.zero_le _, rfl, rfl⟩
  intro i h' X ⟨hi, hh, hok⟩ again
  subst hh
  simp only [tup_zero, tup_succ, binV_lss, bnd_some, ifV_dec]
  split
  · rename_i hlt
    obtain ⟨x, hx⟩ : ∃ x, t[i]? = some x := ⟨_, List.getElem?_eq_getElem (by omega)⟩
    obtain ⟨b, o, e2, hf, ha⟩ := r.fld (i := i) (c := x.enc) (by simp [hx]) .i64
    refine bnd_of e2 (T_OpMay hf (bnd_of rfl ?_))
    rw [ifV_iff]
    split
    · rename_i hm
      have : t.may = false := by
        unfold Txn.may
        have : t.all Op.may = false := List.all_eq_false.2 ⟨x, List.mem_of_getElem? hx, by simpa using hm⟩
        rw [this]; rfl
      rw [this] at hK; exact hK
    · rename_i hm
      refine bnd_of (binV_add _ _ _) ?_
      rw [wrap_id (by omega) (by omega)]
      refine again (i + 1) h' ⟨by omega, rfl, ?_⟩ (by omega)
      rw [List.take_add_one, hx, List.all_append, hok]
      simpa using hm
  · rename_i hge
    have hall : t.take i = t := List.take_of_length_le (by omega)
    rw [hall] at hok
    refine bnd_of hln (bnd_of (binV_geq _ _ _) ?_)
    rw [ifV_dec]
    split
    · rename_i c1
      refine bnd_of hln (bnd_of (binV_leq _ _ _) ?_)
      have : t.may = decide ((t.length : Int) ≤ 2) := by unfold Txn.may; rw [hok, decide_eq_true c1]; rfl
      rw [this] at hK; exact hK
    · rename_i c1
      have : t.may = false := by unfold Txn.may; rw [decide_eq_false c1]; simp
      rw [this] at hK; exact hK
structure Answer where
  code : Int
  num : Int
def Answer.ints (t : Answer) : List Int := [t.code, t.num]
def Answer.enc (t : Answer) : List Value := [i64 t.code, i64 t.num]
theorem Answer.ext_ints {a b : Answer} (h : a.ints = b.ints) : a = b := by
  cases a; cases b; simpa [Answer.ints] using h
instance : DecidableEq Answer := fun a b => if h : a.ints = b.ints then .isTrue (Answer.ext_ints h) else .isFalse fun e => h (by rw [e])
theorem Answer.enc_good (t : Answer) : good 2 t.enc := ⟨rfl, rfl⟩
theorem Answer.all_good (ts : List Answer) : ∀ c ∈ ts.map Answer.enc, good 2 c := by
  intro c hc
  obtain ⟨t, _, rfl⟩ := List.mem_map.1 hc
  exact t.enc_good
attribute [local irreducible] bnd ldV stV ifV binV eqI
structure Vw where
  k : List Bool
  w : List Int
  n : List Int
def Vw.cells (v : Vw) : List Value := v.k.map Value.bool ++ (v.w.map encV ++ v.n.map encV)
  where encV (x : Int) : Value := i64 x
def Vw.val (x : Int) : Prop := 0 ≤ x ∧ x < 1099511627776
theorem Vw.val0 : Vw.val 0 := ⟨by decide, by decide⟩
structure Vw.ok (v : Vw) : Prop where
  lk : v.k.length = 16
  lw : v.w.length = 16
  ln : v.n.length = 16
  rw : ∀ x ∈ v.w, Vw.val x
  rn : ∀ x ∈ v.n, Vw.val x
structure Wk where
  v : Vw
  need : Option Int
structure Wk.ok (w : Wk) : Prop where
  v : w.v.ok
  need : ∀ c, w.need = some c → 0 ≤ c ∧ c < 16
def Wk.get (w : Wk) (c : Int) : Int × Wk :=
  if w.need.isSome then (0, w) else if w.v.k.getD c.toNat false then (w.v.n.getD c.toNat 0, w) else (0, { w with need := some c })
def Wk.set (w : Wk) (c x : Int) : Wk := if w.need.isSome then w else { w with v := { w.v with n := w.v.n.set c.toNat x } }
theorem Vw.ok.at {v : Vw} (o : v.ok) (i : Nat) : Vw.val (v.n.getD i 0) := by
  rw [List.getD_eq_getElem?_getD]
  cases e : v.n[i]? with
  | none => exact ⟨by decide, by decide⟩
  | some x => exact o.rn x (List.mem_of_getElem? e)
theorem Vw.ok.set {v : Vw} (o : v.ok) (i : Nat) {x : Int} (h : Vw.val x) : Vw.ok { v with n := v.n.set i x } :=
  ⟨o.lk, o.lw, by simp only [List.length_set]; exact o.ln, o.rw, fun y hy => by
    rcases List.mem_or_eq_of_mem_set hy with q | q
    · exact o.rn y q
    · rw [q]; exact h⟩
theorem Wk.get_ok {w : Wk} (o : w.ok) {c : Int} (h0 : 0 ≤ c) (h1 : c < 16) : (w.get c).2.ok ∧ Vw.val (w.get c).1 := by
  unfold Wk.get
  split
  · exact ⟨o, Vw.val0⟩
  · split
    · exact ⟨o, o.v.at _⟩
    · exact ⟨⟨o.v, fun d e => by cases e; exact ⟨h0, h1⟩⟩, Vw.val0⟩
theorem Wk.set_ok {w : Wk} (o : w.ok) (c : Int) {x : Int} (h : Vw.val x) : (w.set c x).ok := by
  unfold Wk.set
  split
  · exact o
  · exact ⟨o.v.set _ h, o.need⟩
def lk (key lev : Int) : Int := 4 + 2 * (key + 1) + lev
def Wk.next (w : Wk) (key lev : Int) : Int × Wk := (if (w.get (lk key lev)).1 - 1 ≤ key ∨ 5 ≤ (w.get (lk key lev)).1 - 1 then -1 else (w.get (lk key lev)).1 - 1, (w.get (lk key lev)).2)
def Wk.before : Nat → Wk → Int → Int → Int → Int × Wk
  | 0, w, _, from_, _ => (from_, w)
  | n + 1, w, key, from_, lev => if (w.next from_ lev).1 = -1 ∨ key ≤ (w.next from_ lev).1 then (from_, (w.next from_ lev).2) else Wk.before n (w.next from_ lev).2 key (w.next from_ lev).1 lev
def bor (a b : Int) : Int := IntKind.i64.wrap (BitVec.ofInt IntKind.i64.bits a ||| BitVec.ofInt IntKind.i64.bits b).toNat
def bshl (b : Int) : Int := IntKind.i64.wrap (1 * 2 ^ min b.toNat IntKind.i64.bits)
def Wk.bits : Nat → Wk → Int → Int → Int → Int × Wk
  | 0, w, _, _, out => (out, w)
  | n + 1, w, at_, b, out => if at_ = -1 ∨ b < at_ then (out, w) else Wk.bits n (w.next at_ 0).2 (w.next at_ 0).1 b (bor out (bshl at_))
def Wk.put (w : Wk) (behind key lev : Int) : Wk :=
  let g := (w.get (lk key lev)).2.get (lk behind lev)
  (g.2.set (lk key lev) g.1).set (lk behind lev) (key + 1)
def Wk.drop (w : Wk) (behind key lev : Int) : Wk :=
  let g := w.get (lk key lev)
  (g.2.set (lk behind lev) g.1).set (lk key lev) 0
def Wk.insert (w : Wk) (o : Op) (hi lo at_ : Int) : Answer × Wk :=
  if at_ = o.a then (⟨1, 0⟩, w) else
  (⟨0, o.a⟩, if o.x = 1 then (w.put lo o.a 0).put hi o.a 1 else w.put lo o.a 0)
def Wk.erase (w : Wk) (o : Op) (hi lo at_ : Int) : Answer × Wk :=
  if at_ = o.a then
    let g := (w.drop lo o.a 0).next hi 1
    (⟨0, o.a⟩, if g.1 = o.a then g.2.drop hi o.a 1 else g.2)
  else (⟨2, 0⟩, w)
def Wk.skip (w : Wk) (o : Op) : Answer × Wk :=
  if o.kind = 9 then (if (w.next (-1) 0).1 = -1 then ⟨2, 0⟩ else ⟨0, (w.next (-1) 0).1⟩, (w.next (-1) 0).2) else
  let hi := w.before 7 o.a (-1) 1
  let lo := hi.2.before 7 o.a hi.1 0
  let at_ := lo.2.next lo.1 0
  if o.kind = 8 then (⟨0, if at_.1 = o.a then 1 else 0⟩, at_.2) else
  if o.kind = 10 then (⟨0, (at_.2.bits 7 at_.1 o.b 0).1⟩, (at_.2.bits 7 at_.1 o.b 0).2) else
  if o.kind = 6 then at_.2.insert o hi.1 lo.1 at_.1 else at_.2.erase o hi.1 lo.1 at_.1
def Wk.sum : Nat → Wk → Int → Int → Int × Wk
  | 0, w, _, all => (all, w)
  | n + 1, w, i, all => Wk.sum n (w.get i).2 (i + 1) (all + max 0 ((w.get i).1 - 1))
def Wk.bank (w : Wk) (o : Op) : Answer × Wk :=
  if o.kind = 5 then (⟨0, (w.sum 4 0 0).1⟩, (w.sum 4 0 0).2) else
  let g := w.get o.a
  if o.kind = 0 then (if 0 < g.1 then (⟨1, 0⟩, g.2) else (⟨0, o.x⟩, g.2.set o.a (o.x + 1))) else
  if o.kind = 4 then
    let g2 := g.2.get o.b
    if g.1 = 0 ∨ g2.1 = 0 then (⟨2, 0⟩, g2.2) else
    if g.1 - 1 < o.x then (⟨3, 0⟩, g2.2) else
    if o.a = o.b then (⟨0, g.1 - 1⟩, g2.2) else
    if 1048575 < g2.1 - 1 + o.x then (⟨4, 0⟩, g2.2) else
    (⟨0, g.1 - 1 - o.x⟩, (g2.2.set o.b (g2.1 - 1 + o.x + 1)).set o.a (g.1 - 1 - o.x + 1))
  else
  if g.1 = 0 then (⟨2, 0⟩, g.2) else
  if o.kind = 1 then (⟨0, g.1 - 1⟩, g.2.set o.a 0) else
  if o.kind = 2 then (if 1048575 < g.1 - 1 + o.x then (⟨4, 0⟩, g.2) else (⟨0, g.1 - 1 + o.x⟩, g.2.set o.a (g.1 - 1 + o.x + 1))) else
  if g.1 - 1 < o.x then (⟨3, 0⟩, g.2) else (⟨0, g.1 - 1 - o.x⟩, g.2.set o.a (g.1 - 1 - o.x + 1))
structure AskM where
  need : Option Int
  view : Vw
  ans : List Answer
def Vw.one (v : Vw) (o : Op) : AskM :=
  let r := if o.kind ≤ 5 then Wk.bank ⟨v, none⟩ o else Wk.skip ⟨v, none⟩ o
  match r.2.need with
  | some c => ⟨some c, v, []⟩
  | none => ⟨none, if r.1.code = 0 then r.2.v else v, [r.1]⟩
def Vw.doFrom (v : Vw) : List Op → Vw → List Answer → AskM
  | [], w, rs => ⟨none, w, rs⟩
  | o :: os, w, rs =>
    match (w.one o).need with
    | some c => ⟨some c, v, []⟩
    | none => if ((w.one o).ans.map Answer.code) = [0] then v.doFrom os (w.one o).view (rs ++ (w.one o).ans) else ⟨none, v, rs ++ (w.one o).ans⟩
def Vw.do_ (v : Vw) (os : List Op) : AskM := v.doFrom os v []
section
variable {v : Vw} {t : List Value}
theorem Vw.len (o : v.ok) : v.cells.length = 48 := by simp [Vw.cells, o.lk, o.lw, o.ln]
theorem Vw.cell_k (o : v.ok) {i : Nat} (h : i < 16) : (v.cells ++ t)[i]? = some (.bool (v.k.getD i false)) := by
  have := o.lk
  rw [List.getElem?_append_left (by rw [Vw.len o]; omega), Vw.cells, List.getElem?_append_left (by simp; omega), List.getElem?_map, List.getD_eq_getElem?_getD, List.getElem?_eq_getElem (by omega)]
  rfl
theorem Vw.cell_w (o : v.ok) {i : Nat} (h : i < 16) : (v.cells ++ t)[16 + i]? = some (i64 (v.w.getD i 0)) := by
  have := o.lk; have := o.lw
  rw [List.getElem?_append_left (by rw [Vw.len o]; omega), Vw.cells, List.getElem?_append_right (by simp; omega), List.getElem?_append_left (by simp; omega), List.getElem?_map, List.getD_eq_getElem?_getD]
  have e : 16 + i - (v.k.map Value.bool).length = i := by simp; omega
  rw [e, List.getElem?_eq_getElem (by omega)]
  rfl
theorem Vw.cell_n (o : v.ok) {i : Nat} (h : i < 16) : (v.cells ++ t)[32 + i]? = some (i64 (v.n.getD i 0)) := by
  have := o.lk; have := o.lw; have := o.ln
  rw [List.getElem?_append_left (by rw [Vw.len o]; omega), Vw.cells, List.getElem?_append_right (by simp; omega), List.getElem?_append_right (by simp; omega), List.getElem?_map, List.getD_eq_getElem?_getD]
  have e : 32 + i - (v.k.map Value.bool).length - (v.w.map Vw.cells.encV).length = i := by simp; omega
  rw [e, List.getElem?_eq_getElem (by omega)]
  rfl
theorem Vw.set_n (o : v.ok) {i : Nat} (h : i < 16) (x : Int) : (v.cells ++ t).set (32 + i) (i64 x) = Vw.cells { v with n := v.n.set i x } ++ t := by
  have := o.lk; have := o.lw; have := o.ln
  rw [List.set_append_left _ _ (by rw [Vw.len o]; omega)]
  congr 1
  unfold Vw.cells
  rw [List.set_append_right _ _ (by simp; omega), List.set_append_right _ _ (by simp; omega), List.map_set]
  congr 2
  have e : 32 + i - (v.k.map Value.bool).length - (v.w.map Vw.cells.encV).length = i := by simp; omega
  rw [e]; rfl
theorem Vw.cell_t (o : v.ok) {x : Value} : (v.cells ++ [x])[48]? = some x := by
  rw [List.getElem?_append_right (by rw [Vw.len o]; omega), Vw.len o]; rfl
theorem Vw.set_t (o : v.ok) {x y : Value} : (v.cells ++ [x]).set 48 y = v.cells ++ [y] := by
  rw [List.set_append_right _ _ (by rw [Vw.len o]; omega), Vw.len o]; rfl
theorem Vw.take_t (o : v.ok) {t : List Value} : ((v.cells ++ t).drop 0).take 48 = v.cells := by
  rw [List.drop_zero, ← Vw.len o, List.take_left']
  rfl
theorem Vw.one_cells : v.cells.all oneCell = true := by
  unfold Vw.cells
  simp only [List.all_append, List.all_map, Bool.and_eq_true, List.all_eq_true, Function.comp]
  exact ⟨fun _ _ => rfl, fun _ _ => rfl, fun _ _ => rfl⟩
end
def needV : Option Int → Value
  | none => .nilIface
  | some c => .iface 331 (i64 c)
def wkRow (w : Wk) : GObj := .row 305 (w.v.cells ++ [needV w.need]) 49 true
section
variable {b : Nat} {w : Wk} {R : List Part} {h : GH} {K : Value → GH → Prop}
theorem T_wGet {c : Int} (hp : All (pts b (wkRow w) :: R) h) (ok : w.ok) (h0 : 0 ≤ c) (h1 : c < 16) (hK : ∀ h', All (pts b (wkRow (w.get c).2) :: R) h' → K (i64 (w.get c).1) h') : T Tryz.prog 210 [ptr b, i64 c] h K := by
  apply S210_T
  unfold S210
  obtain ⟨i, rfl⟩ := Int.eq_ofNat_of_zero_le h0
  have hi : i < 16 := by omega
  unfold Wk.get at hK
  refine bnd_of rfl (bnd_of rfl ?_)
  refine ld0 hp (Vw.cell_t ok.v) ?_
  cases hn : w.need with
  | some d =>
    rw [hn] at hK
    refine wk ?_
    exact hK _ hp
  | none =>
    rw [hn] at hK
    refine wk ?_
    refine bnd_of (iaV_at hi .i64) ?_
    refine ld0 hp (off := 0 + i * 1) (by rw [Nat.zero_add, Nat.mul_one]; exact Vw.cell_k ok.v hi) ?_
    simp only [Option.isSome_none, Bool.false_eq_true, if_false, Int.toNat_natCast] at hK
    cases hk : w.v.k.getD i false with
    | true =>
      rw [hk] at hK
      refine wk ?_
      refine bnd_of (iaV_at hi .i64) ?_
      refine ld0 hp (off := 0 + 32 + i * 1) (by rw [Nat.mul_one, Nat.zero_add]; exact Vw.cell_n ok.v hi) ?_
      exact hK _ hp
    | false =>
      rw [hk] at hK
      refine wk ?_
      refine st0 hp (wkRow { w with need := some (i : Int) }) rfl (by simp [Vw.len ok.v]) rfl ?_ fun h2 hp => hK _ hp
      show GObj.row _ ((w.v.cells ++ [needV w.need]).set 48 _) _ _ = _
      rw [Vw.set_t ok.v]; rfl
theorem T_wSet {c x : Int} (hp : All (pts b (wkRow w) :: R) h) (ok : w.ok) (h0 : 0 ≤ c) (h1 : c < 16) (hK : ∀ h', All (pts b (wkRow (w.set c x)) :: R) h' → K (.tuple #[]) h') : T Tryz.prog 208 [ptr b, i64 c, i64 x] h K := by
  apply S208_T
  unfold S208
  obtain ⟨i, rfl⟩ := Int.eq_ofNat_of_zero_le h0
  have hi : i < 16 := by omega
  unfold Wk.set at hK
  refine bnd_of rfl (bnd_of rfl ?_)
  refine ld0 hp (Vw.cell_t ok.v) ?_
  cases hn : w.need with
  | some d =>
    rw [hn] at hK
    refine wk ?_
    exact hK _ hp
  | none =>
    rw [hn] at hK
    refine wk ?_
    refine bnd_of (iaV_at hi .i64) ?_
    refine st0 hp (wkRow ⟨{ w.v with n := w.v.n.set i x }, none⟩) rfl (by simp [Vw.len ok.v]; omega) rfl ?_ fun h2 hp => hK _ hp
    show GObj.row _ ((w.v.cells ++ [needV w.need]).set (0 + 32 + i * 1) (i64 x)) _ _ = _
    rw [Nat.mul_one, Nat.zero_add, Vw.set_n ok.v hi, hn]; rfl
end
end Go.Proofs.YtcpfkkppfgolaaaGreatDoor
namespace Go.Proofs.YtcpfkkppfgolaaaGreatDoor
open Go GW Go.Proofs
attribute [local irreducible] bnd ldV stV ifV binV eqI
abbrev lstV (b : Nat) : Value := .agg [ptr b].toArray
def Lv (key lev : Int) : Prop := -1 ≤ key ∧ key < 5 ∧ 0 ≤ lev ∧ lev ≤ 1
theorem Lv.lk {key lev : Int} (l : Lv key lev) : 0 ≤ lk key lev ∧ Go.Proofs.YtcpfkkppfgolaaaGreatDoor.lk key lev < 16 := by obtain ⟨a, b, c, d⟩ := l; unfold Go.Proofs.YtcpfkkppfgolaaaGreatDoor.lk; omega
theorem Wk.next_ok {w : Wk} (o : w.ok) {key lev : Int} (l : Lv key lev) : (w.next key lev).2.ok ∧ ((w.next key lev).1 = -1 ∨ key < (w.next key lev).1 ∧ (w.next key lev).1 < 5) := by
  have g := Wk.get_ok o l.lk.1 l.lk.2
  unfold Wk.next
  refine ⟨g.1, ?_⟩
  simp only
  split
  · exact .inl rfl
  · right; omega
theorem Wk.before_ok : ∀ {n : Nat} {w : Wk} {key from_ lev : Int}, w.ok → Lv from_ lev → (w.before n key from_ lev).2.ok ∧ from_ ≤ (w.before n key from_ lev).1 ∧ (w.before n key from_ lev).1 < 5 := by
  intro n
  induction n with
  | zero => intro w key f lev o l; exact ⟨o, Int.le_refl _, l.2.1⟩
  | succ n ih =>
    intro w key f lev o l
    have g := Wk.next_ok o l
    unfold Wk.before
    split
    · exact ⟨g.1, Int.le_refl _, l.2.1⟩
    · rename_i c
      obtain ⟨g1, g2⟩ := g
      have g3 : f < (w.next f lev).1 ∧ (w.next f lev).1 < 5 := by
        rcases g2 with q | q
        · exact absurd (.inl q) c
        · exact q
      have := ih (key := key) g1 (show Lv (w.next f lev).1 lev from ⟨by have := l.1; omega, g3.2, l.2.2⟩)
      exact ⟨this.1, by omega, this.2.2⟩
theorem Wk.put_ok {w : Wk} (o : w.ok) {behind key lev : Int} (l1 : Lv behind lev) (l2 : Lv key lev) : (w.put behind key lev).ok := by
  unfold Wk.put
  have g1 := Wk.get_ok o l2.lk.1 l2.lk.2
  have g2 := Wk.get_ok g1.1 l1.lk.1 l1.lk.2
  refine Wk.set_ok (Wk.set_ok g2.1 _ g2.2) _ ?_
  have := l2.1; have := l2.2.1
  constructor <;> omega
theorem Wk.drop_ok {w : Wk} (o : w.ok) {behind key lev : Int} (l1 : Lv behind lev) (l2 : Lv key lev) : (w.drop behind key lev).ok := by
  unfold Wk.drop
  have g1 := Wk.get_ok o l2.lk.1 l2.lk.2
  exact Wk.set_ok (Wk.set_ok g1.1 _ g1.2) _ Vw.val0
section
variable {b c d : Nat} {w : Wk} {R : List Part} {h : GH} {K : Value → GH → Prop} {key lev : Int}
theorem T_cAt (l : Lv key lev) (hK : K (i64 (lk key lev)) h) : T Tryz.prog 80 [i64 key, i64 lev] h K := by
  apply S80_T
  unfold S80
  obtain ⟨l1, l2, l3, l4⟩ := l
  refine wk ?_
  unfold lk at hK
  rw [show 4 + 2 * (key - -1) + lev = 4 + 2 * (key + 1) + lev by omega]
  exact hK
theorem T_sLink (hp : All (pts b (wkRow w) :: R) h) (ok : w.ok) (l : Lv key lev) (hK : ∀ h', All (pts b (wkRow (w.get (lk key lev)).2) :: R) h' → K (i64 (w.get (lk key lev)).1) h') : T Tryz.prog 201 [lstV b, i64 key, i64 lev] h K := by
  apply S201_T
  unfold S201
  refine nw hp (.row 307 [ptr b] 1 true) rfl fun lb h1 hp => ?_
  refine wk ?_
  refine T_cAt l ?_
  refine wk ?_
  refine T_wGet (hp.up 1) ok l.lk.1 l.lk.2 fun h2 hp => ?_
  exact hK _ (hp.re 2 [0])
theorem T_sLead {x : Int} (hp : All (pts b (wkRow w) :: R) h) (ok : w.ok) (l : Lv key lev) (hK : ∀ h', All (pts b (wkRow (w.set (lk key lev) x)) :: R) h' → K (.tuple #[]) h') : T Tryz.prog 211 [lstV b, i64 key, i64 lev, i64 x] h K := by
  apply S211_T
  unfold S211
  refine nw hp (.row 307 [ptr b] 1 true) rfl fun lb h1 hp => ?_
  refine wk ?_
  refine T_cAt l ?_
  refine wk ?_
  refine T_wSet (hp.up 1) ok l.lk.1 l.lk.2 fun h2 hp => ?_
  exact hK _ (hp.re 2 [0])
theorem T_sNext (hp : All (pts b (wkRow w) :: R) h) (ok : w.ok) (l : Lv key lev) (hK : ∀ h', All (pts b (wkRow (w.next key lev).2) :: R) h' → K (i64 (w.next key lev).1) h') : T Tryz.prog 186 [lstV b, i64 key, i64 lev] h K := by
  apply S186_T
  unfold S186
  refine nw hp (.row 307 [ptr b] 1 true) rfl fun lb h1 hp => ?_
  refine la0 hp (c := [ptr b]) (by simp) rfl ?_
  have g := Wk.get_ok ok l.lk.1 l.lk.2
  obtain ⟨_, g1, g2⟩ := g
  refine T_sLink (hp.up 1) ok l fun h2 hp => ?_
  have hp := hp.re 2 [0]
  unfold Wk.next at hK
  refine wk ?_
  refine ifV_cases (fun c => ?_) fun c => ?_
  · rw [if_pos (.inl c)] at hK
    exact hK _ hp
  · refine wk ?_
    refine ifV_cases (fun c2 => ?_) fun c2 => ?_
    · rw [if_pos (.inr c2)] at hK
      exact hK _ hp
    · rw [if_neg (by omega)] at hK
      exact hK _ hp
theorem T_sBefore {from_ : Int} (hp : All (pts b (wkRow w) :: R) h) (ok : w.ok) (l : Lv from_ lev) (hK : ∀ h', All (pts b (wkRow (w.before 7 key from_ lev).2) :: R) h' → K (i64 (w.before 7 key from_ lev).1) h') : T Tryz.prog 204 [lstV b, i64 key, i64 from_, i64 lev] h K := by
  apply S204_T
  unfold S204
  refine nw hp (.row 307 [ptr b] 1 true) rfl fun lb h1 hp => ?_
  refine la0 hp (c := [ptr b]) (by simp) rfl ?_
  refine T_sNext (hp.up 1) ok l fun h2 hp => ?_
  generalize hr : w.before 7 key from_ lev = r at hK
  have l2 := l.2.2
  refine Lfp_fam (ι := Nat × Wk × Int) (fun p => [i64 key, i64 p.2.2, i64 lev, ptr lb, i64 (p.2.1.next p.2.2 lev).1]) (fun p h' => 6 - p.2.2 ≤ p.1 ∧ p.2.1.ok ∧ Lv p.2.2 lev ∧ p.2.1.before p.1 key p.2.2 lev = r ∧ All (pts b (wkRow (p.2.1.next p.2.2 lev).2) :: pts lb (.row 307 [ptr b] 1 true) :: R) h') (fun p => p.1) ?_ (7, w, from_) h2 ⟨by have := l.1; simp only; omega, ok, l, hr, hp⟩
  rintro ⟨n, w1, f1⟩ h3 X ⟨hn, ok1, l1, hb, hp⟩ again
  simp only at hn ok1 l1 hb hp
  simp only [tup_zero, tup_succ]
  obtain ⟨m, rfl⟩ : ∃ m, n = m + 1 := ⟨n - 1, by have := l1.2.1; omega⟩
  unfold Wk.before at hb
  have g := Wk.next_ok ok1 l1
  refine wk ?_
  refine ifN_cases (fun c => ?_) fun c => ?_
  · refine wk ?_
    refine ifV_cases (fun c2 => ?_) fun c2 => ?_
    · rw [if_neg (by omega)] at hb
      refine la1 hp (c := [ptr b]) (by simp) rfl ?_
      have l3 : Lv (w1.next f1 lev).1 lev := ⟨by have := l1.1; omega, by omega, l2⟩
      refine T_sNext hp g.1 l3 fun h4 hp => ?_
      exact again (m, (w1.next f1 lev).2, (w1.next f1 lev).1) _ ⟨by simp only; omega, g.1, l3, hb, hp⟩ (by simp only; omega)
    · rw [if_pos (.inr (by omega))] at hb
      subst hb
      exact hK _ (hp.re 2 [0])
  · rw [if_pos (.inl c)] at hb
    subst hb
    exact hK _ (hp.re 2 [0])
def plRow (b : Nat) (hi lo at_ : Int) : GObj := .row 334 [ptr b, i64 hi, i64 lo, i64 at_] 4 true
theorem T_sFind (hp : All (pts b (wkRow w) :: R) h) (ok : w.ok)
    (hK : ∀ pb h', let hi := w.before 7 key (-1) 1; let lo := hi.2.before 7 key hi.1 0; All (pts pb (plRow b hi.1 lo.1 (lo.2.next lo.1 0).1) :: pts b (wkRow (lo.2.next lo.1 0).2) :: R) h' → K (ptr pb) h') : T Tryz.prog 193 [lstV b, i64 key] h K := by
  apply S193_T
  unfold S193
  refine nw hp (.row 307 [ptr b] 1 true) rfl fun lb h1 hp => ?_
  refine la0 hp (c := [ptr b]) (by simp) rfl ?_
  refine wk ?_
  refine nw hp (plRow b 0 0 0) rfl fun pb h2 hp => ?_
  refine la1 hp (c := [ptr b]) (by simp) rfl ?_
  have l1 : Lv (-1) 1 := by unfold Lv; omega
  have g1 := Wk.before_ok (n := 7) (key := key) ok l1
  refine T_sBefore (hp.up 2) ok l1 fun h3 hp => ?_
  simp only at hK
  generalize w.before 7 key (-1) 1 = hi at hp hK g1
  replace hp := hp.re 3 [1, 2, 0]
  refine wk ?_
  refine st0 hp (plRow b hi.1 0 0) rfl (by simp) rfl rfl fun h4 hp => ?_
  refine la1 hp (c := [ptr b]) (by simp) rfl ?_
  refine wk ?_
  have l2 : Lv hi.1 0 := ⟨g1.2.1, g1.2.2, by decide, by decide⟩
  have g2 := Wk.before_ok (n := 7) (key := key) g1.1 l2
  refine T_sBefore (hp.up 2) g1.1 l2 fun h5 hp => ?_
  generalize hi.2.before 7 key hi.1 0 = lo at hp hK g2
  replace hp := hp.re 3 [1, 2, 0]
  refine wk ?_
  refine st0 hp (plRow b hi.1 lo.1 0) rfl (by simp) rfl rfl fun h6 hp => ?_
  refine la1 hp (c := [ptr b]) (by simp) rfl ?_
  refine wk ?_
  have l3 : Lv lo.1 0 := ⟨by have := g1.2.1; have := g2.2.1; omega, g2.2.2, by decide, by decide⟩
  refine T_sNext (hp.up 2) g2.1 l3 fun h7 hp => ?_
  replace hp := hp.re 3 [1, 0]
  refine wk ?_
  refine st0 hp (plRow b hi.1 lo.1 (lo.2.next lo.1 0).1) rfl (by simp) rfl rfl fun h8 hp => ?_
  exact hK _ _ hp
theorem T_sPut {behind : Int} (hp : All (pts b (wkRow w) :: R) h) (ok : w.ok) (l : Lv behind lev) (l2 : Lv key lev) (hK : ∀ h', All (pts b (wkRow (w.put behind key lev)) :: R) h' → K (.tuple #[]) h') : T Tryz.prog 202 [lstV b, i64 key, i64 behind, i64 lev] h K := by
  apply S202_T
  unfold S202
  refine nw hp (.row 307 [ptr b] 1 true) rfl fun lb h1 hp => ?_
  refine la0 hp (c := [ptr b]) (by simp) rfl ?_
  have g1 := Wk.get_ok ok l2.lk.1 l2.lk.2
  have g2 := Wk.get_ok g1.1 l.lk.1 l.lk.2
  refine T_sLink (hp.up 1) ok l2 fun h2 hp => ?_
  refine la1 hp (c := [ptr b]) (by simp) rfl ?_
  refine la1 hp (c := [ptr b]) (by simp) rfl ?_
  refine T_sLink hp g1.1 l fun h3 hp => ?_
  refine hla1 hp (by simp) rfl ?_
  refine T_sLead hp g2.1 l2 fun h4 hp => ?_
  refine la1 hp (c := [ptr b]) (by simp) rfl ?_
  have k0 := l2.1; have k1 := l2.2.1
  refine wk ?_
  refine T_sLead hp (Wk.set_ok g2.1 _ g2.2) l fun h5 hp => ?_
  exact hK _ (hp.re 2 [0])
theorem T_sDrop {behind : Int} (hp : All (pts b (wkRow w) :: R) h) (ok : w.ok) (l : Lv behind lev) (l2 : Lv key lev) (hK : ∀ h', All (pts b (wkRow (w.drop behind key lev)) :: R) h' → K (.tuple #[]) h') : T Tryz.prog 203 [lstV b, i64 key, i64 behind, i64 lev] h K := by
  apply S203_T
  unfold S203
  refine nw hp (.row 307 [ptr b] 1 true) rfl fun lb h1 hp => ?_
  refine la0 hp (c := [ptr b]) (by simp) rfl ?_
  refine la0 hp (c := [ptr b]) (by simp) rfl ?_
  have g1 := Wk.get_ok ok l2.lk.1 l2.lk.2
  refine T_sLink (hp.up 1) ok l2 fun h2 hp => ?_
  refine hla1 hp (by simp) rfl ?_
  refine T_sLead hp g1.1 l fun h3 hp => ?_
  refine la1 hp (c := [ptr b]) (by simp) rfl ?_
  refine T_sLead hp (Wk.set_ok g1.1 _ g1.2) l2 fun h4 hp => ?_
  exact hK _ (hp.re 2 [0])
end
end Go.Proofs.YtcpfkkppfgolaaaGreatDoor
namespace Go.Proofs.YtcpfkkppfgolaaaGreatDoor
open Go GW Go.Proofs
attribute [local irreducible] bnd ldV stV ifV binV eqI
theorem All.start {h : GH} : All [baseP h] h := All.one (P := baseP h) (HLe.refl _)
abbrev ansV (a : Answer) : Value := .agg a.enc.toArray
abbrev resRow (x y : Value) : GObj := .row 103 [x, y] 2 true
def opRow (o : Op) : GObj := .row 126 o.enc 4 true
section
variable {b c d rb pb ob : Nat} {w : Wk} {R : List Part} {h : GH} {K : Value → GH → Prop} {o : Op} {hi lo at_ : Int}
theorem retA {x y : Value} {v : Answer} (hp : All (pts rb (resRow x y) :: R) h) (k : ∀ h', All R h' → K (ansV v) h') : bnd (stV 2 (ptr rb) (ansV v) h) fun h' => bnd (ldV 2 true (ptr rb) h') fun u => K u h' := by
  refine st0 hp (resRow (i64 v.code) (i64 v.num)) rfl (by simp) rfl rfl fun h1 hp => ?_
  refine la0 hp (c := v.enc) (by simp) rfl ?_
  exact k _ hp.tail
theorem T_skCode {x : Int} (hK : K (ansV ⟨x, 0⟩) h) : T Tryz.prog 185 [i64 x] h K := by
  apply T.drop
  apply S185_T
  unfold S185
  refine nw All.start (resRow (i64 0) (i64 0)) rfl fun rb h1 hp => ?_
  refine wk ?_
  exact retA (v := ⟨x, 0⟩) (K := fun v h' => ∃ h0, HLe h0 h' ∧ K v h0) hp fun h2 hp => ⟨h, baseP.le hp, hK⟩
theorem T_skDone {x : Int} (hK : K (ansV ⟨0, x⟩) h) : T Tryz.prog 187 [i64 x] h K := by
  apply T.drop
  apply S187_T
  unfold S187
  refine nw All.start (resRow (i64 0) (i64 0)) rfl fun rb h1 hp => ?_
  refine wk ?_
  exact retA (v := ⟨0, x⟩) (K := fun v h' => ∃ h0, HLe h0 h' ∧ K v h0) hp fun h2 hp => ⟨h, baseP.le hp, hK⟩
theorem T_bkCode {x : Int} (hK : K (ansV ⟨x, 0⟩) h) : T Tryz.prog 206 [i64 x] h K := by
  apply T.drop
  apply S206_T
  unfold S206
  refine nw All.start (resRow (i64 0) (i64 0)) rfl fun rb h1 hp => ?_
  refine wk ?_
  exact retA (v := ⟨x, 0⟩) (K := fun v h' => ∃ h0, HLe h0 h' ∧ K v h0) hp fun h2 hp => ⟨h, baseP.le hp, hK⟩
theorem T_bkDone {x : Int} (hK : K (ansV ⟨0, x⟩) h) : T Tryz.prog 209 [i64 x] h K := by
  apply T.drop
  apply S209_T
  unfold S209
  refine nw All.start (resRow (i64 0) (i64 0)) rfl fun rb h1 hp => ?_
  refine wk ?_
  exact retA (v := ⟨0, x⟩) (K := fun v h' => ∃ h0, HLe h0 h' ∧ K v h0) hp fun h2 hp => ⟨h, baseP.le hp, hK⟩
theorem T_sInsert (hp : All (pts pb (plRow b hi lo at_) :: pts ob (opRow o) :: pts b (wkRow w) :: R) h) (ok : w.ok) (lh : Lv hi 1) (ll : Lv lo 0) (la : 0 ≤ o.a ∧ o.a < 5)
    (hK : ∀ h', All (pts b (wkRow (w.insert o hi lo at_).2) :: pts ob (opRow o) :: R) h' → K (ansV (w.insert o hi lo at_).1) h') : T Tryz.prog 189 [ptr pb, ptr ob] h K := by
  apply S189_T
  unfold S189
  obtain ⟨kd, oa, ob_, ox⟩ := o
  simp only at la
  have l0 : Lv oa 0 := ⟨by omega, la.2, by decide, by decide⟩
  have l1 : Lv oa 1 := ⟨by omega, la.2, by decide, by decide⟩
  refine nw hp (resRow (i64 0) (i64 0)) rfl fun rb h1 hp => ?_
  unfold Wk.insert at hK
  simp only at hK
  refine wk ?_
  refine ifV_cases (fun c => ?_) fun c => ?_
  · rw [if_pos c] at hK
    refine T_skCode ?_
    refine retA hp fun h2 hp => ?_
    exact hK _ (hp.re 3 [2, 1])
  · rw [if_neg c] at hK
    refine wk ?_
    refine la1 hp (c := [ptr b]) (by simp) rfl ?_
    refine wk ?_
    refine T_sPut (hp.up 3) ok ll l0 fun h2 hp => ?_
    replace hp := hp.re 4 [1, 2, 3, 0]
    replace hp := Go.Proofs.YtcpfkkppfgolaaaGreatDoor.hn hp
    have ok2 := Wk.put_ok ok ll l0
    generalize w.put lo oa 0 = w2 at hp hK ok2
    refine wk ?_
    refine ifV_cases (fun c2 => ?_) fun c2 => ?_
    · rw [if_pos c2] at hK
      refine wk ?_
      refine la1 hp (c := [ptr b]) (by simp) rfl ?_
      refine wk ?_
      refine T_sPut (hp.up 3) ok2 lh l1 fun h3 hp => ?_
      replace hp := hp.re 4 [1, 2, 3, 0]
      replace hp := Go.Proofs.YtcpfkkppfgolaaaGreatDoor.hn hp
      refine wk ?_
      refine T_skDone ?_
      refine retA hp fun h2 hp => ?_
      exact hK _ (hp.re 3 [2, 1])
    · rw [if_neg c2] at hK
      refine wk ?_
      refine T_skDone ?_
      refine retA hp fun h2 hp => ?_
      exact hK _ (hp.re 3 [2, 1])
theorem T_sErase (hp : All (pts pb (plRow b hi lo at_) :: pts ob (opRow o) :: pts b (wkRow w) :: R) h) (ok : w.ok) (lh : Lv hi 1) (ll : Lv lo 0) (la : 0 ≤ o.a ∧ o.a < 5)
    (hK : ∀ h', All (pts b (wkRow (w.erase o hi lo at_).2) :: pts ob (opRow o) :: R) h' → K (ansV (w.erase o hi lo at_).1) h') : T Tryz.prog 190 [ptr pb, ptr ob] h K := by
  apply S190_T
  unfold S190
  obtain ⟨kd, oa, ob_, ox⟩ := o
  simp only at la
  have l0 : Lv oa 0 := ⟨by omega, la.2, by decide, by decide⟩
  have l1 : Lv oa 1 := ⟨by omega, la.2, by decide, by decide⟩
  refine nw hp (resRow (i64 0) (i64 0)) rfl fun rb h1 hp => ?_
  unfold Wk.erase at hK
  simp only at hK
  refine wk ?_
  refine ifN_cases (fun c => ?_) fun c => ?_
  · rw [if_neg c] at hK
    refine T_skCode ?_
    refine retA hp fun h2 hp => ?_
    exact hK _ (hp.re 3 [2, 1])
  · rw [if_pos c] at hK
    refine wk ?_
    refine la1 hp (c := [ptr b]) (by simp) rfl ?_
    refine wk ?_
    refine T_sDrop (hp.up 3) ok ll l0 fun h2 hp => ?_
    replace hp := hp.re 4 [1, 2, 3, 0]
    replace hp := Go.Proofs.YtcpfkkppfgolaaaGreatDoor.hn hp
    have ok2 := Wk.drop_ok ok ll l0
    generalize w.drop lo oa 0 = w2 at hp hK ok2
    refine wk ?_
    refine la1 hp (c := [ptr b]) (by simp) rfl ?_
    refine wk ?_
    refine T_sNext (hp.up 3) ok2 lh fun h3 hp => ?_
    replace hp := hp.re 4 [1, 2, 3, 0]
    replace hp := Go.Proofs.YtcpfkkppfgolaaaGreatDoor.hn hp
    have ok3 := (Wk.next_ok ok2 lh).1
    generalize w2.next hi 1 = g at hp hK ok3
    refine wk ?_
    refine ifV_cases (fun c2 => ?_) fun c2 => ?_
    · rw [if_pos c2] at hK
      refine wk ?_
      refine la1 hp (c := [ptr b]) (by simp) rfl ?_
      refine wk ?_
      refine T_sDrop (hp.up 3) ok3 lh l1 fun h3 hp => ?_
      replace hp := hp.re 4 [1, 2, 3, 0]
      replace hp := Go.Proofs.YtcpfkkppfgolaaaGreatDoor.hn hp
      refine wk ?_
      refine T_skDone ?_
      refine retA hp fun h2 hp => ?_
      exact hK _ (hp.re 3 [2, 1])
    · rw [if_neg c2] at hK
      refine wk ?_
      refine T_skDone ?_
      refine retA hp fun h2 hp => ?_
      exact hK _ (hp.re 3 [2, 1])
theorem T_sFound (hp : All (pts pb (plRow b hi lo at_) :: pts ob (opRow o) :: R) h) (hK : ∀ h', All (pts ob (opRow o) :: R) h' → K (ansV ⟨0, if at_ = o.a then 1 else 0⟩) h') : T Tryz.prog 191 [ptr pb, ptr ob] h K := by
  apply S191_T
  unfold S191
  obtain ⟨kd, oa, ob_, ox⟩ := o
  refine nw hp (resRow (i64 0) (i64 0)) rfl fun rb h1 hp => ?_
  simp only at hK
  refine wk ?_
  refine ifV_cases (fun c => ?_) fun c => ?_
  · rw [if_pos c] at hK
    refine T_skDone ?_
    refine retA hp fun h2 hp => ?_
    exact hK _ hp.tail
  · rw [if_neg c] at hK
    refine T_skDone ?_
    refine retA hp fun h2 hp => ?_
    exact hK _ hp.tail
theorem shl_one {x : Int} (h : 0 ≤ x) (k : IntKind) : binV .shl (i64 1) (.int k x) = some (i64 (bshl x)) := by
  unfold binV
  simp only
  rw [if_neg (by omega)]; rfl
theorem or_bor (a b : Int) : binV .or (i64 a) (i64 b) = some (i64 (bor a b)) := by
  unfold binV
  simp only
  rw [if_pos trivial]; rfl
theorem T_sBits (hp : All (pts pb (plRow b hi lo at_) :: pts ob (opRow o) :: pts b (wkRow w) :: R) h) (ok : w.ok) (la : -1 ≤ at_ ∧ at_ < 5)
    (hK : ∀ h', All (pts b (wkRow (w.bits 7 at_ o.b 0).2) :: pts ob (opRow o) :: R) h' → K (ansV ⟨0, (w.bits 7 at_ o.b 0).1⟩) h') : T Tryz.prog 192 [ptr pb, ptr ob] h K := by
  apply S192_T
  unfold S192
  obtain ⟨kd, oa, ob_, ox⟩ := o
  refine nw hp (resRow (i64 0) (i64 0)) rfl fun rb h1 hp => ?_
  simp only at hK
  refine wk ?_
  generalize hr : w.bits 7 at_ ob_ 0 = r at hK
  refine Lfp_fam (ι := Nat × Wk × Int × Int) (fun p => [ptr pb, ptr ob, ptr rb, i64 p.2.2.2, i64 p.2.2.1]) (fun p h' => (p.2.2.1 = -1 ∧ 0 < p.1 ∨ 0 ≤ p.2.2.1 ∧ p.2.2.1 < 5 ∧ 6 - p.2.2.1 ≤ p.1) ∧ p.2.1.ok ∧ p.2.1.bits p.1 p.2.2.1 ob_ p.2.2.2 = r ∧ All (pts rb (resRow (i64 0) (i64 0)) :: pts pb (plRow b hi lo at_) :: pts ob (opRow ⟨kd, oa, ob_, ox⟩) :: pts b (wkRow p.2.1) :: R) h') (fun p => p.1) ?_ (7, w, at_, 0) h1 ⟨by simp only; omega, ok, hr, hp⟩
  rintro ⟨n, w1, x, out⟩ h3 X ⟨hn, ok1, hb, hp⟩ again
  simp only at hn ok1 hb hp
  simp only [tup_zero, tup_succ]
  obtain ⟨m, rfl⟩ : ∃ m, n = m + 1 := ⟨n - 1, by omega⟩
  unfold Wk.bits at hb
  refine wk ?_
  refine ifN_cases (fun c => ?_) fun c => ?_
  · refine wk ?_
    refine ifV_cases (fun c2 => ?_) fun c2 => ?_
    · replace c2 : x ≤ ob_ := c2
      rw [if_neg (by omega)] at hb
      unfold S192_j1
      refine bnd_of (shl_one (by omega) .i64) (bnd_of (or_bor _ _) ?_)
      refine wk ?_
      refine la1 hp (c := [ptr b]) (by simp) rfl ?_
      have l3 : Lv x 0 := ⟨by omega, by omega, by decide, by decide⟩
      have g := Wk.next_ok ok1 l3
      refine T_sNext (hp.up 3) ok1 l3 fun h4 hp => ?_
      exact again (m, (w1.next x 0).2, (w1.next x 0).1, _) _ ⟨by have := g.2; simp only; omega, g.1, hb, hp.re 4 [1, 2, 3, 0]⟩ (by simp only; omega)
    · replace c2 : ¬ x ≤ ob_ := c2
      rw [if_pos (.inr (by omega))] at hb
      subst hb
      refine T_skDone ?_
      refine retA hp fun h2 hp => ?_
      exact hK _ (hp.re 3 [2, 1])
  · rw [if_pos (.inl c)] at hb
    subst hb
    refine T_skDone ?_
    refine retA hp fun h2 hp => ?_
    exact hK _ (hp.re 3 [2, 1])
end
end Go.Proofs.YtcpfkkppfgolaaaGreatDoor
namespace Go.Proofs.YtcpfkkppfgolaaaGreatDoor
open Go GW Go.Proofs
attribute [local irreducible] bnd ldV stV ifV binV eqI
def acRow (b : Nat) (c x : Int) : GObj := .row 340 [ptr b, i64 c, .bool (decide (0 < x)), i64 (x - 1)] 4 true
def Bk (o : Op) : Prop := (0 ≤ o.a ∧ o.a < 4) ∧ (0 ≤ o.b ∧ o.b < 4) ∧ 0 ≤ o.x ∧ o.x < 1048576
section
variable {b c d rb pb ob : Nat} {w : Wk} {R : List Part} {h : GH} {K : Value → GH → Prop} {o : Op}
theorem T_bkAt {c : Int} (hp : All (pts b (wkRow w) :: R) h) (ok : w.ok) (h0 : 0 ≤ c) (h1 : c < 16) (hK : ∀ ab h', All (pts ab (acRow b c (w.get c).1) :: pts b (wkRow (w.get c).2) :: R) h' → K (ptr ab) h') : T Tryz.prog 205 [ptr b, i64 c] h K := by
  apply S205_T
  unfold S205
  have g := (Wk.get_ok ok h0 h1).2
  obtain ⟨g1, g2⟩ := g
  refine T_wGet hp ok h0 h1 fun h2 hp => ?_
  refine wk ?_
  refine nw hp (acRow b c (w.get c).1) rfl fun ab h3 hp => ?_
  exact hK _ _ hp
theorem T_bkHas {ab : Nat} {c x y : Int} (hp : All (pts ab (acRow b c y) :: pts b (wkRow w) :: R) h) (ok : w.ok) (h0 : 0 ≤ c) (h1 : c < 16) (x0 : -1 ≤ x) (x1 : x < 1099511627775) (hK : ∀ h', All (pts b (wkRow (w.set c (x + 1))) :: R) h' → K (ansV ⟨0, x⟩) h') : T Tryz.prog 207 [ptr ab, i64 x] h K := by
  apply S207_T
  unfold S207
  refine nw hp (resRow (i64 0) (i64 0)) rfl fun rb h1 hp => ?_
  refine wk ?_
  replace hp := hp.up 2
  replace hp := hn hp
  refine T_wSet hp ok h0 (by (first | omega | (simp only; omega))) fun h2 hp => ?_
  refine T_bkDone ?_
  replace hp := hp.re 2 [1, 0]
  replace hp := hn hp
  refine retA hp fun h3 hp => ?_
  exact hK _ (hp.re 2 [0])
theorem T_bkOpen (hp : All (pts ob (opRow o) :: pts b (wkRow w) :: R) h) (ok : w.ok) (ho : Bk o) (hk : o.kind = 0) (hK : ∀ h', All (pts b (wkRow (w.bank o).2) :: pts ob (opRow o) :: R) h' → K (ansV (w.bank o).1) h') : T Tryz.prog 194 [ptr b, ptr ob] h K := by
  apply S194_T
  unfold S194
  obtain ⟨kd, oa, ob_, ox⟩ := o
  simp only at hk
  subst hk
  obtain ⟨⟨a0, a1⟩, ⟨b0, b1⟩, x0, x1⟩ := ho
  simp only at a0 a1 x0 x1
  refine nw hp (resRow (i64 0) (i64 0)) rfl fun rb h1 hp => ?_
  unfold Wk.bank at hK
  simp only at hK
  rw [if_neg (by decide), if_pos trivial] at hK
  refine wk ?_
  have g := Wk.get_ok ok a0 (by omega : oa < 16)
  replace hp := hp.up 2
  replace hp := hn hp
  refine T_bkAt hp ok a0 (by (first | omega | (simp only; omega))) fun ab h2 hp => ?_
  obtain ⟨g0, g1, g2⟩ := g
  generalize w.get oa = g at hp hK g0 g1 g2
  refine wk ?_
  refine ifV_cases (fun c => ?_) fun c => ?_
  · rw [if_pos c] at hK
    refine T_bkCode ?_
    replace hp := hp.re 4 [2, 1, 3]
    replace hp := hn hp
    exact retA hp hK
  · rw [if_neg c] at hK
    replace hp := hp.re 4 [3, 0, 1, 2]
    replace hp := hn hp
    refine wk ?_
    replace hp := hp.re 4 [1, 2, 0, 3]
    replace hp := hn hp
    refine T_bkHas hp g0 a0 (by (first | omega | (simp only; omega))) (by (first | omega | (simp only; omega))) (by (first | omega | (simp only; omega))) fun h3 hp => ?_
    replace hp := hp.re 3 [2, 0, 1]
    replace hp := hn hp
    exact retA hp hK
theorem T_bkCloses (hp : All (pts ob (opRow o) :: pts b (wkRow w) :: R) h) (ok : w.ok) (ho : Bk o) (hk : o.kind = 1) (hK : ∀ h', All (pts b (wkRow (w.bank o).2) :: pts ob (opRow o) :: R) h' → K (ansV (w.bank o).1) h') : T Tryz.prog 195 [ptr b, ptr ob] h K := by
  apply S195_T
  unfold S195
  obtain ⟨kd, oa, ob_, ox⟩ := o
  simp only at hk
  subst hk
  obtain ⟨⟨a0, a1⟩, ⟨b0, b1⟩, x0, x1⟩ := ho
  simp only at a0 a1 x0 x1
  refine nw hp (resRow (i64 0) (i64 0)) rfl fun rb h1 hp => ?_
  unfold Wk.bank at hK
  simp only at hK
  rw [if_neg (by decide), if_neg (by decide), if_neg (by decide)] at hK
  refine wk ?_
  have g := Wk.get_ok ok a0 (by omega : oa < 16)
  replace hp := hp.up 2
  replace hp := hn hp
  refine T_bkAt hp ok a0 (by (first | omega | (simp only; omega))) fun ab h2 hp => ?_
  obtain ⟨g0, g1, g2⟩ := g
  generalize w.get oa = g at hp hK g0 g1 g2
  refine wk ?_
  refine ifN_cases (fun c => ?_) fun c => ?_
  · rw [if_pos (by omega)] at hK
    refine T_bkCode ?_
    replace hp := hp.re 4 [2, 1, 3]
    replace hp := hn hp
    exact retA hp hK
  · rw [if_neg (by omega), if_pos trivial] at hK
    refine wk ?_
    replace hp := hp.re 4 [1, 0, 2, 3]
    replace hp := hn hp
    refine T_wSet hp g0 a0 (by (first | omega | (simp only; omega))) fun h3 hp => ?_
    refine wk ?_
    refine T_bkDone ?_
    replace hp := hp.re 4 [2, 0, 3]
    replace hp := hn hp
    exact retA hp hK
theorem T_bkDeposit (hp : All (pts ob (opRow o) :: pts b (wkRow w) :: R) h) (ok : w.ok) (ho : Bk o) (hk : o.kind = 2) (hK : ∀ h', All (pts b (wkRow (w.bank o).2) :: pts ob (opRow o) :: R) h' → K (ansV (w.bank o).1) h') : T Tryz.prog 196 [ptr b, ptr ob] h K := by
  apply S196_T
  unfold S196
  obtain ⟨kd, oa, ob_, ox⟩ := o
  simp only at hk
  subst hk
  obtain ⟨⟨a0, a1⟩, ⟨b0, b1⟩, x0, x1⟩ := ho
  simp only at a0 a1 x0 x1
  refine nw hp (resRow (i64 0) (i64 0)) rfl fun rb h1 hp => ?_
  unfold Wk.bank at hK
  simp only at hK
  rw [if_neg (by decide), if_neg (by decide), if_neg (by decide)] at hK
  refine wk ?_
  have g := Wk.get_ok ok a0 (by omega : oa < 16)
  replace hp := hp.up 2
  replace hp := hn hp
  refine T_bkAt hp ok a0 (by (first | omega | (simp only; omega))) fun ab h2 hp => ?_
  obtain ⟨g0, g1, g2⟩ := g
  generalize w.get oa = g at hp hK g0 g1 g2
  replace hp := hp.re 4 [0, 3, 1, 2]
  replace hp := hn hp
  refine wk ?_
  refine ifN_cases (fun c => ?_) fun c => ?_
  · rw [if_pos (by omega)] at hK
    refine T_bkCode ?_
    replace hp := hp.re 4 [3, 2, 1]
    replace hp := hn hp
    exact retA hp hK
  · rw [if_neg (by omega), if_neg (by decide), if_pos trivial] at hK
    refine wk ?_
    refine ifV_cases (fun c2 => ?_) fun c2 => ?_
    · replace c2 : 1048575 - ox < g.1 - 1 := c2
      rw [if_pos (by omega)] at hK
      refine T_bkCode ?_
      replace hp := hp.re 4 [3, 2, 1]
      replace hp := hn hp
      exact retA hp hK
    · replace c2 : ¬ 1048575 - ox < g.1 - 1 := c2
      rw [if_neg (by omega)] at hK
      refine wk ?_
      replace hp := hp.re 4 [0, 2, 1, 3]
      replace hp := hn hp
      refine T_bkHas hp g0 a0 (by (first | omega | (simp only; omega))) (by (first | omega | (simp only; omega))) (by (first | omega | (simp only; omega))) fun h3 hp => ?_
      replace hp := hp.re 3 [2, 0, 1]
      replace hp := hn hp
      exact retA hp hK
theorem T_bkWithdraw (hp : All (pts ob (opRow o) :: pts b (wkRow w) :: R) h) (ok : w.ok) (ho : Bk o) (hk : o.kind = 3) (hK : ∀ h', All (pts b (wkRow (w.bank o).2) :: pts ob (opRow o) :: R) h' → K (ansV (w.bank o).1) h') : T Tryz.prog 197 [ptr b, ptr ob] h K := by
  apply S197_T
  unfold S197
  obtain ⟨kd, oa, ob_, ox⟩ := o
  simp only at hk
  subst hk
  obtain ⟨⟨a0, a1⟩, ⟨b0, b1⟩, x0, x1⟩ := ho
  simp only at a0 a1 x0 x1
  refine nw hp (resRow (i64 0) (i64 0)) rfl fun rb h1 hp => ?_
  unfold Wk.bank at hK
  simp only at hK
  rw [if_neg (by decide), if_neg (by decide), if_neg (by decide)] at hK
  refine wk ?_
  have g := Wk.get_ok ok a0 (by omega : oa < 16)
  replace hp := hp.up 2
  replace hp := hn hp
  refine T_bkAt hp ok a0 (by (first | omega | (simp only; omega))) fun ab h2 hp => ?_
  obtain ⟨g0, g1, g2⟩ := g
  generalize w.get oa = g at hp hK g0 g1 g2
  replace hp := hp.re 4 [0, 3, 1, 2]
  replace hp := hn hp
  refine wk ?_
  refine ifN_cases (fun c => ?_) fun c => ?_
  · rw [if_pos (by omega)] at hK
    refine T_bkCode ?_
    replace hp := hp.re 4 [3, 2, 1]
    replace hp := hn hp
    exact retA hp hK
  · rw [if_neg (by omega), if_neg (by decide), if_neg (by decide)] at hK
    refine wk ?_
    refine ifV_cases (fun c2 => ?_) fun c2 => ?_
    · replace c2 : g.1 - 1 < ox := c2
      rw [if_pos (by omega)] at hK
      refine T_bkCode ?_
      replace hp := hp.re 4 [3, 2, 1]
      replace hp := hn hp
      exact retA hp hK
    · replace c2 : ¬ g.1 - 1 < ox := c2
      rw [if_neg (by omega)] at hK
      refine wk ?_
      replace hp := hp.re 4 [0, 2, 1, 3]
      replace hp := hn hp
      refine T_bkHas hp g0 a0 (by (first | omega | (simp only; omega))) (by (first | omega | (simp only; omega))) (by (first | omega | (simp only; omega))) fun h3 hp => ?_
      replace hp := hp.re 3 [2, 0, 1]
      replace hp := hn hp
      exact retA hp hK
theorem T_bkTransfer (hp : All (pts ob (opRow o) :: pts b (wkRow w) :: R) h) (ok : w.ok) (ho : Bk o) (hk : o.kind = 4) (hK : ∀ h', All (pts b (wkRow (w.bank o).2) :: pts ob (opRow o) :: R) h' → K (ansV (w.bank o).1) h') : T Tryz.prog 198 [ptr b, ptr ob] h K := by
  apply S198_T
  unfold S198
  obtain ⟨kd, oa, ob_, ox⟩ := o
  simp only at hk
  subst hk
  obtain ⟨⟨a0, a1⟩, ⟨b0, b1⟩, x0, x1⟩ := ho
  simp only at a0 a1 b0 b1 x0 x1
  refine nw hp (resRow (i64 0) (i64 0)) rfl fun rb h1 hp => ?_
  unfold Wk.bank at hK
  simp only at hK
  rw [if_neg (by decide), if_neg (by decide), if_pos trivial] at hK
  refine wk ?_
  have g := Wk.get_ok ok a0 (by omega : oa < 16)
  replace hp := hp.up 2
  replace hp := hn hp
  refine T_bkAt hp ok a0 (by (first | omega | (simp only; omega))) fun ab h2 hp => ?_
  obtain ⟨g0, g1, g2⟩ := g
  generalize w.get oa = g at hp hK g0 g1 g2
  replace hp := hp.re 4 [0, 3, 1, 2]
  replace hp := hn hp
  refine wk ?_
  replace hp := hp.re 4 [2, 0, 1, 3]
  replace hp := hn hp
  have k := Wk.get_ok g0 b0 (by omega : ob_ < 16)
  refine T_bkAt hp g0 b0 (by (first | omega | (simp only; omega))) fun db h3 hp => ?_
  obtain ⟨k0, k1, k2⟩ := k
  generalize g.2.get ob_ = k at hp hK k0 k1 k2
  replace hp := hp.re 5 [2, 0, 3, 1, 4]
  replace hp := hn hp
  have j1 : ∀ q : Bool, (q = true ↔ g.1 = 0 ∨ k.1 = 0) → S198_j1 (ptr ob) (ptr rb) (ptr ab) (ptr db) (.bool q) h3 K := by
    intro q hq
    unfold S198_j1
    cases q with
    | true =>
      rw [if_pos (hq.1 rfl)] at hK
      refine wk ?_
      refine T_bkCode ?_
      replace hp := hp.re 5 [4, 3, 2]
      replace hp := hn hp
      exact retA hp hK
    | false =>
      have hq' : ¬ (g.1 = 0 ∨ k.1 = 0) := fun e => by have := hq.2 e; cases this
      rw [if_neg hq'] at hK
      refine wk ?_
      refine ifV_cases (fun c2 => ?_) fun c2 => ?_
      · replace c2 : g.1 - 1 < ox := c2
        rw [if_pos (by omega)] at hK
        refine T_bkCode ?_
        replace hp := hp.re 5 [4, 3, 2]
        replace hp := hn hp
        exact retA hp hK
      · replace c2 : ¬ g.1 - 1 < ox := c2
        rw [if_neg (by omega)] at hK
        refine wk ?_
        refine ifV_cases (fun c3 => ?_) fun c3 => ?_
        · replace c3 : oa = ob_ := c3
          rw [if_pos c3] at hK
          refine wk ?_
          refine T_bkDone ?_
          replace hp := hp.re 5 [4, 3, 2]
          replace hp := hn hp
          exact retA hp hK
        · replace c3 : ¬ oa = ob_ := c3
          rw [if_neg c3] at hK
          refine wk ?_
          refine ifV_cases (fun c4 => ?_) fun c4 => ?_
          · replace c4 : 1048575 - ox < k.1 - 1 := c4
            rw [if_pos (by omega)] at hK
            refine T_bkCode ?_
            replace hp := hp.re 5 [4, 3, 2]
            replace hp := hn hp
            exact retA hp hK
          · replace c4 : ¬ 1048575 - ox < k.1 - 1 := c4
            rw [if_neg (by omega)] at hK
            unfold S198_j2
            refine wk ?_
            replace hp := hp.re 5 [1, 3, 0, 2, 4]
            replace hp := hn hp
            refine T_bkHas hp k0 b0 (by (first | omega | (simp only; omega))) (by (first | omega | (simp only; omega))) (by (first | omega | (simp only; omega))) fun h4 hp => ?_
            replace hp := hp.re 4 [1, 2, 0, 3]
            replace hp := hn hp
            refine wk ?_
            replace hp := hp.re 4 [0, 2, 1, 3]
            replace hp := hn hp
            refine T_bkHas hp (Wk.set_ok k0 _ (by constructor <;> (first | omega | (simp only; omega)))) a0 (by (first | omega | (simp only; omega))) (by (first | omega | (simp only; omega))) (by (first | omega | (simp only; omega))) fun h5 hp => ?_
            replace hp := hp.re 3 [2, 0, 1]
            replace hp := hn hp
            exact retA hp hK
  refine wk ?_
  refine ifN_cases (fun c => ?_) fun c => ?_
  · exact j1 true ⟨fun _ => .inl (by omega), fun _ => rfl⟩
  · refine wk ?_
    refine j1 _ ?_
    simp only [Bool.not_eq_true', decide_eq_false_iff_not]
    omega
theorem Wk.sum_ok : ∀ {n : Nat} {w : Wk} {i all : Int}, w.ok → 0 ≤ i → i + n ≤ 16 → (w.sum n i all).2.ok := by
  intro n
  induction n with
  | zero => intro w i all o _ _; exact o
  | succ n ih =>
    intro w i all o h0 h1
    unfold Wk.sum
    exact ih (Wk.get_ok o h0 (by omega)).1 (by omega) (by omega)
theorem T_bkSum (hp : All (pts ob (opRow o) :: pts b (wkRow w) :: R) h) (ok : w.ok) (hk : o.kind = 5) (hK : ∀ h', All (pts b (wkRow (w.bank o).2) :: pts ob (opRow o) :: R) h' → K (ansV (w.bank o).1) h') : T Tryz.prog 199 [ptr b, ptr ob] h K := by
  apply S199_T
  unfold S199
  refine nw hp (resRow (i64 0) (i64 0)) rfl fun rb h1 hp => ?_
  unfold Wk.bank at hK
  rw [if_pos hk] at hK
  generalize hr : w.sum 4 0 0 = r at hK
  refine Lfp_fam (ι := Nat × Wk × Int) (fun p => [ptr b, ptr rb, i64 p.2.2, i64 p.1]) (fun p h' => p.1 ≤ 4 ∧ p.2.1.ok ∧ 0 ≤ p.2.2 ∧ p.2.2 ≤ p.1 * 1099511627776 ∧ p.2.1.sum (4 - p.1) p.1 p.2.2 = r ∧ All (pts rb (resRow (i64 0) (i64 0)) :: pts ob (opRow o) :: pts b (wkRow p.2.1) :: R) h') (fun p => 4 - p.1) ?_ (0, w, 0) h1 ⟨by simp, ok, by simp, by simp, hr, hp⟩
  rintro ⟨i, w1, all⟩ h3 X ⟨hi, ok1, s0, s1, hb, hp⟩ again
  simp only at hi ok1 s0 s1 hb hp
  simp only [tup_zero, tup_succ]
  refine wk ?_
  refine ifV_cases (fun c => ?_) fun c => ?_
  · obtain ⟨m, hm⟩ : ∃ m, 4 - i = m + 1 := ⟨3 - i, by omega⟩
    rw [hm] at hb
    unfold Wk.sum at hb
    have g := Wk.get_ok ok1 (c := i) (by omega) (by omega)
    replace hp := hp.up 2
    replace hp := hn hp
    refine T_bkAt hp ok1 (by (first | omega | (simp only; omega))) (by (first | omega | (simp only; omega))) fun ab h2 hp => ?_
    obtain ⟨g0, g1, g2⟩ := g
    have em : 4 - (i + 1) = m := by omega
    generalize w1.get (i : Int) = g at hp hb g0 g1 g2
    refine wk ?_
    refine ifV_cases (fun c2 => ?_) fun c2 => ?_
    · refine wk ?_
      replace hp := hp.re 4 [2, 3, 1]
      replace hp := hn hp
      rw [show max 0 (g.1 - 1) = g.1 - 1 by omega] at hb
      exact again (i + 1, g.2, all + (g.1 - 1)) _ ⟨by simp only; omega, g0, by simp only; omega, by simp only; omega, by simp only [em]; exact_mod_cast hb, hp⟩ (by simp only; omega)
    · refine wk ?_
      replace hp := hp.re 4 [2, 3, 1]
      replace hp := hn hp
      rw [show max 0 (g.1 - 1) = 0 by omega, Int.add_zero] at hb
      exact again (i + 1, g.2, all) _ ⟨by simp only; omega, g0, by simp only; omega, by simp only; omega, by simp only [em]; exact_mod_cast hb, hp⟩ (by simp only; omega)
  · rw [show 4 - i = 0 by omega] at hb
    subst hb
    refine T_bkDone ?_
    refine retA hp fun h2 hp => ?_
    exact hK _ (hp.re 2 [1, 0])
end
end Go.Proofs.YtcpfkkppfgolaaaGreatDoor
namespace Go.Proofs.YtcpfkkppfgolaaaGreatDoor
open Go GW Go.Proofs
attribute [local irreducible] bnd ldV stV ifV binV eqI
theorem setCells_mid {t : List Value} : ∀ {b a p : List Value}, a.length = b.length → setCells (p ++ (a ++ t)) p.length b = p ++ (b ++ t) := by
  intro b
  induction b with
  | nil => intro a p h; cases a with
    | nil => rfl
    | cons x a => simp at h
  | cons x b ih =>
    intro a p h
    cases a with
    | nil => simp at h
    | cons y a =>
      have e : (p ++ ((y :: a) ++ t)).set p.length x = (p ++ [x]) ++ (a ++ t) := by simp
      have e2 := ih (a := a) (p := p ++ [x]) (by simpa using h)
      simp only [setCells_cons, e]
      simp only [List.length_append, List.length_singleton] at e2
      rw [e2]; simp
abbrev vwV (v : Vw) : Value := .agg v.cells.toArray
def vwRow (v : Vw) : GObj := .row 258 v.cells 48 true
def askC (x : Int) (v : Vw) (s : Value) : List Value := i64 x :: (v.cells ++ [s])
def askV (x : Int) (v : Vw) (s : Value) : Value := .agg (askC x v s).toArray
def needN : Option Int → Int
  | none => -1
  | some c => c
def vwZ : Vw := ⟨List.replicate 16 false, List.replicate 16 0, List.replicate 16 0⟩
theorem vwZ_ok : vwZ.ok := ⟨rfl, rfl, rfl, fun x h => by rw [List.eq_of_mem_replicate h]; exact Vw.val0, fun x h => by rw [List.eq_of_mem_replicate h]; exact Vw.val0⟩
def askZ : List Value := askC 0 vwZ (.slice none 0 0)
section
variable {v : Vw} {x : Int} {s : Value}
theorem askC_len (o : v.ok) : (askC x v s).length = 50 := by simp [askC, Vw.len o]
theorem fill_view (o : v.ok) {z p t : List Value} (hz : z.length = 48) (r : List (Nat × Nat × Value)) : fillV (p ++ (z ++ t)) ((p.length, 48, vwV v) :: r) = fillV (p ++ (v.cells ++ t)) r := by
  have hl := Vw.len o
  conv => lhs; unfold fillV
  have e1 : Nat.beq (vwV v).cells.size 48 = true := by show Nat.beq v.cells.toArray.size 48 = true; rw [List.size_toArray, hl]; rfl
  have e2 : Nat.ble (p.length + 48) (p ++ (z ++ t)).length = true := Nat.ble_eq_true_of_le (by simp [hz])
  rw [e1, e2]
  show fillV (setCells _ _ v.cells) r = _
  rw [setCells_mid (by rw [hz, hl])]
theorem fill_one {p z t : List Value} {a : Value} {y : Value} (ha : a.cells = #[a]) (hz : z.length = 1) (r : List (Nat × Nat × Value)) : fillV (p ++ (z ++ t)) ((p.length, 1, a) :: r) = fillV (p ++ ([a] ++ t)) r := by
  conv => lhs; unfold fillV
  have e2 : Nat.ble (p.length + 1) (p ++ (z ++ t)).length = true := Nat.ble_eq_true_of_le (by simp [hz])
  rw [ha, e2]
  show fillV (setCells _ _ [a]) r = _
  rw [setCells_mid (by rw [hz]; rfl)]
theorem fill_ask2 (o : v.ok) : fillV askZ [(0, 1, i64 x), (1, 48, vwV v)] = some (askC x v (.slice none 0 0)) := by
  show fillV ([] ++ ([i64 0] ++ (vwZ.cells ++ [.slice none 0 0]))) ((([] : List Value).length, 1, i64 x) :: _) = _
  rw [fill_one (y := i64 0) rfl rfl]
  show fillV ([i64 x] ++ (vwZ.cells ++ [.slice none 0 0])) ((([i64 x] : List Value).length, 48, vwV v) :: _) = _
  rw [fill_view o (Vw.len vwZ_ok)]; rfl
theorem fill_ask3 (o : v.ok) (hs : s.cells = #[s]) : fillV askZ [(0, 1, i64 x), (1, 48, vwV v), (49, 1, s)] = some (askC x v s) := by
  show fillV ([] ++ ([i64 0] ++ (vwZ.cells ++ [.slice none 0 0]))) ((([] : List Value).length, 1, i64 x) :: _) = _
  rw [fill_one (y := i64 0) rfl rfl]
  show fillV ([i64 x] ++ (vwZ.cells ++ [.slice none 0 0])) ((([i64 x] : List Value).length, 48, vwV v) :: _) = _
  rw [fill_view o (Vw.len vwZ_ok)]
  have e : ([i64 x] ++ (v.cells ++ [.slice none 0 0]) : List Value) = ([i64 x] ++ v.cells) ++ ([.slice none 0 0] ++ []) := by simp
  have e2 : (49 : Nat) = ([i64 x] ++ v.cells).length := by simp [Vw.len o]
  rw [e, e2, fill_one (y := i64 0) hs rfl]
  unfold fillV
  simp [askC]
theorem fill_walk (o : v.ok) : fillV (List.replicate 16 (.bool false) ++ List.replicate 32 (i64 0) ++ [.nilIface]) [(0, 48, vwV v)] = some (v.cells ++ [.nilIface]) := by
  show fillV ([] ++ ((List.replicate 16 (.bool false) ++ List.replicate 32 (i64 0)) ++ [.nilIface])) [(([] : List Value).length, 48, vwV v)] = _
  rw [fill_view o (by simp)]; rfl
end
section
variable {b c d rb pb ob : Nat} {v : Vw} {w : Wk} {R : List Part} {h : GH} {K : Value → GH → Prop} {o : Op}
theorem nwView (hp : All R h) (ok : v.ok) (k : ∀ b h', All (pts b (vwRow v) :: R) h' → K (ptr b) h') : newV 258 (vwV v).cells.toList h K := by
  refine nw hp (vwRow v) ?_ k
  show GObj.row _ v.cells v.cells.length _ = _
  rw [Vw.len ok]; rfl
theorem retK {z : List Value} {x : Int} {s : Value} (hp : All (pts rb (.row 260 z 50 true) :: R) h) (hz : z.length = 50) (ok : v.ok) (hs : oneCell s = true) (k : ∀ h', All R h' → K (askV x v s) h') :
    bnd (stV 50 (ptr rb) (askV x v s) h) fun h' => bnd (ldV 50 true (ptr rb) h') fun u => K u h' := by
  have hl := askC_len (x := x) (s := s) ok
  refine st0 hp (.row 260 (askC x v s) 50 true) ?_ (by omega) ?_ ?_ fun h1 hp => ?_
  · show (askC x v s).toArray.size = 50
    rw [List.size_toArray, hl]
  · show (askC x v s).toArray.toList.all oneCell = true
    simp only [askC, List.all_cons, List.all_append, List.all_nil, Bool.and_true, Vw.one_cells, hs]; rfl
  · show GObj.row _ (setCells z 0 (askC x v s).toArray.toList) _ _ = _
    rw [setCells_all (by simp [hz, hl])]
  · refine la0 hp (c := askC x v s) (by omega) (by rw [List.drop_zero, ← hl, List.take_length]) ?_
    exact k _ hp.tail
def askP (m : AskM) (u : Value) : Part := fun h => ∃ s, u = askV (needN m.need) m.view s ∧ rowP 2 s (m.ans.map Answer.enc) h
theorem askP_open {C : Prop} {m : AskM} {u : Value} (hp : All (askP m u :: R) h) (k : ∀ s, u = askV (needN m.need) m.view s → All (rowP 2 s (m.ans.map Answer.enc) :: R) h → C) : C := by
  obtain ⟨s, hp⟩ := All.ex hp
  obtain ⟨e, hp⟩ := All.pure hp
  exact k s e hp
theorem askP_mk {m : AskM} {s : Value} (hp : All (rowP 2 s (m.ans.map Answer.enc) :: R) h) : All (askP m (askV (needN m.need) m.view s) :: R) h := hp.head fun _ p => ⟨s, rfl, p⟩
theorem rowP_one {size : Nat} {s : Value} {cs : List (List Value)} (hp : All (rowP size s cs :: R) h) : oneCell s = true ∧ s.cells = #[s] := by
  obtain ⟨a, cap, junk, rfl, _⟩ := hp.row
  exact ⟨rfl, rfl⟩
def askOf (v : Vw) (r : Answer × Wk) : AskM :=
  match r.2.need with
  | some c => ⟨some c, v, []⟩
  | none => ⟨none, if r.1.code = 0 then r.2.v else v, [r.1]⟩
theorem T_wAsk {a : Answer} (hp : All (pts b (wkRow w) :: pts c (vwRow v) :: R) h) (ok : w.ok) (vok : v.ok) (hK : ∀ u h', All (askP (askOf v (a, w)) u :: pts c (vwRow v) :: R) h' → K u h') : T Tryz.prog 188 [ptr b, ptr c, ansV a] h K := by
  apply S188_T
  unfold S188
  refine nw hp (.row 103 a.enc 2 true) rfl fun ab h1 hp => ?_
  refine nw hp (.row 260 askZ 50 true) rfl fun rb h2 hp => ?_
  refine wk ?_
  refine ld2 hp (Vw.cell_t ok.v) ?_
  have hv : (v.cells.drop 0).take 48 = v.cells := by rw [List.drop_zero, ← Vw.len vok, List.take_length]
  have hw : ((w.v.cells ++ [needV w.need]).drop 0).take 48 = w.v.cells := Vw.take_t ok.v
  unfold askOf at hK
  cases hn : w.need with
  | some d =>
    simp only [hn] at hK hp
    refine wk ?_
    replace hp := hp.re 4 [3, 0]
    replace hp := Go.Proofs.YtcpfkkppfgolaaaGreatDoor.hn hp
    refine la0 hp (c := v.cells) (by rw [Vw.len vok]; decide) hv ?_
    refine bnd_of (fill_ask2 vok) ?_
    replace hp := hp.up 1
    replace hp := Go.Proofs.YtcpfkkppfgolaaaGreatDoor.hn hp
    refine retK (K := K) hp (askC_len vwZ_ok) vok rfl fun h3 hp => ?_
    exact hK _ _ (askP_mk (m := ⟨some d, v, []⟩) (hp.emp_cons (rowP_nil 2 _)))
  | none =>
    simp only [hn] at hK hp
    refine wk ?_
    refine la2 hp (c := w.v.cells) (by simp [Vw.len ok.v]) (Vw.take_t ok.v) ?_
    refine la1 hp (c := a.enc) (by simp [Answer.enc]) rfl ?_
    refine bs0 (size := 2) hp ([a].map Answer.enc) rfl rfl (by simp) (fun c hc => by rw [List.mem_singleton.1 hc]; exact a.enc_good) fun s h3 hp => ?_
    have hs := rowP_one hp
    refine bnd_of (fill_ask3 (x := -1) ok.v hs.2) ?_
    replace hp := hp.re 5 [1, 2, 0, 4]
    replace hp := Go.Proofs.YtcpfkkppfgolaaaGreatDoor.hn hp
    have hl := askC_len (x := -1) (s := s) ok.v
    have hlv := askC_len (x := -1) (s := s) vok
    refine nwst hp (.row 260 (askC (-1) w.v s) 50 true) ?_ (by decide) ?_ rfl fun kb h4 hp => ?_
    · show (askC (-1) w.v s).toArray.size = 50
      rw [List.size_toArray, hl]
    · show (askC (-1) w.v s).toArray.toList.all oneCell = true
      simp only [askC, List.all_cons, List.all_append, List.all_nil, Bool.and_true, Vw.one_cells, hs.1]; rfl
    · replace hp := hp.re 5 [2, 0, 1, 3, 4]
      replace hp := Go.Proofs.YtcpfkkppfgolaaaGreatDoor.hn hp
      refine wk ?_
      refine ifN_cases (fun q => ?_) fun q => ?_
      · replace q : ¬ a.code = 0 := q
        rw [if_neg q] at hK
        replace hp := hp.re 5 [1, 2, 3, 4]
        replace hp := Go.Proofs.YtcpfkkppfgolaaaGreatDoor.hn hp
        refine wk ?_
        refine wK (ldV_agg (hp.pt (i := 3) rfl) 48 0 (by rw [Vw.len vok]; decide)) ?_
        rw [hv]
        refine wk ?_
        refine st0 hp (.row 260 (askC (-1) v s) 50 true) ?_ (by rw [hl]; decide) ?_ ?_ fun h5 hp => ?_
        · show v.cells.toArray.size = 48
          rw [List.size_toArray, Vw.len vok]
        · show v.cells.toArray.toList.all oneCell = true
          rw [List.toList_toArray]; exact Vw.one_cells
        · show GObj.row _ (setCells ([i64 (-1)] ++ (w.v.cells ++ [s])) ([i64 (-1)] : List Value).length v.cells.toArray.toList) _ _ = _
          rw [List.toList_toArray, setCells_mid (by rw [Vw.len vok, Vw.len ok.v])]; rfl
        · refine la0 hp (c := askC (-1) v s) (by rw [hlv]; decide) (by rw [List.drop_zero, ← hlv, List.take_length]) ?_
          replace hp := hp.re 4 [1, 2, 3]
          replace hp := Go.Proofs.YtcpfkkppfgolaaaGreatDoor.hn hp
          refine retK (K := K) hp (askC_len vwZ_ok) vok hs.1 fun h6 hp => ?_
          exact hK _ _ (askP_mk (m := ⟨none, v, [a]⟩) hp)
      · replace q : a.code = 0 := q
        rw [if_pos q] at hK
        replace hp := hp.re 5 [1, 2, 3, 4]
        replace hp := Go.Proofs.YtcpfkkppfgolaaaGreatDoor.hn hp
        refine la0 hp (c := askC (-1) w.v s) (by rw [hl]; decide) (by rw [List.drop_zero, ← hl, List.take_length]) ?_
        replace hp := hp.re 4 [1, 2, 3]
        replace hp := Go.Proofs.YtcpfkkppfgolaaaGreatDoor.hn hp
        refine retK (K := K) hp (askC_len vwZ_ok) ok.v hs.1 fun h6 hp => ?_
        exact hK _ _ (askP_mk (m := ⟨none, w.v, [a]⟩) hp)
end
end Go.Proofs.YtcpfkkppfgolaaaGreatDoor
namespace Go.Proofs.YtcpfkkppfgolaaaGreatDoor
open Go GW Go.Proofs
theorem ruleOf_range {k a b x : Int} (h : ruleOf k = some (a, b, x)) : 0 ≤ k ∧ k < 11 ∧ a ≤ 5 ∧ (k ≤ 5 → a ≤ 4 ∧ b ≤ 4 ∧ x ≤ 1048576) := by
  unfold ruleOf at h
  repeat' split at h
  all_goals first
    | (cases h; subst_vars; omega)
    | (cases h)
theorem Op.may_spec {o : Op} (m : o.may = true) : ∃ a b x, ruleOf o.kind = some (a, b, x) ∧ (0 ≤ o.a ∧ o.a < a) ∧ (0 ≤ o.b ∧ o.b < b) ∧ 0 ≤ o.x ∧ o.x < x := by
  unfold Op.may at m
  split at m
  · rename_i a b x e
    simp only [Bool.and_eq_true, decide_eq_true_eq] at m
    exact ⟨a, b, x, e, m⟩
  · cases m
theorem Op.may_kind {o : Op} (m : o.may = true) : 0 ≤ o.kind ∧ o.kind < 11 := by
  obtain ⟨a, b, x, e, _⟩ := Op.may_spec m
  have := ruleOf_range e; omega
theorem Op.may_bk {o : Op} (m : o.may = true) (h : o.kind ≤ 5) : Bk o := by
  obtain ⟨a, b, x, e, m⟩ := Op.may_spec m
  have := (ruleOf_range e).2.2.2 h
  unfold Bk; omega
theorem Op.may_sk {o : Op} (m : o.may = true) : 0 ≤ o.a ∧ o.a < 5 := by
  obtain ⟨a, b, x, e, m⟩ := Op.may_spec m
  have := (ruleOf_range e).2.2.1
  omega
section
variable {w : Wk} {o : Op}
theorem Wk.bank_ok (ok : w.ok) (ho : Bk o) (hk : 0 ≤ o.kind) (hk5 : o.kind ≤ 5) : (w.bank o).2.ok := by
  obtain ⟨⟨a0, a1⟩, ⟨b0, b1⟩, x0, x1⟩ := ho
  have g := Wk.get_ok ok a0 (by omega : o.a < 16)
  have k := Wk.get_ok g.1 b0 (by omega : o.b < 16)
  obtain ⟨g0, g1, g2⟩ := g
  obtain ⟨k0, k1, k2⟩ := k
  have s : (w.sum 4 0 0).2.ok := Wk.sum_ok ok (by decide) (by decide)
  unfold Wk.bank
  simp only
  generalize w.sum 4 0 0 = sm at s ⊢
  generalize (w.get o.a).2.get o.b = kk at *
  generalize w.get o.a = gg at *
  have V : ∀ {x : Int}, 0 ≤ x → x < 1099511627776 → Vw.val x := fun a b => ⟨a, b⟩
  repeat' split
  all_goals first
    | assumption
    | (refine Wk.set_ok (Wk.set_ok ?_ _ (V ?_ ?_)) _ (V ?_ ?_) <;> first | assumption | omega)
    | (refine Wk.set_ok ?_ _ (V ?_ ?_) <;> first | assumption | omega)
theorem Wk.bits_ok : ∀ {n : Nat} {w : Wk} {x b out : Int}, w.ok → -1 ≤ x → x < 5 → (w.bits n x b out).2.ok := by
  intro n
  induction n with
  | zero => intro w x b out o _ _; exact o
  | succ n ih =>
    intro w x b out o h0 h1
    unfold Wk.bits
    split
    · exact o
    · have g := Wk.next_ok o (show Lv x 0 from ⟨h0, h1, by decide, by decide⟩)
      exact ih g.1 (by omega) (by omega)
theorem Wk.insert_ok (ok : w.ok) {hi lo x : Int} (lh : Lv hi 1) (ll : Lv lo 0) (la : 0 ≤ o.a ∧ o.a < 5) : (w.insert o hi lo x).2.ok := by
  have l0 : Lv o.a 0 := ⟨by omega, la.2, by decide, by decide⟩
  have l1 : Lv o.a 1 := ⟨by omega, la.2, by decide, by decide⟩
  unfold Wk.insert
  split
  · exact ok
  · simp only
    split
    · exact Wk.put_ok (Wk.put_ok ok ll l0) lh l1
    · exact Wk.put_ok ok ll l0
theorem Wk.erase_ok (ok : w.ok) {hi lo x : Int} (lh : Lv hi 1) (ll : Lv lo 0) (la : 0 ≤ o.a ∧ o.a < 5) : (w.erase o hi lo x).2.ok := by
  have l0 : Lv o.a 0 := ⟨by omega, la.2, by decide, by decide⟩
  have l1 : Lv o.a 1 := ⟨by omega, la.2, by decide, by decide⟩
  have g := Wk.next_ok (Wk.drop_ok ok ll l0) lh
  unfold Wk.erase
  split
  · simp only
    split
    · exact Wk.drop_ok g.1 lh l1
    · exact g.1
  · exact ok
theorem Wk.place_ok (ok : w.ok) {key : Int} : let hi := w.before 7 key (-1) 1; let lo := hi.2.before 7 key hi.1 0; Lv hi.1 1 ∧ Lv lo.1 0 ∧ (lo.2.next lo.1 0).2.ok ∧ -1 ≤ (lo.2.next lo.1 0).1 ∧ (lo.2.next lo.1 0).1 < 5 := by
  have g1 := Wk.before_ok (n := 7) (key := key) ok (show Lv (-1) 1 by unfold Lv; omega)
  simp only
  generalize w.before 7 key (-1) 1 = hi at g1 ⊢
  have g2 := Wk.before_ok (n := 7) (key := key) g1.1 (show Lv hi.1 0 from ⟨g1.2.1, g1.2.2, by decide, by decide⟩)
  generalize hi.2.before 7 key hi.1 0 = lo at g2 ⊢
  have l3 : Lv lo.1 0 := ⟨by have := g1.2.1; have := g2.2.1; omega, g2.2.2, by decide, by decide⟩
  have g3 := Wk.next_ok g2.1 l3
  have := l3.1
  exact ⟨⟨g1.2.1, g1.2.2, by decide, by decide⟩, l3, g3.1, by omega, by omega⟩
theorem Wk.skip_ok (ok : w.ok) (la : 0 ≤ o.a ∧ o.a < 5) : (w.skip o).2.ok := by
  unfold Wk.skip
  split
  · exact (Wk.next_ok ok (show Lv (-1) 0 by unfold Lv; omega)).1
  · obtain ⟨p1, p2, p3, p4, p5⟩ := Wk.place_ok ok (key := o.a)
    simp only
    split
    · exact p3
    · split
      · exact Wk.bits_ok p3 p4 p5
      · split
        · exact Wk.insert_ok p3 p1 p2 la
        · exact Wk.erase_ok p3 p1 p2 la
end
theorem Vw.run_ok {v : Vw} {o : Op} (ok : v.ok) (m : o.may = true) : (if o.kind ≤ 5 then Wk.bank ⟨v, none⟩ o else Wk.skip ⟨v, none⟩ o).2.ok := by
  have wok : (⟨v, none⟩ : Wk).ok := ⟨ok, fun c e => by cases e⟩
  split
  · rename_i c; exact Wk.bank_ok wok (Op.may_bk m c) (Op.may_kind m).1 c
  · exact Wk.skip_ok wok (Op.may_sk m)
theorem Vw.one_ok {v : Vw} {o : Op} (ok : v.ok) (m : o.may = true) : (v.one o).view.ok ∧ (∀ c, (v.one o).need = some c → 0 ≤ c ∧ c < 16) ∧ ((v.one o).need = none → ∃ a, (v.one o).ans = [a]) := by
  have r := Vw.run_ok ok m
  unfold Vw.one
  simp only
  generalize (if o.kind ≤ 5 then Wk.bank ⟨v, none⟩ o else Wk.skip ⟨v, none⟩ o) = q at r ⊢
  cases hn : q.2.need with
  | some c => exact ⟨ok, (fun d e => by cases e; exact r.need c hn), fun e => by cases e⟩
  | none =>
    refine ⟨?_, (fun d e => by cases e), fun _ => ⟨_, rfl⟩⟩
    simp only
    split
    · exact r.v
    · exact ok
attribute [local irreducible] bnd ldV stV ifV binV eqI
theorem mup0 {b : Nat} {es : Array MapEntry} {clock : Nat} {l : List Part} {h : GH} {k x : Value} {K : GH → Prop} {ik : IntKind} (a : All (pts b (.obj (.map es clock)) :: l) h) (es' : Array MapEntry) (hf : Instr.findNow (.int ik) k es.toList 0 = some none) (he : es.push { key := k, val := x, born := clock } = es')
    (hK : ∀ h', All (pts b (.obj (.map es' (clock + 1))) :: l) h' → K h') : bnd (mupV ik (.map (some b)) k x h) K := by
  subst he
  have e := a.pt0
  refine bnd_of (v := GW.upd h b (.obj (.map (es.push { key := k, val := x, born := clock }) (clock + 1)))) ?_ (hK _ a.upd0)
  unfold mupV
  simp only [e, hf]
theorem mlk_at {b : Nat} {es : Array MapEntry} {clock : Nat} {h : GH} {k v : Value} {i : Nat} {ik : IntKind} (e : h b = some (.obj (.map es clock))) (hf : Instr.findNow (.int ik) k es.toList 0 = some (some (i, v))) : mlkV ik (.map (some b)) k h = some v := by
  unfold mlkV
  simp only [e, hf]
section
variable {b c d rb pb ob : Nat} {v : Vw} {w : Wk} {R : List Part} {h : GH} {K : Value → GH → Prop} {o : Op}
theorem T_cValueMay {x : Int} (hK : K (.bool (decide (0 ≤ x ∧ x < 1099511627776))) h) : T Tryz.prog 184 [i64 x] h K := by
  apply S184_T
  unfold S184
  exact T_Below hK
theorem T_cViewMay (hp : All (pts b (vwRow v) :: R) h) (ok : v.ok) (hK : K (.bool true) h) : T Tryz.prog 173 [ptr b] h K := by
  apply S173_T
  unfold S173
  refine Lfp_fam (ι := Nat) (fun p => [ptr b, i64 p]) (fun p h' => p ≤ 16 ∧ h' = h) (fun p => 16 - p) ?_ 0 h ⟨by omega, rfl⟩
  rintro i h2 X ⟨hi, rfl⟩ again
  simp only [tup_zero, tup_succ]
  refine wk ?_
  refine ifV_cases (fun q => ?_) fun q => hK
  have hi' : i < 16 := by omega
  have e1 := Vw.cell_w (t := []) ok hi'
  have e2 := Vw.cell_n (t := []) ok hi'
  rw [List.append_nil] at e1 e2
  have hw : Vw.val (v.w.getD i 0) := by
    rw [List.getD_eq_getElem?_getD]
    cases e : v.w[i]? with
    | none => exact Vw.val0
    | some x => exact ok.rw x (List.mem_of_getElem? e)
  have hn := ok.at i
  refine wk ?_
  refine bnd_of (iaV_at hi' .i64) ?_
  refine ld0 hp (off := 0 + 16 + i * 1) (by rw [Nat.zero_add, Nat.mul_one]; exact e1) ?_
  refine T_cValueMay ?_
  rw [decide_eq_true (show 0 ≤ v.w.getD i 0 ∧ v.w.getD i 0 < 1099511627776 from hw)]
  refine wk ?_
  refine bnd_of (iaV_at hi' .i64) ?_
  refine ld0 hp (off := 0 + 32 + i * 1) (by rw [Nat.zero_add, Nat.mul_one]; exact e2) ?_
  refine T_cValueMay ?_
  rw [decide_eq_true (show 0 ≤ v.n.getD i 0 ∧ v.n.getD i 0 < 1099511627776 from hn)]
  refine wk ?_
  exact again (i + 1) _ ⟨by omega, rfl⟩ (by omega)
theorem T_cOfBank {k : Int} (h0 : 0 ≤ k) (hK : K (.bool (decide (k ≤ 5))) h) : T Tryz.prog 77 [i64 k] h K := by
  apply S77_T
  unfold S77
  refine wk ?_
  refine ifV_p h0 ?_
  refine wk ?_
  exact hK
theorem opAt_pts (hp : All (pts ob (opRow o) :: R) h) : opAt h ob 0 o := fun j x e => by rw [ldV_cell hp.pt0, Nat.zero_add]; exact e
theorem T_bankDo (hp : All R h) (ok : v.ok) (m : o.may = true) (hk : o.kind ≤ 5) (hK : ∀ u h', All (askP (v.one o) u :: R) h' → K (.tuple #[u, i64 0]) h') : T Tryz.prog 175 [vwV v, .agg o.enc.toArray] h K := by
  apply S175_T
  unfold S175
  have k0 := (Op.may_kind m).1
  refine nwView hp ok fun vb h1 hp => ?_
  refine nw hp (opRow o) rfl fun ob h2 hp => ?_
  refine nw hp (.row 260 askZ 50 true) rfl fun rb h3 hp => ?_
  replace hp := hp.up 2
  replace hp := Go.Proofs.YtcpfkkppfgolaaaGreatDoor.hn hp
  refine T_cViewMay hp ok ?_
  refine wk ?_
  replace hp := hp.re 3 [2, 1, 0]
  replace hp := Go.Proofs.YtcpfkkppfgolaaaGreatDoor.hn hp
  refine T_OpMay (opAt_pts hp) ?_
  rw [m]
  refine wk ?_
  refine T_cOfBank k0 ?_
  rw [decide_eq_true hk]
  refine wk ?_
  unfold S175_j1
  refine wK (v := [Value.func (.func 194) #[] #[], .func (.func 195) #[] #[], .func (.func 196) #[] #[], .func (.func 197) #[] #[], .func (.func 198) #[] #[], .func (.func 199) #[] #[]]) rfl ?_
  refine nwst hp (.row _ [Value.func (.func 194) #[] #[], .func (.func 195) #[] #[], .func (.func 196) #[] #[], .func (.func 197) #[] #[], .func (.func 198) #[] #[], .func (.func 199) #[] #[]] 6 true) rfl rfl rfl rfl fun fb h4 hp => ?_
  have hv : (v.cells.drop 0).take 48 = v.cells := by rw [List.drop_zero, ← Vw.len ok, List.take_length]
  refine wK (ldV_agg (hp.pt (i := 3) rfl) 48 0 (by rw [Vw.len ok]; decide)) ?_
  rw [hv]
  refine bnd_of (fill_walk ok) ?_
  have wok : (⟨v, none⟩ : Wk).ok := ⟨ok, fun c e => by cases e⟩
  refine nw hp (wkRow ⟨v, none⟩) ?_ fun wb h5 hp => ?_
  · show GObj.row _ (v.cells ++ [Value.nilIface]) (v.cells ++ [Value.nilIface]).length _ = _
    rw [List.length_append, Vw.len ok]; rfl
  refine wk ?_
  have rest : ∀ (h6 : GH) (r : Answer × Wk), r.2.ok → askOf v r = v.one o → All (pts wb (wkRow r.2) :: pts ob (opRow o) :: pts rb (.row 260 askZ 50 true) :: pts vb (vwRow v) :: R) h6 → newV 103 [i64 0, i64 0] h6 (fun v15 h16 => bnd (stV 2 v15 (ansV r.1) h16) fun h17 => bnd (ldV 2 true v15 h17) fun v18 => T Tryz.prog 188 [ptr wb, ptr vb, v18] h17 fun v19 h20 => bnd (stV 50 (ptr rb) v19 h20) fun h21 => bnd (ldV 50 true (ptr rb) h21) fun v22 => K (.tuple #[v22, i64 0]) h21) := by
    intro h6 r rok e hp
    refine nw hp (resRow (i64 0) (i64 0)) rfl fun ab h7 hp => ?_
    refine retA (K := fun v18 h17 => T Tryz.prog 188 [ptr wb, ptr vb, v18] h17 fun v19 h20 => bnd (stV 50 (ptr rb) v19 h20) fun h21 => bnd (ldV 50 true (ptr rb) h21) fun v22 => K (.tuple #[v22, i64 0]) h21) hp fun h8 hp => ?_
    replace hp := hp.re 4 [0, 3, 2]
    replace hp := Go.Proofs.YtcpfkkppfgolaaaGreatDoor.hn hp
    refine T_wAsk hp rok ok fun u h9 hp => ?_
    rw [show (r.1, r.2) = r from rfl, e] at hp
    refine askP_open hp fun s eu hp => ?_
    have hs := rowP_one hp
    rw [eu]
    replace hp := hp.re 3 [2, 0]
    replace hp := Go.Proofs.YtcpfkkppfgolaaaGreatDoor.hn hp
    refine retK (K := fun u h => K (.tuple #[u, i64 0]) h) hp (askC_len vwZ_ok) (Vw.one_ok ok m).1 hs.1 fun h10 hp => ?_
    exact hK _ _ (askP_mk hp)
  have hone : ∀ r, r = Wk.bank ⟨v, none⟩ o → askOf v r = v.one o := fun r e => by
    unfold Vw.one; rw [if_pos hk, e]; rfl
  have rok := Wk.bank_ok wok (Op.may_bk m hk) k0 hk
  replace hp := hp.re 5 [2, 0, 1, 3, 4]
  replace hp := Go.Proofs.YtcpfkkppfgolaaaGreatDoor.hn hp
  obtain ⟨k, hkk⟩ := Int.eq_ofNat_of_zero_le k0
  have bk := Op.may_bk m hk
  have go : ∀ (F : FuncId), (∀ {K' : Value → GH → Prop}, (∀ h', All (pts wb (wkRow (Wk.bank ⟨v, none⟩ o).2) :: pts ob (opRow o) :: pts rb (.row 260 askZ 50 true) :: pts vb (vwRow v) :: R) h' → K' (ansV (Wk.bank ⟨v, none⟩ o).1) h') → T Tryz.prog F [ptr wb, ptr ob] h5 K') → [Value.func (.func 194) #[] #[], .func (.func 195) #[] #[], .func (.func 196) #[] #[], .func (.func 197) #[] #[], .func (.func 198) #[] #[], .func (.func 199) #[] #[]][k]? = some (.func (.func F) #[] #[]) → bnd (ldV 1 false (.pointer (some ⟨fb, 0 + k * 1, none⟩)) h5) fun v12 => callV Tryz.prog v12 [ptr wb, ptr ob] h5 fun v13 h14 => newV 103 [i64 0, i64 0] h14 (fun v15 h16 => bnd (stV 2 v15 v13 h16) fun h17 => bnd (ldV 2 true v15 h17) fun v18 => T Tryz.prog 188 [ptr wb, ptr vb, v18] h17 fun v19 h20 => bnd (stV 50 (ptr rb) v19 h20) fun h21 => bnd (ldV 50 true (ptr rb) h21) fun v22 => K (.tuple #[v22, i64 0]) h21) := by
    intro F hF hf
    refine ld2 hp (off := 0 + k * 1) (by rw [Nat.zero_add, Nat.mul_one]; exact hf) ?_
    show T Tryz.prog F [ptr wb, ptr ob] h5 _
    exact hF fun h6 hp => rest h6 _ rok (hone _ rfl) hp
  rw [hkk]
  have hk6 : k < 6 := by omega
  refine bnd_of (iaV_at hk6 .i64) ?_
  replace hp := hp.re 5 [0, 1, 3, 4]
  replace hp := Go.Proofs.YtcpfkkppfgolaaaGreatDoor.hn hp
  match k, hk6, hkk with
  | 0, _, e => exact go 194 (fun hK => T_bkOpen hp wok bk e hK) rfl
  | 1, _, e => exact go 195 (fun hK => T_bkCloses hp wok bk e hK) rfl
  | 2, _, e => exact go 196 (fun hK => T_bkDeposit hp wok bk e hK) rfl
  | 3, _, e => exact go 197 (fun hK => T_bkWithdraw hp wok bk e hK) rfl
  | 4, _, e => exact go 198 (fun hK => T_bkTransfer hp wok bk e hK) rfl
  | 5, _, e => exact go 199 (fun hK => T_bkSum hp wok e hK) rfl
end
end Go.Proofs.YtcpfkkppfgolaaaGreatDoor
namespace Go.Proofs.YtcpfkkppfgolaaaGreatDoor
open Go GW Go.Proofs
attribute [local irreducible] bnd ldV stV ifV binV eqI
def skMap : Array MapEntry := #[⟨i64 6, .func (.func 189) #[] #[], 0⟩, ⟨i64 7, .func (.func 190) #[] #[], 1⟩, ⟨i64 8, .func (.func 191) #[] #[], 2⟩, ⟨i64 10, .func (.func 192) #[] #[], 3⟩]
section
variable {b c d rb pb ob : Nat} {v : Vw} {w : Wk} {R : List Part} {h : GH} {K : Value → GH → Prop} {o : Op}
theorem T_skipDo (hp : All R h) (ok : v.ok) (m : o.may = true) (hk : 5 < o.kind) (hK : ∀ u h', All (askP (v.one o) u :: R) h' → K (.tuple #[u, i64 0]) h') : T Tryz.prog 174 [vwV v, .agg o.enc.toArray] h K := by
  apply S174_T
  unfold S174
  have k0 := (Op.may_kind m).1
  refine nwView hp ok fun vb h1 hp => ?_
  refine nw hp (opRow o) rfl fun ob h2 hp => ?_
  refine nw hp (.row 260 askZ 50 true) rfl fun rb h3 hp => ?_
  replace hp := hp.up 2
  replace hp := hn hp
  refine T_cViewMay hp ok ?_
  refine wk ?_
  replace hp := hp.re 3 [2, 1, 0]
  replace hp := hn hp
  refine T_OpMay (opAt_pts hp) ?_
  rw [m]
  refine wk ?_
  refine T_cOfBank k0 ?_
  rw [decide_eq_false (by omega)]
  refine wk ?_
  unfold S174_j1
  have hv : (v.cells.drop 0).take 48 = v.cells := by rw [List.drop_zero, ← Vw.len ok, List.take_length]
  refine wK (ldV_agg (hp.pt (i := 2) rfl) 48 0 (by rw [Vw.len ok]; decide)) ?_
  rw [hv]
  refine bnd_of (fill_walk ok) ?_
  have wok : (⟨v, none⟩ : Wk).ok := ⟨ok, fun c e => by cases e⟩
  refine nw hp (wkRow ⟨v, none⟩) ?_ fun wb h5 hp => ?_
  · show GObj.row _ (v.cells ++ [Value.nilIface]) (v.cells ++ [Value.nilIface]).length _ = _
    rw [List.length_append, Vw.len ok]; rfl
  refine wk ?_
  refine nwst hp (.row 307 [ptr wb] 1 true) rfl rfl rfl rfl fun lb h6 hp => ?_
  replace hp := hp.re 5 [2, 0, 1, 3, 4]
  replace hp := hn hp
  refine wk ?_
  have skOk := Wk.skip_ok wok (Op.may_sk m)
  have fin : ∀ (h7 : GH) (r : Answer × Wk), r = Wk.skip ⟨v, none⟩ o → All (pts wb (wkRow r.2) :: pts vb (vwRow v) :: pts rb (.row 260 askZ 50 true) :: R) h7 → T Tryz.prog 188 [ptr wb, ptr vb, ansV r.1] h7 (fun v19 h20 => bnd (stV 50 (ptr rb) v19 h20) fun h21 => bnd (ldV 50 true (ptr rb) h21) fun v22 => K (.tuple #[v22, i64 0]) h21) := by
    intro h7 r er hp
    have e : askOf v r = v.one o := by unfold Vw.one; rw [if_neg (by omega), er]; rfl
    refine T_wAsk hp (by rw [er]; exact skOk) ok fun u h9 hp => ?_
    rw [show (r.1, r.2) = r from rfl, e] at hp
    refine askP_open hp fun s eu hp => ?_
    have hs := rowP_one hp
    rw [eu]
    replace hp := hp.re 3 [2, 0]
    replace hp := hn hp
    refine retK (K := fun u h => K (.tuple #[u, i64 0]) h) hp (askC_len vwZ_ok) (Vw.one_ok ok m).1 hs.1 fun h10 hp => ?_
    exact hK _ _ (askP_mk hp)
  refine ifV_cases (fun c9 => ?_) fun c9 => ?_
  · replace c9 : o.kind = 9 := c9
    refine T_skCode ?_
    refine nwst hp (resRow (i64 2) (i64 0)) rfl rfl rfl rfl fun ab h7 hp => ?_
    refine la2 hp (c := [ptr wb]) (by simp) rfl ?_
    replace hp := hp.re 6 [3, 0, 5, 4]
    replace hp := hn hp
    have l0 : Lv (-1) 0 := by unfold Lv; omega
    refine T_sNext hp wok l0 fun h8 hp => ?_
    have es : Wk.skip ⟨v, none⟩ o = (if (Wk.next ⟨v, none⟩ (-1) 0).1 = -1 then ⟨2, 0⟩ else ⟨0, (Wk.next ⟨v, none⟩ (-1) 0).1⟩, (Wk.next ⟨v, none⟩ (-1) 0).2) := by unfold Wk.skip; rw [if_pos c9]
    generalize Wk.next ⟨v, none⟩ (-1) 0 = g at hp es
    replace hp := hp.up 1
    replace hp := hn hp
    refine wk ?_
    refine ifN_cases (fun q => ?_) fun q => ?_
    · rw [if_neg q] at es
      refine T_skDone ?_
      refine st0 hp (resRow (i64 0) (i64 g.1)) rfl (by simp) rfl rfl fun h9 hp => ?_
      refine la0 hp (c := (⟨0, g.1⟩ : Answer).enc) (by simp) rfl ?_
      exact fin _ (⟨0, g.1⟩, g.2) es.symm (hp.re 4 [1, 2, 3])
    · rw [if_pos q] at es
      refine la0 hp (c := (⟨2, 0⟩ : Answer).enc) (by simp) rfl ?_
      exact fin _ (⟨2, 0⟩, g.2) es.symm (hp.re 4 [1, 2, 3])
  · replace c9 : ¬ o.kind = 9 := c9
    refine fun mb hb => ?_
    replace hp := hp.new (g := .obj (.map #[] 0)) hb
    generalize GW.upd h6 mb (.obj (.map #[] 0)) = h7 at hp ⊢
    refine mup0 hp #[⟨i64 6, .func (.func 189) #[] #[], 0⟩] rfl rfl fun h8 hp => ?_
    refine mup0 hp #[⟨i64 6, .func (.func 189) #[] #[], 0⟩, ⟨i64 7, .func (.func 190) #[] #[], 1⟩] rfl rfl fun h8 hp => ?_
    refine mup0 hp #[⟨i64 6, .func (.func 189) #[] #[], 0⟩, ⟨i64 7, .func (.func 190) #[] #[], 1⟩, ⟨i64 8, .func (.func 191) #[] #[], 2⟩] rfl rfl fun h8 hp => ?_
    refine mup0 hp skMap rfl rfl fun h8 hp => ?_
    refine wk ?_
    have k11 := (Op.may_kind m).2
    have hkk : o.kind = 6 ∨ o.kind = 7 ∨ o.kind = 8 ∨ o.kind = 10 := by omega
    obtain ⟨F, i, hF⟩ : ∃ (F : FuncId) (i : Nat), Instr.findNow (.int .i64) (i64 o.kind) skMap.toList 0 = some (some (i, .func (.func F) #[] #[])) ∧ (o.kind = 6 → F = 189) ∧ (o.kind = 7 → F = 190) ∧ (o.kind = 8 → F = 191) ∧ (o.kind = 10 → F = 192) := by
      rcases hkk with e | e | e | e <;> rw [e]
      · exact ⟨_, _, rfl, fun _ => rfl, fun q => by omega, fun q => by omega, fun q => by omega⟩
      · exact ⟨_, _, rfl, fun q => by omega, fun _ => rfl, fun q => by omega, fun q => by omega⟩
      · exact ⟨_, _, rfl, fun q => by omega, fun q => by omega, fun _ => rfl, fun q => by omega⟩
      · exact ⟨_, _, rfl, fun q => by omega, fun q => by omega, fun q => by omega, fun _ => rfl⟩
    refine bnd_of (mlk_at hp.pt0 hF.1) ?_
    refine wK (ldV_agg (hp.pt (i := 2) rfl) 1 0 (by simp)) ?_
    refine wk ?_
    replace hp := hp.re 6 [3, 0, 1, 5, 4]
    replace hp := hn hp
    refine T_sFind hp wok fun pb h9 hp => ?_
    have pl := Wk.place_ok wok (key := o.a)
    have es : ∀ hi lo, hi = Wk.before 7 ⟨v, none⟩ o.a (-1) 1 → lo = hi.2.before 7 o.a hi.1 0 → Wk.skip ⟨v, none⟩ o = (if o.kind = 8 then (⟨0, if (lo.2.next lo.1 0).1 = o.a then 1 else 0⟩, (lo.2.next lo.1 0).2) else if o.kind = 10 then (⟨0, ((lo.2.next lo.1 0).2.bits 7 (lo.2.next lo.1 0).1 o.b 0).1⟩, ((lo.2.next lo.1 0).2.bits 7 (lo.2.next lo.1 0).1 o.b 0).2) else if o.kind = 6 then (lo.2.next lo.1 0).2.insert o hi.1 lo.1 (lo.2.next lo.1 0).1 else (lo.2.next lo.1 0).2.erase o hi.1 lo.1 (lo.2.next lo.1 0).1) := by
      rintro hi lo rfl rfl
      unfold Wk.skip; rw [if_neg c9]
    replace es := es _ _ rfl rfl
    simp only at pl
    generalize Wk.before 7 ⟨v, none⟩ o.a (-1) 1 = hi at hp pl es
    generalize hi.2.before 7 o.a hi.1 0 = lo at hp pl es
    obtain ⟨p1, p2, p3, p4, p5⟩ := pl
    refine ⟨mlk_at (hp.pt (i := 2) rfl) hF.1, ?_⟩
    replace hp := hp.re 6 [0, 3, 1, 4, 5]
    replace hp := hn hp
    refine wk ?_
    have la := Op.may_sk m
    have rest : ∀ (h7 : GH) (r : Answer × Wk), r = Wk.skip ⟨v, none⟩ o → All (pts wb (wkRow r.2) :: pts ob (opRow o) :: pts vb (vwRow v) :: pts rb (.row 260 askZ 50 true) :: R) h7 → newV 103 [i64 0, i64 0] h7 (fun v15 h16 => bnd (stV 2 v15 (ansV r.1) h16) fun h17 => bnd (ldV 2 true v15 h17) fun v18 => T Tryz.prog 188 [ptr wb, ptr vb, v18] h17 fun v19 h20 => bnd (stV 50 (ptr rb) v19 h20) fun h21 => bnd (ldV 50 true (ptr rb) h21) fun v22 => K (.tuple #[v22, i64 0]) h21) := by
      intro h7 r er hp
      refine nw hp (resRow (i64 0) (i64 0)) rfl fun ab h8 hp => ?_
      refine retA (K := fun v18 h17 => T Tryz.prog 188 [ptr wb, ptr vb, v18] h17 fun v19 h20 => bnd (stV 50 (ptr rb) v19 h20) fun h21 => bnd (ldV 50 true (ptr rb) h21) fun v22 => K (.tuple #[v22, i64 0]) h21) hp fun h9 hp => ?_
      exact fin _ r er (hp.re 4 [0, 2, 3])
    show T Tryz.prog F [ptr pb, ptr ob] h9 _
    rcases hkk with e | e | e | e
    · rw [if_neg (by omega), if_neg (by omega), if_pos e] at es
      rw [hF.2.1 e]
      exact T_sInsert hp p3 p1 p2 la fun h10 hp => rest _ _ es.symm hp
    · rw [if_neg (by omega), if_neg (by omega), if_neg (by omega)] at es
      rw [hF.2.2.1 e]
      exact T_sErase hp p3 p1 p2 la fun h10 hp => rest _ _ es.symm hp
    · rw [if_pos e] at es
      rw [hF.2.2.2.1 e]
      refine T_sFound hp fun h10 hp => ?_
      replace hp := hp.up 1
      replace hp := hn hp
      exact rest _ (⟨0, if (lo.2.next lo.1 0).1 = o.a then 1 else 0⟩, (lo.2.next lo.1 0).2) es.symm hp
    · rw [if_neg (by omega), if_pos e] at es
      rw [hF.2.2.2.2 e]
      exact T_sBits hp p3 ⟨p4, p5⟩ fun h10 hp => rest _ (⟨0, _⟩, _) es.symm hp
end
end Go.Proofs.YtcpfkkppfgolaaaGreatDoor
namespace Go.Proofs.YtcpfkkppfgolaaaGreatDoor
open Go GW Go.Proofs
attribute [local irreducible] bnd ldV stV ifV binV eqI
section
variable {b c d rb pb ob : Nat} {v : Vw} {w : Wk} {R : List Part} {h : GH} {K : Value → GH → Prop} {o : Op}
theorem Vw.agg_take (ok : v.ok) : (v.cells.drop 0).take 48 = v.cells := by rw [List.drop_zero, ← Vw.len ok, List.take_length]
theorem askC_view {x : Int} {s : Value} (ok : v.ok) : ((askC x v s).drop 1).take 48 = v.cells := by
  show ((v.cells ++ [s]).take 48) = _
  rw [← Vw.len ok, List.take_left']; rfl
theorem askC_take {x : Int} {s : Value} (ok : v.ok) : ((askC x v s).drop 0).take 50 = askC x v s := by
  rw [List.drop_zero, ← askC_len (x := x) (s := s) ok, List.take_length]
theorem askC_ans {x : Int} {s : Value} (ok : v.ok) : (askC x v s)[49]? = some s := by
  show (v.cells ++ [s])[48]? = _
  exact Vw.cell_t ok
theorem nwstView (hp : All R h) (ok : v.ok) {K : Value → GH → Prop} (k : ∀ b h', All (pts b (vwRow v) :: R) h' → K (ptr b) h') : newV 258 (List.replicate 16 (.bool false) ++ List.replicate 32 (i64 0)) h fun v2 h3 => bnd (stV 48 v2 (vwV v) h3) fun h4 => K v2 h4 := by
  refine nwst hp (vwRow v) ?_ (by simp) ?_ rfl k
  · show v.cells.toArray.size = 48
    rw [List.size_toArray, Vw.len ok]
  · show v.cells.toArray.toList.all oneCell = true
    rw [List.toList_toArray]; exact Vw.one_cells
theorem nwstAsk {x : Int} {s : Value} (hp : All R h) (ok : v.ok) (hs : oneCell s = true) {K : Value → GH → Prop} (k : ∀ b h', All (pts b (.row 260 (askC x v s) 50 true) :: R) h' → K (ptr b) h') : newV 260 ([i64 0] ++ List.replicate 16 (.bool false) ++ List.replicate 32 (i64 0) ++ [.slice none 0 0]) h fun v2 h3 => bnd (stV 50 v2 (askV x v s) h3) fun h4 => K v2 h4 := by
  have hl := askC_len (x := x) (s := s) ok
  refine nwst hp (.row 260 (askC x v s) 50 true) ?_ (by simp) ?_ rfl k
  · show (askC x v s).toArray.size = 50
    rw [List.size_toArray, hl]
  · show (askC x v s).toArray.toList.all oneCell = true
    simp only [askC, List.all_cons, List.all_append, List.all_nil, Bool.and_true, Vw.one_cells, hs]; rfl
theorem stView {b : Nat} {v' : Vw} (hp : All (pts b (vwRow v) :: R) h) (ok : v.ok) (ok' : v'.ok) {K : GH → Prop} (k : ∀ h', All (pts b (vwRow v') :: R) h' → K h') : bnd (stV 48 (ptr b) (vwV v') h) K := by
  refine st0 hp (vwRow v') ?_ (by rw [Vw.len ok]; decide) ?_ ?_ k
  · show v'.cells.toArray.size = 48
    rw [List.size_toArray, Vw.len ok']
  · show v'.cells.toArray.toList.all oneCell = true
    rw [List.toList_toArray]; exact Vw.one_cells
  · show GObj.row _ (setCells v.cells 0 v'.cells.toArray.toList) _ _ = _
    rw [setCells_all (by simp [Vw.len ok, Vw.len ok'])]; rfl
theorem T_bodyDo {sv : Value} {ops : List Op} (hp : All R h) (ok : v.ok) (hs : ∀ h', All R h' → rowsAt h' 4 sv (ops.map Op.enc)) (k0 : Txn.may ops = false → ∀ h', All R h' → K (.tuple #[askV 0 vwZ (.slice none 0 0), i64 700]) h')
    (hK : Txn.may ops = true → ∀ u h', All (askP (v.do_ ops) u :: R) h' → K (.tuple #[u, i64 0]) h') : T Tryz.prog 162 [vwV v, sv] h K := by
  apply S162_T
  unfold S162
  refine nwView hp ok fun vb h1 hp => ?_
  refine nw hp (.row 260 askZ 50 true) rfl fun rb h2 hp => ?_
  replace hp := hp.up 1
  replace hp := hn hp
  refine T_cViewMay hp ok ?_
  refine wk ?_
  refine T_OpsMay (hs _ hp.tail.tail) ?_
  cases hm : Txn.may ops with
  | false =>
    refine wk ?_
    replace hp := hp.re 2 [1]
    replace hp := hn hp
    refine retK (x := 0) (v := vwZ) (s := .slice none 0 0) (K := fun u h => K (.tuple #[u, i64 700]) h) hp (askC_len vwZ_ok) vwZ_ok rfl fun h3 hp => ?_
    exact k0 hm _ hp
  | true =>
    replace hK := hK hm
    refine wk ?_
    unfold S162_j1
    refine la0 hp (c := v.cells) (by rw [Vw.len ok]; decide) (Vw.agg_take ok) ?_
    refine nwstView hp ok fun wb h3 hp => ?_
    have hsr := hs _ hp.tail.tail.tail
    have hlen : lnV sv = some (i64 ops.length) := by have := hsr.len; rw [List.length_map] at this; exact this
    refine bnd_of hlen ?_
    have hall : ∀ o ∈ ops, o.may = true := by
      unfold Txn.may at hm
      simp only [Bool.and_eq_true, List.all_eq_true] at hm
      exact hm.1
    have hl2 : ops.length ≤ 2 := by
      unfold Txn.may at hm
      simp only [Bool.and_eq_true, decide_eq_true_eq] at hm
      omega
    replace hp := hp.emp_cons (rowP_nil 2 (fun _ => none))
    generalize hr : v.do_ ops = r at hK
    refine Lfp_fam (ι := Nat × Vw × List Answer × Value) (fun p => [ptr vb, ptr rb, ptr wb, p.2.2.2, sv, i64 ops.length, i64 p.1]) (fun p h' => p.1 ≤ ops.length ∧ p.2.2.1.length ≤ p.1 ∧ p.2.1.ok ∧ v.doFrom (ops.drop p.1) p.2.1 p.2.2.1 = r ∧ All (rowP 2 p.2.2.2 (p.2.2.1.map Answer.enc) :: pts wb (vwRow p.2.1) :: pts vb (vwRow v) :: pts rb (.row 260 askZ 50 true) :: R) h') (fun p => ops.length - p.1) ?_ (0, v, [], .slice none 0 0) h3 ⟨by omega, by simp, ok, hr, hp⟩
    clear hp
    rintro ⟨i, wv, rs, av⟩ h4 X ⟨hi, hrl, wok, hd, hp⟩ again
    simp only at hi hrl wok hd hp
    simp only [tup_zero, tup_succ]
    have hss := hs _ hp.tail.tail.tail.tail
    have has := rowP_one hp
    refine wk ?_
    refine ifV_cases (fun q => ?_) fun q => ?_
    · obtain ⟨o, ho⟩ : ∃ o, ops[i]? = some o := ⟨_, List.getElem?_eq_getElem (by omega)⟩
      have om := hall o (List.mem_of_getElem? ho)
      have hoe : (ops.map Op.enc)[i]? = some o.enc := by rw [List.getElem?_map, ho]; rfl
      obtain ⟨p, e1, e2⟩ := hss.get hoe .i64
      have ed : ops.drop i = o :: ops.drop (i + 1) := by
        rw [List.drop_eq_getElem_cons (by omega)]
        congr 1
        rw [List.getElem?_eq_getElem (by omega)] at ho; exact Option.some.inj ho
      rw [ed] at hd
      unfold Vw.doFrom at hd
      refine bnd_of e1 (bnd_of e2 ?_)
      refine nwst hp (opRow o) rfl rfl rfl rfl fun ob h5 hp => ?_
      refine wk ?_
      refine T_cOfBank (Op.may_kind om).1 ?_
      have j2 : ∀ F : FuncId, (∀ {K' : Value → GH → Prop} {h'}, All (rowP 2 av (rs.map Answer.enc) :: pts wb (vwRow wv) :: pts vb (vwRow v) :: pts rb (.row 260 askZ 50 true) :: R) h' → (∀ u h', All (askP (wv.one o) u :: rowP 2 av (rs.map Answer.enc) :: pts wb (vwRow wv) :: pts vb (vwRow v) :: pts rb (.row 260 askZ 50 true) :: R) h' → K' (.tuple #[u, i64 0]) h') → T Tryz.prog F [vwV wv, .agg o.enc.toArray] h' K') → ∀ s1, S162_j2 s1 (ptr vb) (ptr rb) (ptr wb) av (ptr ob) (.func (.func F) #[] #[]) sv (i64 ops.length) (i64 i) h5 K X := by
        intro F hF s1
        unfold S162_j2
        replace hp := hp.re 5 [2, 0, 1, 3, 4]
        replace hp := hn hp
        refine la0 hp (c := wv.cells) (by rw [Vw.len wok]; decide) (Vw.agg_take wok) ?_
        refine la1 hp (c := o.enc) (by simp [opRow, Op.enc]) rfl ?_
        show T Tryz.prog F [vwV wv, .agg o.enc.toArray] h5 _
        replace hp := hp.re 5 [2, 0, 3, 4]
        replace hp := hn hp
        refine hF hp fun u h6 hp => ?_
        obtain ⟨vok, nok, aok⟩ := Vw.one_ok wok om
        generalize wv.one o = m at hp hd vok nok aok
        obtain ⟨mn, mv, ma⟩ := m
        simp only at vok nok aok hd
        refine askP_open hp fun s eu hp => ?_
        have hs1 := rowP_one hp
        rw [eu]
        refine wk ?_
        refine nwstAsk hp vok hs1.1 fun kb h7 hp => ?_
        refine wk ?_
        cases mn with
        | some cc =>
          have := nok cc rfl
          refine ifV_p this.1 ?_
          refine wk ?_
          replace hp := hp.re 6 [4, 5]
          replace hp := hn hp
          refine la0 hp (c := v.cells) (by rw [Vw.len ok]; decide) (Vw.agg_take ok) ?_
          refine wK (fill_ask2 (x := cc) ok) ?_
          replace hp := hp.up 1
          replace hp := hn hp
          simp only at hd
          subst hd
          refine retK (K := fun u h => K (.tuple #[u, i64 0]) h) hp (askC_len vwZ_ok) ok rfl fun h8 hp => ?_
          exact hK _ _ (askP_mk (m := ⟨some cc, v, []⟩) (hp.tail.emp_cons (rowP_nil 2 _)))
        | none =>
          obtain ⟨a, rfl⟩ := aok rfl
          refine ifV_n (by show ¬ (0 : Int) ≤ -1; decide) ?_
          refine bnd_of rfl ?_
          refine ld0 hp (askC_ans vok) ?_
          have hrow := All.rows (hp.up 1)
          replace hp := hp.re 3 [2, 0]
          replace hp := hn hp
          refine ap0 hp hrow (Answer.all_good [a]) (by decide) (by simp only [List.length_map, List.length_cons, List.length_nil]; omega) fun av' h8 hp => ?_
          rw [← List.map_append] at hp
          have hln := All.len hp
          rw [List.length_map, List.length_append, List.length_singleton] at hln
          refine bnd_of hln ?_
          refine wk ?_
          have hae : ((rs ++ [a]).map Answer.enc)[rs.length]? = some a.enc := by rw [List.getElem?_map, List.getElem?_append_right (Nat.le_refl _), Nat.sub_self]; rfl
          obtain ⟨bb, i1, i2, i3, i4⟩ := hp.elt hae .i64
          refine wK (o := isV 2 av' (i64 (((rs.length + 1 : Nat) : Int) - 1))) (by rw [show ((rs.length + 1 : Nat) : Int) - 1 = (rs.length : Int) by omega]; exact i1) ?_
          refine wk ?_
          refine wK (i2 0 1 _ rfl) ?_
          refine wk ?_
          refine ifN_cases (fun qc => ?_) fun qc => ?_
          · simp only [List.map_cons, List.map_nil] at hd
            rw [if_neg (by intro e; exact qc (by simpa using e))] at hd
            subst hd
            replace hp := hp.re 5 [3, 0, 4]
            replace hp := hn hp
            refine la0 hp (c := v.cells) (by rw [Vw.len ok]; decide) (Vw.agg_take ok) ?_
            have hs2 := rowP_one (hp.up 1)
            refine wK (fill_ask3 (x := -1) ok hs2.2) ?_
            replace hp := hp.re 3 [2, 1]
            replace hp := hn hp
            refine retK (K := fun u h => K (.tuple #[u, i64 0]) h) hp (askC_len vwZ_ok) ok hs2.1 fun h9 hp => ?_
            exact hK _ _ (askP_mk (m := ⟨none, v, rs ++ [a]⟩) hp)
          · simp only [List.map_cons, List.map_nil] at hd
            rw [if_pos (by rw [qc])] at hd
            refine bnd_of rfl ?_
            refine la1 hp (c := mv.cells) (by rw [askC_len vok]; decide) (askC_view vok) ?_
            replace hp := hp.re 5 [2, 0, 3, 4]
            replace hp := hn hp
            refine stView hp wok vok fun h9 hp => ?_
            refine wk ?_
            replace hp := hp.up 1
            replace hp := hn hp
            exact again (i + 1, mv, rs ++ [a], av') _ ⟨by simp only; omega, by simp only [List.length_append, List.length_singleton]; omega, vok, hd, hp⟩ (by simp only; omega)
      refine ifV_cases (fun qk => ?_) fun qk => ?_
      · exact j2 175 (fun hp hK => T_bankDo hp wok om qk hK) _
      · exact j2 174 (fun hp hK => T_skipDo hp wok om (by replace qk : ¬ o.kind ≤ 5 := qk; omega) hK) _
    · rw [List.drop_eq_nil_of_le (by omega)] at hd
      unfold Vw.doFrom at hd
      subst hd
      refine la1 hp (c := wv.cells) (by rw [Vw.len wok]; decide) (Vw.agg_take wok) ?_
      refine wK (fill_ask3 (x := -1) wok has.2) ?_
      replace hp := hp.re 4 [3, 0]
      replace hp := hn hp
      refine retK (K := fun u h => K (.tuple #[u, i64 0]) h) hp (askC_len vwZ_ok) wok has.1 fun h9 hp => ?_
      exact hK _ _ (askP_mk (m := ⟨none, wv, rs⟩) hp)
end
end Go.Proofs.YtcpfkkppfgolaaaGreatDoor
namespace Go.Proofs.YtcpfkkppfgolaaaGreatDoor
open Go GW Go.Proofs
attribute [local irreducible] bnd ldV stV ifV binV eqI
set_option maxRecDepth 20000
def intsP (v : Value) (xs : List Int) : Part := fun h => ∃ a cap, v = .slice a xs.length cap ∧ xs.length ≤ cap ∧ xs.length ≤ 9223372036854775807 ∧
  (xs = [] ∨ ∃ rb off T pre sz, a = some ⟨rb, off, none⟩ ∧ h rb = some (.row T pre sz true) ∧ off + xs.length ≤ pre.length ∧ (pre.drop off).take xs.length = xs.map i64)
theorem intsP.le {v : Value} {xs : List Int} {h h' : GH} (l : HLe h h') (p : intsP v xs h) : intsP v xs h' := by
  obtain ⟨a, cap, e1, e2, e3, e4⟩ := p
  refine ⟨a, cap, e1, e2, e3, e4.imp id ?_⟩
  rintro ⟨rb, off, T, pre, sz, q1, q2, q3, q4⟩
  exact ⟨rb, off, T, pre, sz, q1, l _ _ q2, q3, q4⟩
theorem flat_encI (xs : List Int) : (xs.map encI).flatten = xs.map i64 := by
  induction xs with
  | nil => rfl
  | cons x xs ih => simp only [List.map_cons, List.flatten_cons, ih]; rfl
theorem intsP_of {v : Value} {xs : List Int} {h : GH} (o : rowP 1 v (xs.map encI) h) : intsP v xs h := by
  obtain ⟨a, cap, junk, e1, e2, e3, e4, e5⟩ := o
  rw [List.length_map] at e1 e2 e3
  refine ⟨a, cap, e1, e2, e3, ?_⟩
  rcases e5 with ⟨_, e5, _⟩ | ⟨b, T, q1, q2, _⟩
  · left; exact List.map_eq_nil_iff.1 e5
  · right
    refine ⟨b, 0, T, _, _, q1, q2, ?_, ?_⟩
    · rw [flat_encI]; simp
    · rw [List.drop_zero, flat_encI, List.take_left' (by simp)]
theorem intsP_cons {v : Value} {x : Int} {xs : List Int} {h : GH} (p : intsP v (x :: xs) h) : (∃ q, isV 1 v (i64 0) = some q ∧ ldV 1 false q h = some (i64 x)) ∧ ∃ v', slV 1 v (some (i64 1)) none = some v' ∧ intsP v' xs h ∧ oneCell v' = true ∧ v'.cells = #[v'] := by
  obtain ⟨a, cap, rfl, e2, e3, e4⟩ := p
  rcases e4 with e4 | ⟨rb, off, T, pre, sz, rfl, q2, q3, q4⟩
  · cases e4
  simp only [List.length_cons] at e2 e3 q3 q4 ⊢
  have h0 : pre[off]? = some (i64 x) := by
    have := congrArg (·[0]?) q4
    simp only [List.getElem?_take, List.getElem?_drop] at this
    rw [if_pos (by omega)] at this
    simpa using this
  constructor
  · refine ⟨.pointer (some ⟨rb, off, none⟩), ?_, by rw [ldV_cell q2]; exact h0⟩
    simp only [isV]; rw [if_pos ⟨by omega, by omega⟩]; simp
  · refine ⟨.slice (if cap = 1 then some ⟨rb, off, none⟩ else some ⟨rb, off + 1, none⟩) xs.length (cap - 1), ?_, ⟨_, _, rfl, by omega, by omega, ?_⟩, rfl, rfl⟩
    · have s1 : sbV none cap (xs.length + 1) = some (xs.length + 1) := rfl
      have s2 : sbV (some (i64 1)) (xs.length + 1) 0 = some 1 := by simp only [sbV]; rw [if_pos ⟨by omega, by omega⟩]; rfl
      simp only [slV, s1, s2, Option.map_some]
      rw [Addr.add_plain]
      rfl
    · cases xs with
      | nil => exact .inl rfl
      | cons y ys =>
        right
        simp only [List.length_cons] at e2 q3 q4 ⊢
        refine ⟨rb, off + 1, T, pre, sz, ?_, q2, by omega, ?_⟩
        · rw [if_neg (by omega)]
        · have := congrArg (List.drop 1) q4
          rw [List.drop_take, List.drop_drop] at this
          simpa using this
def pwRow (addr : Int) (v : Value) : GObj := .row 320 [i64 addr, v] 2 true
def pwP (b : Nat) (w : Wr) : Part := fun h => ∃ v, All [pts b (pwRow w.addr v), intsP v w.left] h
section
variable {a b c : Nat} {A : Ar} {R : List Part} {h : GH} {K : Value → GH → Prop} {v : Vw}
theorem intsP_at {v : Value} {xs : List Int} {P : Part} (hp : All (P :: intsP v xs :: R) h) : intsP v xs h := by
  obtain ⟨h1, h2, _, l1, _, p, _⟩ := hp.up 1
  exact p.le l1
theorem pwP_open {C : Prop} {w : Wr} (hp : All (pwP b w :: R) h) (k : ∀ v, All (pts b (pwRow w.addr v) :: intsP v w.left :: R) h → C) : C := by
  obtain ⟨v, hp⟩ := All.ex hp
  exact k v (All.flat hp)
theorem pwP_shut {w : Wr} {v : Value} (hp : All (pts b (pwRow w.addr v) :: intsP v w.left :: R) h) : All (pwP b w :: R) h := (All.fold (l := [_, _]) hp).head fun _ z => ⟨v, z⟩
theorem T_pwStep {w : Wr} (hp : All (arP 142 a A :: pwP b w :: R) h) (ok : w.ok)
    (hK : ∀ h', All (arP 142 a (w.step A).2.2 :: pwP b (w.step A).1 :: R) h' → K (.tuple #[.bool (w.step A).2.1, i64 0]) h') : T Tryz.prog 245 [ptr b, ptr a] h K := by
  apply S245_T
  unfold S245
  refine pwP_open (hp.up 1) fun v hp => ?_
  replace hp := Go.Proofs.YtcpfkkppfgolaaaGreatDoor.hn hp
  obtain ⟨addr, left⟩ := w
  simp only at hp
  refine wk ?_
  unfold S245_j1
  refine wk ?_
  have hi := intsP_at hp
  obtain ⟨a0, a1, rg⟩ := ok
  simp only at a0 a1 rg
  have hl : lnV v = some (i64 left.length) := by obtain ⟨a, cap, rfl, _⟩ := hi; rfl
  refine bnd_of hl ?_
  refine wk ?_
  unfold Wr.step at hK
  cases left with
  | nil =>
    simp only at hK
    refine ifV_n (by simp) ?_
    unfold S245_j2
    refine wk ?_
    refine bnd_of hl ?_
    refine wk ?_
    exact hK _ ((pwP_shut (w := ⟨addr, []⟩) hp).up 1)
  | cons x r =>
    simp only at hK
    simp only [List.length_cons] at a1
    obtain ⟨⟨q, i1, i2⟩, v', i3, i4, i5, i6⟩ := intsP_cons hi
    refine ifV_p (by simp only [List.length_cons]; omega) ?_
    refine wk ?_
    refine bnd_of i1 (bnd_of i2 ?_)
    replace hp := hp.up 2
    replace hp := Go.Proofs.YtcpfkkppfgolaaaGreatDoor.hn hp
    refine L_Store hp a0 (by (first | omega | (simp only; omega))) (rg x (by simp)) fun h1 hp => ?_
    replace hp := hp.up 1
    replace hp := Go.Proofs.YtcpfkkppfgolaaaGreatDoor.hn hp
    refine wk ?_
    refine st0 hp (pwRow (addr + 1) v) rfl (by simp) rfl rfl fun h2 hp => ?_
    refine wk ?_
    refine bnd_of i3 ?_
    refine wk ?_
    refine st0 hp (pwRow (addr + 1) v') (by rw [i6]; rfl) (by simp) (by rw [i6]; simpa using i5) (by rw [i6]; rfl) fun h3 hp => ?_
    unfold S245_j2
    refine wk ?_
    have hl' : lnV v' = some (i64 r.length) := by obtain ⟨a, cap, rfl, _⟩ := i4; rfl
    refine bnd_of hl' ?_
    refine wk ?_
    replace hp := hp.re 3 [2, 0, 1]
    replace hp := Go.Proofs.YtcpfkkppfgolaaaGreatDoor.hn hp
    have hp2 : All (intsP v' r :: pts b (pwRow (addr + 1) v') :: arP 142 a (A.put addr x) :: R) h3 := by
      refine All.head (P := intsP v (x :: r)) ?_ fun h z => ?_
      · exact hp.re 3 [0, 1, 2]
      · obtain ⟨_, v'', j3, j4, _⟩ := intsP_cons z
        rw [i3] at j3; cases j3; exact j4
    have e : decide ((r.length : Int) = 0) = r.isEmpty := by cases r <;> simp; omega
    rw [e]
    refine hK _ ?_
    exact (pwP_shut (w := ⟨addr + 1, r⟩) (hp2.re 3 [1, 0, 2])).up 1
theorem T_pLifeMay {s g : Int} (hK : K (.bool (lifeMay s g)) h) : T Tryz.prog 163 [i64 s, i64 g] h K := by
  apply S163_T
  unfold S163
  unfold lifeMay at hK
  refine T_Below ?_
  refine ifV_cases (fun c => ?_) fun c => ?_
  · refine T_Below ?_
    rw [show decide (0 ≤ g ∧ g < 65536) = decide (0 ≤ s ∧ s < 12 ∧ 0 ≤ g ∧ g < 65536) from decide_eq_decide.2 (by omega)]
    exact hK
  · rw [decide_eq_false (by omega)] at hK
    exact hK
theorem T_descMay {v : Value} {ds : List Sw} (r : rowsAt h 3 v (ds.map encS)) (hK : K (.bool (swMay ds)) h) : T Tryz.prog 200 [v] h K := by
  apply T.drop
  apply S200_T
  unfold S200
  have hln := r.len
  rw [List.length_map] at hln
  have hmx := r.max
  rw [List.length_map] at hmx
  refine bnd_of hln ?_
  have no : swOk (-1) ds = false → swMay ds = false := fun e => by unfold swMay; rw [e, Bool.and_false]
  refine Lfp_fam (ι := Nat × Int) (fun p => [v, i64 p.2, v, i64 ds.length, i64 p.1]) (fun p h' => p.1 ≤ ds.length ∧ swOk (-1) ds = swOk p.2 (ds.drop p.1) ∧ All [baseP h] h') (fun p => ds.length - p.1) ?_ (0, -1) h ⟨by omega, rfl, All.start⟩
  rintro ⟨i, last⟩ h3 X ⟨hi, he, hp⟩ again
  simp only at hi he
  simp only [tup_zero, tup_succ]
  have rl := r.le (baseP.le hp)
  refine wk ?_
  refine ifV_cases (fun q => ?_) fun q => ?_
  · obtain ⟨s, hse⟩ : ∃ s, ds[i]? = some s := ⟨_, List.getElem?_eq_getElem (by omega)⟩
    have hse' : (ds.map encS)[i]? = some (encS s) := by rw [List.getElem?_map, hse]; rfl
    obtain ⟨p, e1, e2⟩ := rl.get hse' .i64
    refine bnd_of e1 (bnd_of e2 ?_)
    refine nwst hp (.row 322 (encS s) 3 true) rfl rfl rfl rfl fun sb h4 hp => ?_
    have drop_ : ∀ {h'}, All (pts sb (.row 322 (encS s) 3 true) :: [baseP h]) h' → HLe h h' := fun hp => baseP.le (hp.up 1)
    rw [swOk_drop hse] at he
    obtain ⟨sc, sw_, sn⟩ := s
    refine wk ?_
    refine ifV_cases (fun c => ?_) fun c => ?_
    · replace c : sc ≤ last := c
      refine ⟨h, drop_ hp, ?_⟩
      rw [no (by rw [he, decide_eq_false (by unfold Sw.fine; simp only; omega)]; rfl)] at hK; exact hK
    · replace c : ¬ sc ≤ last := c
      refine wk ?_
      refine ifV_cases (fun c1 => ?_) fun c1 => ?_
      · replace c1 : 16 ≤ sc := c1
        refine ⟨h, drop_ hp, ?_⟩
        rw [no (by rw [he, decide_eq_false (by unfold Sw.fine; simp only; omega)]; rfl)] at hK; exact hK
      · replace c1 : ¬ 16 ≤ sc := c1
        refine wk ?_
        refine T_cValueMay ?_
        refine wk ?_
        refine ifN_cases (fun c2 => ?_) fun c2 => ?_
        · replace c2 : ¬ (0 ≤ sw_ ∧ sw_ < 1099511627776) := c2
          refine ⟨h, drop_ hp, ?_⟩
          rw [no (by rw [he, decide_eq_false (by unfold Sw.fine; simp only; omega)]; rfl)] at hK; exact hK
        · replace c2 : 0 ≤ sw_ ∧ sw_ < 1099511627776 := c2
          refine wk ?_
          refine T_cValueMay ?_
          refine wk ?_
          refine ifN_cases (fun c3 => ?_) fun c3 => ?_
          · replace c3 : ¬ (0 ≤ sn ∧ sn < 1099511627776) := c3
            refine ⟨h, drop_ hp, ?_⟩
            rw [no (by rw [he, decide_eq_false (by unfold Sw.fine; simp only; omega)]; rfl)] at hK; exact hK
          · replace c3 : 0 ≤ sn ∧ sn < 1099511627776 := c3
            refine wk ?_
            refine again (i + 1, sc) _ ⟨by simp only; omega, ?_, hp.tail⟩ (by simp only; omega)
            simp only
            rw [he, decide_eq_true (by unfold Sw.fine; simp only; omega), Bool.true_and]
  · refine bnd_of hln ?_
    refine wk ?_
    refine ⟨h, baseP.le hp, ?_⟩
    rw [List.drop_eq_nil_of_le (by omega)] at he
    unfold swMay at hK
    rw [he, show swOk last [] = true from rfl, Bool.and_true] at hK
    rw [show decide ((ds.length : Int) ≤ 16) = decide (ds.length ≤ 16) from decide_eq_decide.2 (by omega)]
    exact hK
theorem T_pNewWriter {v : Value} {slot gen : Int} {ds : List Sw} (hp : All R h) (r : ∀ h', All R h' → rowsAt h' 3 v (ds.map encS))
    (kn : ¬ (lifeMay slot gen = true ∧ swMay ds = true) → K (.tuple #[.pointer none, i64 1300]) h) (ky : lifeMay slot gen = true → swMay ds = true → ∀ b h', All (pwP b (newWr slot gen ds) :: R) h' → K (.tuple #[ptr b, i64 0]) h') : T Tryz.prog 177 [i64 slot, i64 gen, v] h K := by
  apply S177_T
  unfold S177
  refine T_pLifeMay ?_
  refine wk ?_
  refine ifV_bool (fun c => ?_) fun c => ?_
  · exact kn fun q => by rw [q.1] at c; cases c
  have c1 : lifeMay slot gen = true := by simpa using c
  refine T_descMay (r _ hp) ?_
  refine wk ?_
  refine ifV_bool (fun c => ?_) fun c => ?_
  · exact kn fun q => by rw [q.2] at c; cases c
  have c2 : swMay ds = true := by simpa using c
  have hl := c1
  unfold lifeMay at hl
  simp only [decide_eq_true_eq] at hl
  have hs := c2
  unfold swMay at hs
  simp only [Bool.and_eq_true, decide_eq_true_eq] at hs
  have hln := (r _ hp).len
  rw [List.length_map] at hln
  unfold S177_j1
  refine T_Base hl.1 hl.2.1 ?_
  refine T_State hl.2.2.1 hl.2.2.2 (by decide) (by decide) ?_
  refine bnd_of hln ?_
  refine T_Of (by omega) (by omega) ?_
  refine bs0 (size := 1) hp ([stateW gen 0, (ds.length : Int) * 4].map encI) rfl rfl (by simp) (encI_good _) fun rv h1 hp => ?_
  obtain ⟨sa, sc, _, rfl, _⟩ := hp.row
  refine wk ?_
  refine nw hp (pwRow (baseOf slot) (.slice sa ([stateW gen 0, (ds.length : Int) * 4].map encI).length sc)) rfl fun b h2 hp => ?_
  refine bnd_of hln ?_
  let part (i : Nat) : List Int := [stateW gen 0, (ds.length : Int) * 4] ++ ((ds.take i).map fun s => [s.c * 4, s.w * 4, s.n * 4]).flatten
  have hlen : ∀ i, i ≤ ds.length → (part i).length = 2 + 3 * i := by
    intro i hi
    have := descRow_len gen (ds.take i)
    unfold descRow at this
    rw [List.length_append] at this ⊢
    rw [List.length_take, Nat.min_eq_left hi] at this
    exact this
  refine Lfp_fam (ι := Nat) (fun i => [ptr b, v, i64 ds.length, i64 i]) (fun i h' => i ≤ ds.length ∧ ∃ rv, All (pts b (pwRow (baseOf slot) rv) :: rowP 1 rv ((part i).map encI) :: R) h') (fun i => ds.length - i) ?_ 0 h2 ⟨by omega, _, hp⟩
  intro i h3 X ⟨hi, rv, hp⟩ again
  simp only [tup_zero, tup_succ]
  refine wk ?_
  refine ifV_cases (fun c => ?_) fun c => ?_
  · obtain ⟨s, hse⟩ : ∃ s, ds[i]? = some s := ⟨_, List.getElem?_eq_getElem (by omega)⟩
    have hse' : (ds.map encS)[i]? = some (encS s) := by rw [List.getElem?_map, hse]; rfl
    obtain ⟨p, e1, e2⟩ := (r _ hp.tail.tail).get hse' .i64
    obtain ⟨m1, m2, m3, m4, m5, m6⟩ := swOk_mem (by decide) hs.2 s (List.mem_of_getElem? hse)
    refine bnd_of e1 (bnd_of e2 ?_)
    refine nwst hp (.row 322 (encS s) 3 true) rfl rfl rfl rfl fun sb h4 hp => ?_
    refine wk ?_
    refine T_Of (by omega) (by omega) ?_
    refine wk ?_
    refine T_Of (by omega) (by omega) ?_
    refine wk ?_
    refine T_Of (by omega) (by omega) ?_
    refine wk ?_
    replace hp := hp.re 3 [2, 1]
    replace hp := Go.Proofs.YtcpfkkppfgolaaaGreatDoor.hn hp
    refine bs0 (size := 1) hp ([s.c * 4, s.w * 4, s.n * 4].map encI) rfl rfl (by simp) (encI_good _) fun xv h4 hp => ?_
    have hrows := hp.rows
    refine ap0 (hp.up 1) hrows (encI_good _) (by decide) (by rw [List.length_map, hlen i hi]; simp; omega) fun rv' h5 hp => ?_
    replace hp := hp.re 3 [0, 2]
    replace hp := Go.Proofs.YtcpfkkppfgolaaaGreatDoor.hn hp
    obtain ⟨sa, sc, _, rfl, _⟩ := hp.row
    refine wk ?_
    refine st1 hp (pwRow (baseOf slot) (.slice sa ((part i).map encI ++ [s.c * 4, s.w * 4, s.n * 4].map encI).length sc)) rfl (by simp) rfl rfl fun h6 hp => ?_
    refine wk ?_
    have ep : (part (i + 1)).map encI = (part i).map encI ++ [s.c * 4, s.w * 4, s.n * 4].map encI := by
      rw [← List.map_append]
      congr 1
      simp only [part]
      rw [List.take_add_one, hse, List.map_append, List.flatten_append]
      simp
    have hp2 := hp.up 1
    rw [← ep] at hp2
    exact again (i + 1) _ ⟨by omega, _, hp2⟩ (by omega)
  · refine ky c1 c2 b _ ?_
    have ep : part i = descRow gen ds := by
      simp only [part]
      rw [List.take_of_length_le (by omega)]; rfl
    rw [ep] at hp
    refine pwP_shut (w := newWr slot gen ds) (v := rv) ?_
    have := All.head (hp.up 1) fun h z => intsP_of z
    exact this.up 1
def Vw.rowsFrom (v : Vw) : Nat → Nat → List Sw
  | _, 0 => []
  | i, n + 1 => (if v.k.getD i false then [⟨i, v.w.getD i 0, v.n.getD i 0⟩] else []) ++ v.rowsFrom (i + 1) n
def Vw.rows (v : Vw) : List Sw := v.rowsFrom 0 16
theorem Vw.rowsFrom_ok (o : v.ok) : ∀ {n i : Nat} {last : Int}, last < i → i + n ≤ 16 → swOk last (v.rowsFrom i n) = true ∧ (v.rowsFrom i n).length ≤ n := by
  intro n
  induction n with
  | zero => intro i last _ _; exact ⟨rfl, Nat.le_refl _⟩
  | succ n ih =>
    intro i last h0 h1
    unfold Vw.rowsFrom
    have hw : Vw.val (v.w.getD i 0) := by
      rw [List.getD_eq_getElem?_getD]
      cases e : v.w[i]? with
      | none => exact Vw.val0
      | some x => exact o.rw x (List.mem_of_getElem? e)
    have hn := o.at i
    split
    · have := ih (i := i + 1) (last := (i : Int)) (by omega) (by omega)
      refine ⟨?_, by simp only [List.length_append, List.length_singleton]; omega⟩
      show swOk last (⟨i, _, _⟩ :: v.rowsFrom (i + 1) n) = true
      unfold swOk
      obtain ⟨w0, w1⟩ := hw
      obtain ⟨n0, n1⟩ := hn
      rw [this.1, Bool.and_true]
      exact decide_eq_true ⟨h0, by simp only; omega, w0, w1, n0, n1⟩
    · have := ih (i := i + 1) (last := last) (by omega) (by omega)
      exact ⟨this.1, by simp only [List.nil_append]; omega⟩
theorem Vw.rows_may (o : v.ok) : swMay v.rows = true := by
  have := Vw.rowsFrom_ok o (n := 16) (i := 0) (last := -1) (by decide) (by decide)
  unfold swMay Vw.rows
  rw [this.1, decide_eq_true this.2]; rfl
theorem T_pRows (hp : All R h) (ok : v.ok) (hK : ∀ u h', All (rowP 3 u (v.rows.map encS) :: R) h' → K u h') : T Tryz.prog 178 [vwV v] h K := by
  apply S178_T
  unfold S178
  refine nwView hp ok fun b h1 hp => ?_
  refine bnd_of rfl ?_
  have l1 := ok.lk
  have l2 := ok.lw
  have l3 := ok.ln
  refine la0 hp (c := v.k.map Value.bool) (by rw [Vw.len ok]; decide) (by
    rw [List.drop_zero, Vw.cells, List.take_left' (by simpa using l1)]) ?_
  replace hp := hp.emp_cons (rowP_nil 3 (fun _ => none))
  refine Lfp_fam (ι := Nat × List Sw × Value) (fun p => [ptr b, p.2.2, .agg (v.k.map Value.bool).toArray, i64 p.1]) (fun p h' => p.1 ≤ 16 ∧ p.2.1.length ≤ p.1 ∧ p.2.1 ++ v.rowsFrom p.1 (16 - p.1) = v.rows ∧ All (rowP 3 p.2.2 (p.2.1.map encS) :: pts b (vwRow v) :: R) h') (fun p => 16 - p.1) ?_ (0, [], .slice none 0 0) h1 ⟨by omega, by simp, rfl, hp⟩
  clear hp
  rintro ⟨i, acc, av⟩ h2 X ⟨hi, hal, he, hp⟩ again
  simp only at hi hal he hp
  simp only [tup_zero, tup_succ]
  refine wk ?_
  refine ifV_cases (fun q => ?_) fun q => ?_
  · have hi' : i < 16 := by omega
    have e1 := Vw.cell_w (t := []) ok hi'
    have e2 := Vw.cell_n (t := []) ok hi'
    rw [List.append_nil] at e1 e2
    have ek : ixV 16 1 false (.agg (v.k.map Value.bool).toArray) (i64 i) = some (.bool (v.k.getD i false)) := by
      simp only [ixV]
      rw [if_pos ⟨by omega, by omega⟩]
      simp only [Int.toNat_natCast, Nat.mul_one, List.getElem?_toArray, List.getElem?_map, List.getD_eq_getElem?_getD]
      rw [List.getElem?_eq_getElem (by omega)]; rfl
    refine bnd_of ek ?_
    obtain ⟨m, hm⟩ : ∃ m, 16 - i = m + 1 := ⟨15 - i, by omega⟩
    have em : 16 - (i + 1) = m := by omega
    rw [hm] at he
    unfold Vw.rowsFrom at he
    cases hk : v.k.getD i false with
    | true =>
      rw [hk] at he
      refine wk ?_
      refine bnd_of (iaV_at hi' .i64) ?_
      refine ld1 hp (off := 0 + 16 + i * 1) (by rw [Nat.zero_add, Nat.mul_one]; exact e1) ?_
      refine wk ?_
      refine bnd_of (iaV_at hi' .i64) ?_
      refine ld1 hp (off := 0 + 32 + i * 1) (by rw [Nat.zero_add, Nat.mul_one]; exact e2) ?_
      refine bnd_of (v := encS ⟨i, v.w.getD i 0, v.n.getD i 0⟩) rfl ?_
      refine bs0 (size := 3) hp ([Sw.mk i (v.w.getD i 0) (v.n.getD i 0)].map encS) rfl rfl (by simp) (encS_good _) fun xv h4 hp => ?_
      have hrows := hp.rows
      refine ap0 (hp.up 1) hrows (encS_good _) (by decide) (by rw [List.length_map]; simp; omega) fun av' h5 hp => ?_
      rw [← List.map_append] at hp
      replace hp := hp.re 3 [0, 2]
      replace hp := Go.Proofs.YtcpfkkppfgolaaaGreatDoor.hn hp
      refine wk ?_
      exact again (i + 1, acc ++ [Sw.mk i (v.w.getD i 0) (v.n.getD i 0)], av') _ ⟨by simp only; omega, by simp only [List.length_append, List.length_singleton]; omega, by simp only [em]; rw [List.append_assoc]; exact he, hp⟩ (by simp only; omega)
    | false =>
      rw [hk] at he
      refine wk ?_
      exact again (i + 1, acc, av) _ ⟨by simp only; omega, by simp only; omega, by simp only [em]; exact he, hp⟩ (by simp only; omega)
  · rw [show 16 - i = 0 by omega] at he
    unfold Vw.rowsFrom at he
    rw [List.append_nil] at he
    rw [he] at hp
    exact hK _ _ (hp.re 2 [0])
end
end Go.Proofs.YtcpfkkppfgolaaaGreatDoor
namespace Go.Proofs.YtcpfkkppfgolaaaGreatDoor
open Go GW Go.Proofs
section
variable {w : Wk} {d : Int}
theorem Wk.get_asked (h : w.need = some d) (c : Int) : (w.get c).2 = w := by unfold Wk.get; rw [h]; rfl
theorem Wk.set_asked (h : w.need = some d) (c x : Int) : w.set c x = w := by unfold Wk.set; rw [h]; rfl
theorem Wk.next_asked (h : w.need = some d) (key lev : Int) : (w.next key lev).2 = w := Wk.get_asked h _
theorem Wk.before_asked : ∀ {n : Nat} {key f lev : Int}, w.need = some d → (w.before n key f lev).2 = w := by
  intro n
  induction n with
  | zero => intro key f lev h; rfl
  | succ n ih =>
    intro key f lev h
    unfold Wk.before
    split
    · exact Wk.next_asked h _ _
    · rw [Wk.next_asked h]; exact ih h
theorem Wk.bits_asked : ∀ {n : Nat} {x b out : Int}, w.need = some d → (w.bits n x b out).2 = w := by
  intro n
  induction n with
  | zero => intro x b out h; rfl
  | succ n ih =>
    intro x b out h
    unfold Wk.bits
    split
    · rfl
    · rw [Wk.next_asked h]; exact ih h
theorem Wk.put_asked (h : w.need = some d) (x y z : Int) : w.put x y z = w := by
  unfold Wk.put; simp only [Wk.get_asked h, Wk.set_asked h]
theorem Wk.drop_asked (h : w.need = some d) (x y z : Int) : w.drop x y z = w := by
  unfold Wk.drop; simp only [Wk.get_asked h, Wk.set_asked h]
theorem Wk.sum_asked : ∀ {n : Nat} {i all : Int}, w.need = some d → (w.sum n i all).2 = w := by
  intro n
  induction n with
  | zero => intro i all h; rfl
  | succ n ih => intro i all h; unfold Wk.sum; rw [Wk.get_asked h]; exact ih h
end
def wkZ : Wk := ⟨vwZ, none⟩
theorem wkZ_get {c : Int} (h0 : 0 ≤ c) (h1 : c < 16) : (wkZ.get c).2.need = some c := by
  unfold Wk.get
  have : vwZ.k.getD c.toNat false = false := by
    rw [List.getD_eq_getElem?_getD]
    cases e : vwZ.k[c.toNat]? with
    | none => rfl
    | some x => exact List.eq_of_mem_replicate (List.mem_of_getElem? e)
  show (if wkZ.v.k.getD c.toNat false = true then _ else _ : Int × Wk).2.need = some c
  rw [if_neg (by rw [show wkZ.v = vwZ from rfl, this]; decide)]
theorem wkZ_run {o : Op} (m : o.may = true) : ∃ c, (if o.kind ≤ 5 then wkZ.bank o else wkZ.skip o).2.need = some c := by
  split
  · rename_i hk
    obtain ⟨⟨a0, a1⟩, _⟩ := Op.may_bk m hk
    unfold Wk.bank
    split
    · refine ⟨0, ?_⟩
      show (wkZ.sum (3 + 1) 0 0).2.need = some 0
      unfold Wk.sum
      have g := wkZ_get (c := 0) (by decide) (by decide)
      rw [Wk.sum_asked g]; exact g
    · have g := wkZ_get a0 (by omega : o.a < 16)
      refine ⟨o.a, ?_⟩
      simp only [Wk.get_asked g, Wk.set_asked g]
      repeat' split
      all_goals exact g
  · have key : ∀ {w : Wk} {c : Int}, w.need = some c → ∀ hi lo x, (w.insert o hi lo x).2 = w ∧ (w.erase o hi lo x).2 = w := by
      intro w c h hi lo x
      constructor
      · unfold Wk.insert
        split
        · rfl
        · simp only [Wk.put_asked h]; split <;> rfl
      · unfold Wk.erase
        split
        · simp only [Wk.drop_asked h, Wk.next_asked h]; split <;> rfl
        · rfl
    have bl : ∀ (lev : Int), 0 ≤ lev → lev ≤ 1 → (wkZ.next (-1) lev).2.need = some (4 + lev) := fun lev h0 h1 => by
      have := wkZ_get (c := 4 + lev) (by omega) (by omega)
      show (wkZ.get (lk (-1) lev)).2.need = _
      rw [show lk (-1) lev = 4 + lev by unfold lk; omega]; exact this
    unfold Wk.skip
    split
    · exact ⟨_, bl 0 (by decide) (by decide)⟩
    · have g1 : (wkZ.before 7 o.a (-1) 1).2.need = some 5 := by
        show (wkZ.before (6 + 1) o.a (-1) 1).2.need = some 5
        have g := bl 1 (by decide) (by decide)
        unfold Wk.before
        split
        · exact g
        · rw [Wk.before_asked g]; exact g
      refine ⟨5, ?_⟩
      simp only
      generalize wkZ.before 7 o.a (-1) 1 = hi at g1 ⊢
      rw [Wk.before_asked g1, Wk.next_asked g1]
      split
      · exact g1
      · split
        · rw [Wk.bits_asked g1]; exact g1
        · split
          · rw [(key g1 _ _ _).1]; exact g1
          · rw [(key g1 _ _ _).2]; exact g1
theorem vwZ_do {ops : List Op} (m : Txn.may ops = true) : ∃ c, 0 ≤ c ∧ c < 16 ∧ vwZ.do_ ops = ⟨some c, vwZ, []⟩ := by
  unfold Txn.may at m
  simp only [Bool.and_eq_true, List.all_eq_true, decide_eq_true_eq] at m
  cases ops with
  | nil => simp at m
  | cons o os =>
    have om := m.1 o (by simp)
    obtain ⟨c, hc⟩ := wkZ_run om
    have hn := (Vw.one_ok vwZ_ok om).2.1
    have e : (vwZ.one o).need = some c := by
      unfold Vw.one
      simp only
      rw [show (⟨vwZ, none⟩ : Wk) = wkZ from rfl, hc]
    obtain ⟨c0, c1⟩ := hn c e
    refine ⟨c, c0, c1, ?_⟩
    unfold Vw.do_ Vw.doFrom
    rw [e]
theorem Vw.do_ok {v : Vw} (ok : v.ok) {ops : List Op} (m : Txn.may ops = true) : (v.do_ ops).view.ok ∧ ∀ c, (v.do_ ops).need = some c → (0 ≤ c ∧ c < 16) ∧ (v.do_ ops).view = v ∧ (v.do_ ops).ans = [] := by
  unfold Txn.may at m
  simp only [Bool.and_eq_true, List.all_eq_true] at m
  have key : ∀ (os : List Op) (w : Vw) (rs : List Answer), (∀ o ∈ os, o.may = true) → w.ok → (v.doFrom os w rs).view.ok ∧ ∀ c, (v.doFrom os w rs).need = some c → (0 ≤ c ∧ c < 16) ∧ (v.doFrom os w rs).view = v ∧ (v.doFrom os w rs).ans = [] := by
    intro os
    induction os with
    | nil => intro w rs _ wok; exact ⟨wok, fun c e => by cases e⟩
    | cons o os ih =>
      intro w rs hm wok
      obtain ⟨h1, h2, h3⟩ := Vw.one_ok wok (hm o (by simp))
      unfold Vw.doFrom
      cases e : (w.one o).need with
      | some c => exact ⟨ok, fun d q => by cases q; exact ⟨h2 c e, rfl, rfl⟩⟩
      | none =>
        simp only
        split
        · exact ih _ _ (fun o ho => hm o (List.mem_cons_of_mem _ ho)) h1
        · exact ⟨ok, fun d q => by cases q⟩
  exact key ops v [] m.1 ok
inductive AtSt where
  | rd (r : Rd) (v : Vw)
  | wr (w : Wr)
  | hp (H : Help)
structure At where
  t : Int
  q : Int
  slot : Int
  gen : Int
  ops : List Op
  st : AtSt
  ts : Int
  tg : Int
  won : Bool
  over : Bool
  ans : List Answer
def Vw.know (v : Vw) (c x : Int) : Vw := ⟨v.k.set c.toNat true, v.w.set c.toNat x, v.n.set c.toNat x⟩
theorem Vw.know_ok {v : Vw} (o : v.ok) {c x : Int} (h : Vw.val x) : (v.know c x).ok := by
  refine ⟨by simp [Vw.know, o.lk], by simp [Vw.know, o.lw], by simp [Vw.know, o.ln], fun y hy => ?_, fun y hy => ?_⟩
  · rcases List.mem_or_eq_of_mem_set hy with q | q
    · exact o.rw y q
    · rw [q]; exact h
  · rcases List.mem_or_eq_of_mem_set hy with q | q
    · exact o.rn y q
    · rw [q]; exact h
def At.asked (x : At) (m : AskM) : At :=
  match m.need with
  | some c => { x with st := .rd (.new x.t x.q c) m.view }
  | none => { x with st := .wr (newWr x.slot x.gen m.view.rows), ans := m.ans }
def At.known (x : At) (v : Vw) (c y : Int) : At := x.asked ((v.know c y).do_ x.ops)
def At.step (x : At) (A : Ar) : At × Int × Ar :=
  if x.over then (x, 0, A) else
  match x.st with
  | .rd r v =>
    let o := r.step A
    let x1 : At := { x with q := o.1.q, ts := o.1.slot, tg := o.1.gen, st := .rd o.1 v }
    if o.2.1 ≠ 0 then ({ x1 with over := true }, 1700, o.2.2) else
    if o.1.over then (x1.known v o.1.cell o.1.value, 0, o.2.2) else (x1, 0, o.2.2)
  | .wr w =>
    let o := w.step A
    ({ x with ts := x.slot, tg := x.gen, st := if o.2.1 then .hp (.new x.t x.q (.who (.new x.slot x.gen))) else .wr o.1 }, 0, o.2.2)
  | .hp H =>
    let o := H.step A
    let x1 : At := { x with q := o.1.q, ts := o.1.slot, tg := o.1.gen, st := .hp o.1 }
    if o.2.1 ≠ 0 then ({ x1 with over := true }, 1700, o.2.2) else
    ({ x1 with over := o.1.over, won := o.1.over && o.1.won }, 0, o.2.2)
def At.may (t q slot gen : Int) (ops : List Op) : Prop := (0 ≤ t ∧ t < 4) ∧ (0 ≤ q ∧ q < 1048576) ∧ lifeMay slot gen = true ∧ Txn.may ops = true
def At.new (t q slot gen : Int) (ops : List Op) : At := ⟨t, q, slot, gen, ops, .rd (.new t q (needN (vwZ.do_ ops).need)) vwZ, -1, 0, false, false, []⟩
def AtSt.ok (over : Bool) : AtSt → Prop
  | .rd r v => r.ok ∧ v.ok ∧ (over = false → r.over = false)
  | .wr w => w.ok
  | .hp H => H.ok ∧ (over = false → H.over = false)
structure At.ok (x : At) : Prop where
  t0 : 0 ≤ x.t
  t1 : x.t < 4
  q0 : 0 ≤ x.q
  q1 : x.q < 1048576
  life : lifeMay x.slot x.gen = true
  ops : Txn.may x.ops = true
  won : x.over = false → x.won = false
  st : x.st.ok x.over
theorem plainOf_range {x v : Int} (h : plainOf x = some v) : Vw.val v := by
  unfold plainOf at h
  cases e : read x with
  | none => rw [e] at h; cases h
  | some f =>
    rw [e] at h
    cases f with
    | val u => cases h; exact may_val.1 (read_may e)
    | mcas _ _ => cases h
    | entry _ _ _ _ _ => cases h
theorem Rd.step_val {r : Rd} {A : Ar} (ho : r.over = false) (h0 : (r.step A).2.1 = 0) (h1 : (r.step A).1.over = true) : Vw.val (r.step A).1.value ∧ (r.step A).1.cell = r.cell ∧ (r.step A).1.t = r.t := by
  unfold Rd.step at h0 h1 ⊢
  rw [ho] at h0 h1 ⊢
  simp only [Bool.false_eq_true, if_false] at h0 h1 ⊢
  cases hh : r.help with
  | some H =>
    rw [hh] at h0 h1
    simp only [Rd.helping] at h0 h1
    split at h0
    · rename_i e; rw [decide_eq_true e] at h1; cases h1
    · cases h0
  | none =>
    rw [hh] at h0 h1
    simp only [Rd.load] at h0 h1 ⊢
    cases hp : plainOf (A.at r.cell) with
    | some v => exact ⟨plainOf_range hp, rfl, rfl⟩
    | none =>
      rw [hp] at h0 h1
      simp only at h0 h1
      cases hn : newHelp r.t r.q (A.at r.cell) with
      | some H => rw [hn] at h1; simp only at h1; rw [ho] at h1; cases h1
      | none => rw [hn] at h0; cases h0
theorem Rd.step_keep {r : Rd} {A : Ar} : (r.step A).1.cell = r.cell ∧ (r.step A).1.t = r.t := by
  unfold Rd.step
  split
  · exact ⟨rfl, rfl⟩
  · split
    · exact ⟨rfl, rfl⟩
    · unfold Rd.load
      split
      · exact ⟨rfl, rfl⟩
      · split <;> exact ⟨rfl, rfl⟩
theorem Rd.step_err {r : Rd} {A : Ar} (h : (r.step A).2.1 ≠ 0) : (r.step A).1.over = true := by
  unfold Rd.step at h ⊢
  split at h
  · exact absurd rfl h
  · rename_i ho
    rw [if_neg ho]
    split at h
    · rename_i H e
      simp only [Rd.helping] at h ⊢
      split at h
      · exact absurd rfl h
      · rename_i q; rw [decide_eq_false q]; rfl
    · unfold Rd.load at h ⊢
      split at h
      · exact absurd rfl h
      · split at h
        · exact absurd rfl h
        · rfl
theorem Help.step_err {H : Help} {A : Ar} (h : (H.step A).2.1 ≠ 0) : (H.step A).1.over = true := by
  unfold Help.step at h ⊢
  split at h
  · exact absurd rfl h
  · rename_i ho
    rw [if_neg ho]
    simp only at h ⊢
    unfold Help.take at h ⊢
    simp only at h ⊢
    split
    · rfl
    · rename_i c
      rw [if_neg c] at h
      split
      · rename_i f e
        rw [e] at h
        simp only at h
        split
        · rfl
        · rename_i c2; rw [if_neg c2] at h; exact absurd rfl h
      · rename_i e
        rw [e] at h
        simp only at h
        split at h
        · exact absurd rfl h
        · split at h <;> exact absurd rfl h
theorem At.asked_ok {x : At} (o : x.ok) (ho : x.over = false) {v : Vw} (vok : v.ok) : (x.asked (v.do_ x.ops)).ok ∧ (x.asked (v.do_ x.ops)).over = false := by
  have d := Vw.do_ok vok o.ops
  unfold At.asked
  cases e : (v.do_ x.ops).need with
  | some c =>
    obtain ⟨⟨c0, c1⟩, _⟩ := d.2 c e
    exact ⟨⟨o.t0, o.t1, o.q0, o.q1, o.life, o.ops, o.won, Rd.new_ok ⟨⟨o.t0, o.t1⟩, ⟨o.q0, o.q1⟩, c0, c1⟩, d.1, fun _ => rfl⟩, ho⟩
  | none => exact ⟨⟨o.t0, o.t1, o.q0, o.q1, o.life, o.ops, o.won, newWr_ok o.life (Vw.rows_may d.1)⟩, ho⟩
theorem At.step_ok {x : At} {A : Ar} (o : x.ok) (hA : A.ok) : (x.step A).1.ok ∧ (x.step A).2.2.ok := by
  unfold At.step
  split
  · exact ⟨o, hA⟩
  · rename_i ho
    have ho : x.over = false := by simpa using ho
    have hs := o.st
    split
    · rename_i r v e
      rw [e] at hs
      obtain ⟨rok, vok, rov⟩ := hs
      have so := Rd.step_ok rok hA
      have hv := Rd.step_val (r := r) (A := A) (rov ho)
      simp only
      generalize r.step A = s at so hv ⊢
      split
      · exact ⟨⟨o.t0, o.t1, so.1.q0, so.1.q1, o.life, o.ops, (fun q => by cases q), so.1, vok, fun q => by cases q⟩, so.2⟩
      · rename_i q0
        split
        · rename_i q1
          have hv := hv (by simpa using q0) q1
          have o1 : At.ok { x with q := s.1.q, ts := s.1.slot, tg := s.1.gen, st := .wr ⟨0, []⟩ } := ⟨o.t0, o.t1, so.1.q0, so.1.q1, o.life, o.ops, o.won, ⟨by simp, by simp, fun _ h => by cases h⟩⟩
          have := At.asked_ok o1 ho (Vw.know_ok (c := s.1.cell) vok hv.1)
          refine ⟨?_, so.2⟩
          have e2 := this.1
          unfold At.known
          unfold At.asked at e2 ⊢
          simp only at e2 ⊢
          cases hn : ((v.know s.1.cell s.1.value).do_ x.ops).need with
          | some c => rw [hn] at e2; exact ⟨e2.t0, e2.t1, e2.q0, e2.q1, e2.life, e2.ops, e2.won, e2.st⟩
          | none => rw [hn] at e2; exact ⟨e2.t0, e2.t1, e2.q0, e2.q1, e2.life, e2.ops, e2.won, e2.st⟩
        · rename_i q1
          exact ⟨⟨o.t0, o.t1, so.1.q0, so.1.q1, o.life, o.ops, o.won, so.1, vok, fun _ => by simpa using q1⟩, so.2⟩
    · rename_i w e
      rw [e] at hs
      have so := Wr.step_ok hs hA
      have hl := o.life
      unfold lifeMay at hl
      simp only [decide_eq_true_eq] at hl
      refine ⟨⟨o.t0, o.t1, o.q0, o.q1, o.life, o.ops, o.won, ?_⟩, so.2⟩
      simp only
      split
      · exact ⟨⟨o.t0, o.t1, o.q0, o.q1, by constructor <;> simp [Help.new], zero64, fun _ => ⟨Wh.new_ok ⟨hl.1, hl.2.1, hl.2.2.1, hl.2.2.2⟩, (fun _ h => by cases h), by simp [Help.new]⟩⟩, fun _ => rfl⟩
      · exact so.1
    · rename_i H e
      rw [e] at hs
      have so := Help.step_ok hs.1 hA
      simp only
      generalize H.step A = s at so ⊢
      split
      · exact ⟨⟨o.t0, o.t1, so.1.q0, so.1.q1, o.life, o.ops, (fun q => by cases q), so.1, fun q => by cases q⟩, so.2⟩
      · exact ⟨⟨o.t0, o.t1, so.1.q0, so.1.q1, o.life, o.ops, (fun q => by simp only at q ⊢; rw [q]; rfl), so.1, fun q => q⟩, so.2⟩
theorem At.new_ok {t q slot gen : Int} {ops : List Op} (m : At.may t q slot gen ops) : (At.new t q slot gen ops).ok := by
  obtain ⟨⟨t0, t1⟩, ⟨q0, q1⟩, l, mo⟩ := m
  obtain ⟨c, c0, c1, e⟩ := vwZ_do mo
  refine ⟨t0, t1, q0, q1, l, mo, fun _ => rfl, ?_⟩
  show AtSt.ok false (.rd (.new t q (needN (vwZ.do_ ops).need)) vwZ)
  rw [e]
  exact ⟨Rd.new_ok ⟨⟨t0, t1⟩, ⟨q0, q1⟩, c0, c1⟩, vwZ_ok, fun _ => rfl⟩
theorem valOf_bd (x : Int) : 0 ≤ valOf x ∧ valOf x < 1099511627776 := by
  unfold valOf
  cases e : plainOf x with
  | none => exact ⟨by decide, by decide⟩
  | some v => exact plainOf_range e
def epIs (x : Int) : Bool := (plainOf x).isSome && decide (valOf x < 1073741823)
structure Ent where
  t : Int
  e : Int
  said : Bool
  known : Bool
  over : Bool
def Ent.new (t : Int) : Ent := ⟨t, 0, false, false, false⟩
def Ent.step (n : Ent) (A : Ar) : Ent × Int × Ar :=
  if n.over then (n, 0, A) else
  if n.known && !n.said then ({ n with said := true }, 0, A.put (30 + n.t) ((n.e + 1) * 4)) else
  if epIs (A.at 29) then ({ n with over := n.said && decide (valOf (A.at 29) = n.e), e := valOf (A.at 29), known := true, said := false }, 0, A.ld 29) else
  ({ n with over := true }, 1100, A.ld 29)
structure Ent.ok (n : Ent) : Prop where
  t0 : 0 ≤ n.t
  t1 : n.t < 4
  e0 : 0 ≤ n.e
  e1 : n.e < 1073741823
theorem Ent.new_ok {t : Int} (h0 : 0 ≤ t) (h1 : t < 4) : (Ent.new t).ok := ⟨h0, h1, by simp [Ent.new], by simp [Ent.new]⟩
theorem Ent.step_ok {n : Ent} {A : Ar} (o : n.ok) (hA : A.ok) : (n.step A).1.ok ∧ (n.step A).2.2.ok := by
  have := o.e0; have := o.e1
  unfold Ent.step
  split
  · exact ⟨o, hA⟩
  · split
    · exact ⟨⟨o.t0, o.t1, o.e0, o.e1⟩, hA.put _ (by constructor <;> omega)⟩
    · split
      · rename_i h
        unfold epIs at h
        simp only [Bool.and_eq_true, decide_eq_true_eq] at h
        exact ⟨⟨o.t0, o.t1, (valOf_bd _).1, h.2⟩, hA.ld _⟩
      · exact ⟨⟨o.t0, o.t1, o.e0, o.e1⟩, hA.ld _⟩
structure Adv where
  n : Int
  asked : Int
  e : Int
  moved : Bool
  over : Bool
def Adv.new (n : Int) : Adv := ⟨n, -1, 0, false, false⟩
def Adv.step (d : Adv) (A : Ar) : Adv × Int × Ar :=
  if d.over then (d, 0, A) else
  if d.asked < 0 then
    if epIs (A.at 29) then ({ d with e := valOf (A.at 29), asked := d.asked + 1 }, 0, A.ld 29) else ({ d with e := valOf (A.at 29), asked := d.asked + 1, over := true }, 1100, A.ld 29)
  else if d.asked < d.n then
    if (plainOf (A.at (30 + d.asked))).isSome then ({ d with over := decide (valOf (A.at (30 + d.asked)) ≠ 0) && decide (valOf (A.at (30 + d.asked)) ≠ d.e + 1), asked := d.asked + 1 }, 0, A.ld (30 + d.asked))
    else ({ d with over := true, asked := d.asked + 1 }, 1100, A.ld (30 + d.asked))
  else ({ d with moved := decide (A.at 29 = d.e * 4), over := true, asked := d.asked + 1 }, 0, A.cas 29 (d.e * 4) ((d.e + 1) * 4))
structure Adv.ok (d : Adv) : Prop where
  n0 : 1 ≤ d.n
  n1 : d.n ≤ 4
  a0 : -1 ≤ d.asked
  a1 : d.asked ≤ d.n + 1
  a2 : d.over = false → d.asked ≤ d.n
  e0 : 0 ≤ d.e
  e1 : d.e < 1099511627776
  e2 : d.over = false → d.e < 1073741823
theorem Adv.new_ok {n : Int} (h0 : 1 ≤ n) (h1 : n ≤ 4) : (Adv.new n).ok := ⟨h0, h1, by simp [Adv.new], by simp [Adv.new]; omega, fun _ => by simp [Adv.new]; omega, by simp [Adv.new], by simp [Adv.new], by simp [Adv.new]⟩
theorem Adv.step_ok {d : Adv} {A : Ar} (o : d.ok) (hA : A.ok) : (d.step A).1.ok ∧ (d.step A).2.2.ok := by
  have h0 := o.n0; have h1 := o.n1; have h2 := o.a0; have h3 := o.a1
  have e0 := o.e0; have e1 := o.e1
  unfold Adv.step
  split
  · exact ⟨o, hA⟩
  · rename_i hov
    have hov : d.over = false := by simpa using hov
    have h4 := o.a2 hov
    have e2 := o.e2 hov
    split
    · split
      · rename_i h
        unfold epIs at h
        simp only [Bool.and_eq_true, decide_eq_true_eq] at h
        exact ⟨⟨h0, h1, by simp only; omega, by simp only; omega, (fun _ => by simp only; omega), (valOf_bd _).1, (valOf_bd _).2, fun _ => h.2⟩, hA.ld _⟩
      · exact ⟨⟨h0, h1, by simp only; omega, by simp only; omega, (fun e => by cases e), (valOf_bd _).1, (valOf_bd _).2, fun e => by cases e⟩, hA.ld _⟩
    · split
      · split
        · exact ⟨⟨h0, h1, by simp only; omega, by simp only; omega, (fun _ => by simp only; omega), e0, e1, fun _ => e2⟩, hA.ld _⟩
        · exact ⟨⟨h0, h1, by simp only; omega, by simp only; omega, (fun e => by cases e), e0, e1, fun e => by cases e⟩, hA.ld _⟩
      · exact ⟨⟨h0, h1, by simp only; omega, by simp only; omega, (fun e => by cases e), e0, e1, fun e => by cases e⟩, hA.cas _ _ (by constructor <;> omega)⟩
structure Lst where
  at_ : Int
  word : Int
  count : Int
  first : Int
  over : Bool
def hdIs (x : Int) : Bool := (plainOf x).isSome && (decide (valOf x % 16 ≤ 12) && decide (valOf x / 16 ≤ 1073741823))
def nxIs (x : Int) : Bool := (plainOf x).isSome && decide (valOf x ≤ 12)
def Lst.turned (l : Lst) (first : Int) : Int := ((l.count + 1) % 1073741824 * 16 + first) * 4
def Lst.loaded (l : Lst) (A : Ar) : Lst := { l with word := A.at 16, count := valOf (A.at 16) / 16, first := valOf (A.at 16) % 16, at_ := 1 }
structure Lst.ok (l : Lst) : Prop where
  a0 : 0 ≤ l.at_
  a1 : l.at_ ≤ 2
  w : I64 l.word
  c0 : 0 ≤ l.count
  c1 : l.count < 1099511627776
  f0 : 0 ≤ l.first
  f1 : l.first < 16
theorem Lst.loaded_ok {l : Lst} {A : Ar} (hA : A.ok) : (l.loaded A).ok := by
  have v := valOf_bd (A.at 16)
  exact ⟨by simp [Lst.loaded], by simp [Lst.loaded], Ar.at_range hA 16, by simp only [Lst.loaded]; omega, by simp only [Lst.loaded]; omega, by simp only [Lst.loaded]; omega, by simp only [Lst.loaded]; omega⟩
structure Pop where
  l : Lst
  next : Int
  slot : Int
def Pop.new : Pop := ⟨⟨0, 0, 0, 0, false⟩, 0, -1⟩
def Pop.step (p : Pop) (A : Ar) : Pop × Int × Ar :=
  if p.l.over then (p, 0, A) else
  if p.l.at_ = 0 then
    if hdIs (A.at 16) then ({ p with l := { p.l.loaded A with over := decide (valOf (A.at 16) % 16 = 0) } }, 0, A.ld 16)
    else ({ p with l := { p.l.loaded A with over := true } }, 1000, A.ld 16)
  else if p.l.at_ = 1 then
    if nxIs (A.at (17 + p.l.first - 1)) then ({ p with l := { p.l with at_ := 2 }, next := valOf (A.at (17 + p.l.first - 1)) }, 0, A.ld (17 + p.l.first - 1))
    else ({ p with l := { p.l with at_ := 2, over := true }, next := valOf (A.at (17 + p.l.first - 1)) }, 1000, A.ld (17 + p.l.first - 1))
  else if A.at 16 = p.l.word then ({ p with l := { p.l with at_ := 0, over := true }, slot := p.l.first - 1 }, 0, A.cas 16 p.l.word (p.l.turned p.next))
  else ({ p with l := { p.l with at_ := 0 } }, 0, A.cas 16 p.l.word (p.l.turned p.next))
structure Pop.ok (p : Pop) : Prop where
  l : p.l.ok
  n0 : 0 ≤ p.next
  n1 : p.next < 1099511627776
  f : p.l.over = false → p.l.at_ ≠ 0 → 1 ≤ p.l.first ∧ p.l.first ≤ 12
  n2 : p.l.over = false → p.l.at_ = 2 → p.next ≤ 12
  s0 : -1 ≤ p.slot
  s1 : p.slot < 12
theorem Pop.new_ok : Pop.new.ok := ⟨⟨by decide, by decide, by decide, by decide, by decide, by decide, by decide⟩, by decide, by decide, (fun _ h => absurd rfl h), (fun _ h => by simp [Pop.new] at h), by decide, by decide⟩
theorem Lst.turned_range {l : Lst} (h0 : 0 ≤ l.count) {f : Int} (f0 : 0 ≤ f) (f1 : f ≤ 12) : I64 (l.turned f) := by
  unfold Lst.turned; constructor <;> omega
theorem Pop.step_ok {p : Pop} {A : Ar} (o : p.ok) (hA : A.ok) : (p.step A).1.ok ∧ (p.step A).2.2.ok := by
  have ol := o.l
  have lo := Lst.loaded_ok (l := p.l) hA
  unfold Pop.step
  split
  · exact ⟨o, hA⟩
  · rename_i hov
    have hov : p.l.over = false := by simpa using hov
    split
    · split
      · rename_i h
        unfold hdIs at h
        simp only [Bool.and_eq_true, decide_eq_true_eq] at h
        refine ⟨⟨⟨lo.a0, lo.a1, lo.w, lo.c0, lo.c1, lo.f0, lo.f1⟩, o.n0, o.n1, (fun e _ => ?_), (fun _ e => by simp [Lst.loaded] at e), o.s0, o.s1⟩, hA.ld _⟩
        simp only [decide_eq_false_iff_not] at e
        have := lo.f0
        simp only [Lst.loaded] at this ⊢
        omega
      · exact ⟨⟨⟨lo.a0, lo.a1, lo.w, lo.c0, lo.c1, lo.f0, lo.f1⟩, o.n0, o.n1, (fun e => by cases e), (fun e => by cases e), o.s0, o.s1⟩, hA.ld _⟩
    · split
      · have v := valOf_bd (A.at (17 + p.l.first - 1))
        have f := o.f hov (by omega)
        split
        · rename_i h
          unfold nxIs at h
          simp only [Bool.and_eq_true, decide_eq_true_eq] at h
          exact ⟨⟨⟨by simp, by simp, ol.w, ol.c0, ol.c1, ol.f0, ol.f1⟩, v.1, v.2, fun _ _ => f, fun _ _ => h.2, o.s0, o.s1⟩, hA.ld _⟩
        · exact ⟨⟨⟨by simp, by simp, ol.w, ol.c0, ol.c1, ol.f0, ol.f1⟩, v.1, v.2, (fun e => by cases e), (fun e => by cases e), o.s0, o.s1⟩, hA.ld _⟩
      · have a0 := ol.a0; have a1 := ol.a1
        have f := o.f hov (by omega)
        have n := o.n2 hov (by omega)
        split
        · exact ⟨⟨⟨by simp, by simp, ol.w, ol.c0, ol.c1, ol.f0, ol.f1⟩, o.n0, o.n1, (fun e => by cases e), (fun e => by cases e), by simp only; omega, by simp only; omega⟩, hA.cas _ _ (Lst.turned_range ol.c0 o.n0 n)⟩
        · exact ⟨⟨⟨by simp, by simp, ol.w, ol.c0, ol.c1, ol.f0, ol.f1⟩, o.n0, o.n1, (fun _ h => absurd rfl h), (fun _ h => by simp at h), o.s0, o.s1⟩, hA.cas _ _ (Lst.turned_range ol.c0 o.n0 n)⟩
structure Push where
  l : Lst
  slot : Int
def Push.new (s : Int) : Push := ⟨⟨0, 0, 0, 0, false⟩, s⟩
def Push.step (p : Push) (A : Ar) : Push × Int × Ar :=
  if p.l.over then (p, 0, A) else
  if p.l.at_ = 0 then
    if hdIs (A.at 16) then ({ p with l := p.l.loaded A }, 0, A.ld 16) else ({ p with l := { p.l.loaded A with over := true } }, 1000, A.ld 16)
  else if p.l.at_ = 1 then ({ p with l := { p.l with at_ := 2 } }, 0, A.put (17 + p.slot) (p.l.first * 4))
  else ({ p with l := { p.l with at_ := 0, over := decide (A.at 16 = p.l.word) } }, 0, A.cas 16 p.l.word (p.l.turned (p.slot + 1)))
structure Push.ok (p : Push) : Prop where
  l : p.l.ok
  s0 : 0 ≤ p.slot
  s1 : p.slot < 12
theorem Push.new_ok {s : Int} (h0 : 0 ≤ s) (h1 : s < 12) : (Push.new s).ok := ⟨⟨by simp [Push.new], by simp [Push.new], zero64, by simp [Push.new], by simp [Push.new], by simp [Push.new], by simp [Push.new]⟩, h0, h1⟩
theorem Push.step_ok {p : Push} {A : Ar} (o : p.ok) (hA : A.ok) : (p.step A).1.ok ∧ (p.step A).2.2.ok := by
  have ol := o.l
  have lo := Lst.loaded_ok (l := p.l) hA
  have s0 := o.s0; have s1 := o.s1; have f0 := ol.f0; have f1 := ol.f1
  unfold Push.step
  split
  · exact ⟨o, hA⟩
  · split
    · split
      · exact ⟨⟨lo, s0, s1⟩, hA.ld _⟩
      · exact ⟨⟨⟨lo.a0, lo.a1, lo.w, lo.c0, lo.c1, lo.f0, lo.f1⟩, s0, s1⟩, hA.ld _⟩
    · split
      · exact ⟨⟨⟨by simp, by simp, ol.w, ol.c0, ol.c1, ol.f0, ol.f1⟩, s0, s1⟩, hA.put _ (by constructor <;> omega)⟩
      · exact ⟨⟨⟨by simp, by simp, ol.w, ol.c0, ol.c1, ol.f0, ol.f1⟩, s0, s1⟩, hA.cas _ _ (Lst.turned_range ol.c0 (by omega) (by omega))⟩
structure Event where
  thread : Int
  index : Int
  begun : Int
  decided : Int
  answered : Int
  end_ : Int
  attempts : Int
  answers : List Answer
def Event.cells (e : Event) (w : Value) : List Value := [i64 e.thread, i64 e.index, i64 e.begun, i64 e.decided, i64 e.answered, i64 e.end_, i64 e.attempts, w]
structure Ret where
  slot : Int
  epoch : Int
def Ret.enc (t : Ret) : List Value := [i64 t.slot, i64 t.epoch]
def Ret.good (r : Ret) : Prop := (0 ≤ r.slot ∧ r.slot < 12) ∧ 0 ≤ r.epoch ∧ r.epoch < 1073741824
def isRipe (e : Int) (r : Ret) : Bool := decide (3 ≤ e - r.epoch)
def ripes (rs : List Ret) (e : Int) : List Int := (rs.filter (isRipe e)).map Ret.slot
def rests (rs : List Ret) (e : Int) : List Ret := rs.filter fun r => !isRipe e r
theorem ripes_rests (rs : List Ret) (e : Int) : (ripes rs e).length + (rests rs e).length = rs.length := by
  induction rs with
  | nil => rfl
  | cons r rs ih =>
    unfold ripes rests at ih ⊢
    simp only [List.filter_cons]
    cases isRipe e r <;> simp at ih ⊢ <;> omega
def pauseM (pol : Bool) (k : Int) : Int := if pol = false ∨ k = 0 then 0 else min 8 (2 ^ (k.toNat - 1))
inductive Act where
  | ent | fre | tak | tri | ret | lea | adv
instance : DecidableEq Act := fun a b => by
  cases a <;> cases b <;> first | exact .isTrue rfl | exact .isFalse (by intro h; cases h)
structure Th where
  id : Int
  n : Int
  k : Int
  pol : Bool
  txns : List (List Op)
  evs : List Event
  next : Option Act
  dead : Bool
  tries : Int
  pause : Int
  seq : Int
  cache : List Int
  limbo : List Ret
  ripe : List Int
  slot : Int
  ent : Option Ent
  push : Option Push
  pop : Option Pop
  att : Option At
  adv : Option Adv
  end_ : Int
  ts : Int
  tg : Int
def Th.may (id n k : Int) (txns : List (List Op)) : Prop := (1 ≤ n ∧ n ≤ 4) ∧ (0 ≤ id ∧ id < n) ∧ (1 ≤ k ∧ k ≤ 16) ∧ thrMay txns = true
def Th.new (id n k : Int) (pol : Bool) (txns : List (List Op)) : Th := ⟨id, n, k, pol, txns, [], none, false, 0, 0, 0, [], [], [], -1, none, none, none, none, none, 0, -1, 0⟩
def Th.done (x : Th) : Bool := decide (x.evs.length = x.txns.length) && (match x.evs.getLast? with | none => true | some e => decide (0 ≤ e.answered))
def evTurn (es : List Event) (f : Event → Event) : List Event := match es.getLast? with
  | none => es
  | some e => es.set (es.length - 1) (f e)
def Th.answer (x : Th) (pick : Int) : Th :=
  if x.end_ = 2 ∧ x.tries + 1 < x.k then { x with next := none, tries := x.tries + 1, evs := evTurn x.evs fun e => { e with attempts := x.tries + 1 }, pause := pauseM x.pol (x.tries + 1) }
  else { x with next := none, tries := 0, evs := evTurn x.evs fun e => { e with attempts := x.tries + 1, answers := if x.end_ = 0 then (x.att.map At.ans).getD [] else e.answers, end_ := x.end_, answered := pick } }
def Th.ents (x : Th) (A : Ar) : Th × Int × Ar :=
  match x.ent with
  | none => (x, 1, A)
  | some n => if (n.step A).1.over = true ∧ (n.step A).2.1 = 0 then ({ x with ent := some (n.step A).1, ripe := ripes x.limbo (n.step A).1.e, limbo := rests x.limbo (n.step A).1.e, next := some .fre }, 0, (n.step A).2.2)
    else ({ x with ent := some (n.step A).1 }, (n.step A).2.1, (n.step A).2.2)
def Th.tris (x : Th) (A : Ar) : Th × Int × Ar :=
  match x.att with
  | none => (x, 1800, A)
  | some a => ({ x with att := some (a.step A).1, ts := (a.step A).1.ts, tg := (a.step A).1.tg, seq := (a.step A).1.q, next := if (a.step A).1.over then some .ret else x.next }, (a.step A).2.1, (a.step A).2.2)
def Th.ops (x : Th) : List Op := match x.evs.getLast? with
  | none => []
  | some e => x.txns.getD e.index.toNat []
instance {t q s g : Int} {ops : List Op} : Decidable (At.may t q s g ops) := by unfold At.may; infer_instance
def Th.with_ (x : Th) (s : Int) (L : List Int) : Th := { x with slot := s, att := if At.may x.id x.seq s (L.getD s.toNat 0 + 1) x.ops then some (.new x.id x.seq s (L.getD s.toNat 0 + 1) x.ops) else none, next := some .tri }
def lived (s : Int) (L : List Int) : List Int := L.set s.toNat (L.getD s.toNat 0 + 1)
def Th.taks (x : Th) (A : Ar) (L : List Int) : (Th × Int × Ar) × List Int :=
  match x.pop, x.cache.getLast? with
  | none, some s => ((({ x with cache := x.cache.dropLast } : Th).with_ s L).tris A, lived s L)
  | pop, _ =>
    let o := (pop.getD .new).step A
    if o.1.l.over = false ∨ o.2.1 ≠ 0 then (({ x with pop := some o.1, next := some .tak }, o.2.1, o.2.2), L) else
    if o.1.slot = -1 then (({ x with pop := none, end_ := 1, next := some .lea }, 0, o.2.2), L) else
    ((({ x with pop := none } : Th).with_ o.1.slot L, 0, o.2.2), lived o.1.slot L)
def Th.cached (x : Th) : Th := match x.push with
  | none => { x with cache := x.cache ++ x.ripe.take (2 - x.cache.length), ripe := x.ripe.drop (2 - x.cache.length) }
  | some _ => x
def Th.fres (x0 : Th) (A : Ar) (L : List Int) : (Th × Int × Ar) × List Int :=
  let x := x0.cached
  match x.ripe with
  | [] => x.taks A L
  | s :: r =>
    let o := (x.push.getD (.new s)).step A
    if o.1.l.over = true ∧ o.2.1 = 0 then (({ x with push := none, ripe := r }, 0, o.2.2), L) else (({ x with push := some o.1 }, o.2.1, o.2.2), L)
def Th.rets (x : Th) (A : Ar) : Th × Int × Ar :=
  if epIs (A.at 29) then ({ x with limbo := x.limbo ++ [⟨x.slot, valOf (A.at 29)⟩], slot := -1, next := some .lea, end_ := if (x.att.map At.won).getD false then 0 else x.end_ }, 0, A.ld 29)
  else (x, 1800, A.ld 29)
def Th.leas (x : Th) (A : Ar) : Th × Int × Ar := ({ x with adv := some (.new x.n), next := some .adv }, 0, A.put (30 + x.id) 0)
def Th.advs (x : Th) (A : Ar) (pick : Int) : Th × Int × Ar :=
  match x.adv with
  | none => (x, 1, A)
  | some d => if (d.step A).1.over = true ∧ (d.step A).2.1 = 0 then (({ x with adv := some (d.step A).1 } : Th).answer pick, 0, (d.step A).2.2) else ({ x with adv := some (d.step A).1 }, (d.step A).2.1, (d.step A).2.2)
def Th.act (x : Th) (A : Ar) (L : List Int) (pick : Int) : Act → (Th × Int × Ar) × List Int
  | .ent => (x.ents A, L)
  | .fre => x.fres A L
  | .tak => x.taks A L
  | .tri => (x.tris A, L)
  | .ret => (x.rets A, L)
  | .lea => (x.leas A, L)
  | .adv => (x.advs A pick, L)
def Th.begin (x : Th) (pick : Int) : Th × Bool :=
  if x.done then (x, false) else
  if 0 < x.pause then ({ x with pause := x.pause - 1 }, false) else
  ({ x with evs := if x.tries = 0 then x.evs ++ [⟨x.id, x.evs.length, pick, -1, -1, 0, 0, []⟩] else x.evs, ent := some (.new x.id), end_ := 2, next := some .ent }, true)
def Th.ended (o : (Th × Int × Ar) × List Int) : Th × Bool × Int × Ar × List Int :=
  if o.1.2.1 = 0 then (o.1.1, true, 0, o.1.2.2, o.2) else ({ o.1.1 with dead := true }, true, 1800, o.1.2.2, o.2)
def Th.step (x0 : Th) (A : Ar) (L : List Int) (pick : Int) : Th × Bool × Int × Ar × List Int :=
  if x0.dead then (x0, false, 1800, A, L) else
  let x : Th := { x0 with ts := -1, tg := 0 }
  match x.next with
  | some a => Th.ended (x.act A L pick a)
  | none => if (x.begin pick).2 then Th.ended ((x.begin pick).1.act A L pick .ent) else ((x.begin pick).1, false, 0, A, L)
def Th.decide (x : Th) (slot pick : Int) : Th := if x.slot = slot then { x with evs := evTurn x.evs fun e => { e with decided := pick } } else x
attribute [local irreducible] bnd ldV stV ifV binV eqI
set_option maxRecDepth 20000
section
variable {h : GH} {b n off sz : Nat} {T : TypeId} {p t : List Value} {f : Bool} {x : Value} {l : List Part} {v : Vw}
theorem view_at (ok : v.ok) (hle : p.length + 48 ≤ off) : (p ++ (v.cells ++ t))[off]? = t[off - (p.length + 48)]? := by
  have := Vw.len ok
  rw [List.getElem?_append_right (by omega), List.getElem?_append_right (by omega)]
  congr 1; omega
theorem view_set (ok : v.ok) (hle : p.length + 48 ≤ off) (x : Value) : (p ++ (v.cells ++ t)).set off x = p ++ (v.cells ++ t.set (off - (p.length + 48)) x) := by
  have := Vw.len ok
  rw [List.set_append_right _ _ (by omega), List.set_append_right _ _ (by omega)]
  congr 3; omega
theorem ldT {K : Value → Prop} (hp : All (pts b (.row T (p ++ (v.cells ++ t)) sz f) :: l) h) (ok : v.ok) (hle : Nat.ble (p.length + 48) off = true) (hv : t[off - (p.length + 48)]? = some x) (k : K x) : bnd (ldV n false (.pointer (some ⟨b, off, none⟩)) h) K :=
  ld0 hp (by rw [view_at ok (Nat.le_of_ble_eq_true hle)]; exact hv) k
theorem stT {K : GH → Prop} {x : Value} (hp : All (pts b (.row T (p ++ (v.cells ++ t)) sz true) :: l) h) (g : GObj) (ok : v.ok) (hx : x.cells = #[x] ∧ oneCell x = true) (hle : Nat.ble (p.length + 48) off = true) (hlt : Nat.blt (off - (p.length + 48)) t.length = true) (hg : .row T (p ++ (v.cells ++ t.set (off - (p.length + 48)) x)) sz true = g)
    (k : ∀ h', All (pts b g :: l) h' → K h') : bnd (stV 1 (.pointer (some ⟨b, off, none⟩)) x h) K := by
  have hl := Vw.len ok
  have h1 := Nat.le_of_ble_eq_true hle
  have h2 := Nat.le_of_ble_eq_true hlt
  refine st0 hp g (by rw [hx.1]; rfl) (by simp only [List.length_append, hl]; omega) (by rw [hx.1]; simpa using hx.2) ?_ k
  rw [hx.1]
  show GObj.row T ((p ++ (v.cells ++ t)).set off x) sz true = g
  rw [view_set ok h1]; exact hg
theorem view_take (ok : v.ok) : ((p ++ (v.cells ++ t)).drop p.length).take 48 = v.cells := by
  rw [List.drop_left, ← Vw.len ok, List.take_left']; rfl
end
def atRow (x : At) (opv : Value) (nd : Int) (v : Vw) (asv now ansv : Value) : GObj :=
  .row 266 ([i64 x.t, i64 x.q, i64 x.slot, i64 x.gen, opv, i64 nd] ++ (v.cells ++ [asv, now, i64 x.ts, i64 x.tg, .bool x.won, .bool x.over, ansv])) 61 true
def stP (now : Value) : AtSt → Part
  | .rd r _ => fun h => ∃ b, now = .iface 271 (ptr b) ∧ readP b r h
  | .wr w => fun h => ∃ b, now = .iface 273 (ptr b) ∧ pwP b w h
  | .hp H => fun h => ∃ b, now = .iface 274 (ptr b) ∧ helpP b H h
def AtSt.sees (v : Vw) : AtSt → Prop
  | .rd _ u => u = v
  | _ => True
def attB (b : Nat) (x : At) (opv : Value) (nd : Int) (v : Vw) (asv now ansv : Value) : List Part :=
  [pts b (atRow x opv nd v asv now ansv), rowP 4 opv (x.ops.map Op.enc), rowP 2 ansv (x.ans.map Answer.enc), stP now x.st]
def attP (b : Nat) (x : At) : Part := fun h => ∃ (opv : Value) (nd : Int) (v : Vw) (asv now ansv : Value), (v.ok ∧ x.st.sees v) ∧ All (attB b x opv nd v asv now ansv) h
section
variable {a b c : Nat} {A : Ar} {R : List Part} {h : GH} {K : Value → GH → Prop} {x : At}
theorem attP_open {C : Prop} (hp : All (attP b x :: R) h) (k : ∀ (opv : Value) (nd : Int) (v : Vw) (asv now ansv : Value), v.ok → x.st.sees v → All (pts b (atRow x opv nd v asv now ansv) :: rowP 4 opv (x.ops.map Op.enc) :: rowP 2 ansv (x.ans.map Answer.enc) :: stP now x.st :: R) h → C) : C := by
  obtain ⟨opv, hp⟩ := All.ex hp
  obtain ⟨nd, hp⟩ := All.ex hp
  obtain ⟨v, hp⟩ := All.ex hp
  obtain ⟨asv, hp⟩ := All.ex hp
  obtain ⟨now, hp⟩ := All.ex hp
  obtain ⟨ansv, hp⟩ := All.ex hp
  obtain ⟨⟨e1, e2⟩, hp⟩ := All.pure hp
  exact k opv nd v asv now ansv e1 e2 (All.flat hp)
theorem attP_shut {opv : Value} {nd : Int} {v : Vw} {asv now ansv : Value} (vok : v.ok) (hs : x.st.sees v) (hp : All (pts b (atRow x opv nd v asv now ansv) :: rowP 4 opv (x.ops.map Op.enc) :: rowP 2 ansv (x.ans.map Answer.enc) :: stP now x.st :: R) h) : All (attP b x :: R) h :=
  (All.fold (l := [_, _, _, _]) hp).head fun h z => ⟨opv, nd, v, asv, now, ansv, ⟨vok, hs⟩, z⟩
theorem T_atWon (hp : All (attP b x :: R) h) (hK : K (.bool x.won) h) : T Tryz.prog 169 [ptr b] h K := by
  apply S169_T
  unfold S169
  refine attP_open hp fun opv nd v asv now ansv vok hs hp => ?_
  refine wk ?_
  refine ldT hp vok rfl rfl ?_
  exact hK
theorem T_atSeq (hp : All (attP b x :: R) h) (hK : K (i64 x.q) h) : T Tryz.prog 152 [ptr b] h K := by
  apply S152_T
  unfold S152
  refine attP_open hp fun opv nd v asv now ansv vok hs hp => ?_
  refine wk ?_
  exact hK
theorem T_atThrough (hp : All (attP b x :: R) h) (hK : K (.tuple #[i64 x.ts, i64 x.tg]) h) : T Tryz.prog 151 [ptr b] h K := by
  apply S151_T
  unfold S151
  refine attP_open hp fun opv nd v asv now ansv vok hs hp => ?_
  refine wk ?_
  refine ldT hp vok rfl rfl ?_
  refine wk ?_
  refine ldT hp vok rfl rfl ?_
  exact hK
theorem T_CloneAnswers {v : Value} {xs : List Answer} (hp : All (rowP 2 v (xs.map Answer.enc) :: R) h) (hb : xs.length ≤ 1000) (hK : ∀ v' h', All (rowP 2 v' (xs.map Answer.enc) :: rowP 2 v (xs.map Answer.enc) :: R) h' → K v' h') : T Tryz.prog 74 [v] h K := by
  apply S74_T
  unfold S74
  obtain ⟨sa, sc, junk, rfl, c2, c3, c4, c5⟩ := hp.row
  rcases c5 with ⟨rfl, e, rfl⟩ | ⟨b, T', rfl, e, hj⟩
  · have hx : xs = [] := by simpa using e
    subst hx
    refine wk ?_
    exact hK _ _ (hp.emp_cons (rowP_nil 2 _))
  · refine wk ?_
    refine bs0 (size := 2) hp [] rfl rfl (by simp) (fun c hc => by cases hc) fun nv h1 hp => ?_
    have hr := All.rows (hp.up 1)
    refine ap0 hp hr (Answer.all_good xs) (by decide) (by simp; omega) fun nv' h2 hp => ?_
    exact hK _ _ hp
theorem T_CloneOps {v : Value} {xs : List Op} (hp : All R h) (hr : ∀ h', All R h' → rowsAt h' 4 v (xs.map Op.enc)) (hb : xs.length ≤ 1000) (h0 : xs ≠ []) (hK : ∀ v' h', All (rowP 4 v' (xs.map Op.enc) :: R) h' → K v' h') : T Tryz.prog 82 [v] h K := by
  apply S82_T
  unfold S82
  have r := hr _ hp
  obtain ⟨a, n, cap, rfl, hl, _, _, hx⟩ := r
  have e : (xs.map Op.enc)[0]? = some (xs.head h0).enc := by cases xs with
    | nil => exact absurd rfl h0
    | cons y ys => rfl
  obtain ⟨bb, off, T, pre, sz, f, rfl, _⟩ := hx 0 _ e
  refine wk ?_
  refine bs0 (size := 4) hp [] rfl rfl (by simp) (fun c hc => by cases hc) fun nv h1 hp => ?_
  have hr := hr _ hp.tail
  refine ap0 hp hr (Op.all_good xs) (by decide) (by simp; omega) fun nv' h2 hp => ?_
  exact hK _ _ hp
theorem T_rdCell {r : Rd} (hp : All (readP b r :: R) h) (hK : K (i64 r.cell) h) : T Tryz.prog 180 [ptr b] h K := by
  apply S180_T
  unfold S180
  refine readP_open hp fun hv hp => ?_
  refine wk ?_
  exact hK
theorem T_atAsked {m : AskM} {opv asv now ansv : Value} (hp : All (pts b (atRow x opv (needN m.need) m.view asv now ansv) :: rowP 2 asv (m.ans.map Answer.enc) :: R) h) (o : x.ok) (vok : m.view.ok) (hn : ∀ c, m.need = some c → 0 ≤ c ∧ c < 16)
    (hK : ∀ nw h', (∀ c, m.need = some c → All (stP nw (.rd (.new x.t x.q c) m.view) :: pts b (atRow x opv (needN m.need) m.view asv now ansv) :: R) h') → (m.need = none → All (stP nw (.wr (newWr x.slot x.gen m.view.rows)) :: pts b (atRow x opv (-1) m.view asv now asv) :: rowP 2 asv (m.ans.map Answer.enc) :: R) h') → K nw h') : T Tryz.prog 164 [ptr b] h K := by
  apply S164_T
  unfold S164
  obtain ⟨mn, mv, ma⟩ := m
  simp only at vok hn hK hp
  have hs := rowP_one (hp.up 1)
  refine wk ?_
  cases mn with
  | some c =>
    obtain ⟨c0, c1⟩ := hn c rfl
    refine ifV_p (show (0 : Int) ≤ needN (some c) from c0) ?_
    refine wk ?_
    refine T_readNew hp (fun q => absurd ⟨⟨o.t0, o.t1⟩, ⟨o.q0, o.q1⟩, c0, c1⟩ q) fun q rb h1 hp => ?_
    refine wk ?_
    refine hK _ _ (fun d e => ?_) fun e => by cases e
    cases e
    replace hp := hp.re 3 [0, 1]
    replace hp := Go.Proofs.YtcpfkkppfgolaaaGreatDoor.hn hp
    exact hp.head fun _ z => ⟨rb, rfl, z⟩
  | none =>
    refine ifV_n (show ¬ (0 : Int) ≤ needN none by decide) ?_
    refine bnd_of rfl (bnd_of rfl (bnd_of rfl ?_))
    refine ldT hp vok rfl rfl ?_
    refine wk ?_
    refine stT hp (atRow x opv (-1) mv asv now asv) vok ⟨hs.2, hs.1⟩ rfl rfl rfl fun h1 hp => ?_
    refine wk ?_
    have hl : (([i64 x.t, i64 x.q, i64 x.slot, i64 x.gen, opv, i64 (-1)] ++ (mv.cells ++ [asv, now, i64 x.ts, i64 x.tg, .bool x.won, .bool x.over, asv])).drop (0 + 5 + 1)).take 48 = mv.cells := view_take (p := [i64 x.t, i64 x.q, i64 x.slot, i64 x.gen, opv, i64 (-1)]) vok
    refine la0 hp (c := mv.cells) (by simp [Vw.len vok]) hl ?_
    refine T_pRows hp vok fun u h2 hp => ?_
    refine wk ?_
    refine T_pNewWriter hp (fun h' hp => hp.rows) (fun q => absurd ⟨o.life, Vw.rows_may vok⟩ q) fun _ _ wb h3 hp => ?_
    refine wk ?_
    refine hK _ _ (fun d e => by cases e) fun e => ?_
    replace hp := hp.re 4 [0, 2, 3]
    replace hp := Go.Proofs.YtcpfkkppfgolaaaGreatDoor.hn hp
    exact hp.head fun _ z => ⟨wb, rfl, z⟩
end
end Go.Proofs.YtcpfkkppfgolaaaGreatDoor
