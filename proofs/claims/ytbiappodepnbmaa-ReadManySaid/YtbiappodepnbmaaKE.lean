/- Several texts in one, each under its own remark or none; nothing here is a statement on the program. -/
import Derived.Test.YtbiappodepnbmaaKD
import Derived.Test.YtbiappodepnbmaaKB
namespace Go.Proofs.Ytbiappodepnbmaa
open Go GW Go.Proofs
attribute [local irreducible] bnd ldV stV ifV binV eqI
set_option linter.unusedVariables false
set_option linter.unusedSimpArgs false
set_option maxRecDepth 20000
def initW : Nat → List Int
  | 0 => (List.replicate 634 0).set 16 4
  | k + 1 => (initW k).set (17 + k) ((k + 2) * 4)
def initA (k : Nat) : Ar := ⟨initW k, List.replicate 8 0, false⟩
def newAr : Ar := initA 11
theorem initW_len : ∀ k, (initW k).length = 634 := by
  intro k
  induction k with
  | zero => simp [initW]
  | succ k ih => simp [initW, ih]
theorem initA_ok : ∀ k, k ≤ 11 → (initA k).ok := by
  intro k
  induction k with
  | zero =>
    intro _
    refine ⟨initW_len _, rfl, fun x hx => ?_⟩
    rcases List.mem_or_eq_of_mem_set hx with q | q
    · rw [(List.mem_replicate.1 q).2]; exact zero64
    · subst q; constructor <;> decide
  | succ k ih =>
    intro hk
    refine ⟨initW_len _, rfl, fun x hx => ?_⟩
    rcases List.mem_or_eq_of_mem_set hx with q | q
    · exact (ih (by omega)).range x q
    · subst q; constructor <;> omega
section
variable {a b : Nat} {A : Ar} {R : List Part} {h : GH} {K : Value → GH → Prop} {T' : TypeId}
theorem stw {i o : Nat} {x : Int} {C : GH → Prop} (hp : All (arP T' b A :: R) h) (hi : i < 634) (ho : o = i) (hx : I64 x) (k : ∀ h', All (arP T' b ⟨A.ws.set i x, A.last, A.any⟩ :: R) h' → C h') : bnd (stV 1 (.pointer (some ⟨b, o, none⟩)) (i64 x) h) C := by
  subst ho
  obtain ⟨hb, ok⟩ := arP.at hp
  refine bnd_of (stV_row hb 1 o (i64 x) rfl (by rw [ok.len]; omega) rfl) ?_
  have e : setCells A.cells o (i64 x).cells.toList = (Ar.mk (A.ws.set o x) A.last A.any).cells := Ar.set_word ok hi x
  rw [e]
  refine k _ (arP.upd hp ⟨by rw [List.length_set]; exact ok.words, ok.touch, fun y hy => ?_⟩)
  rcases List.mem_or_eq_of_mem_set hy with q | q
  · exact ok.range y q
  · subst q; exact hx
theorem zeroCells : (List.replicate 642 (Value.int .i64 0) ++ [Value.bool false]) = (Ar.mk (List.replicate 634 0) (List.replicate 8 0) false).cells := by
  unfold Ar.cells
  rw [List.map_replicate, List.map_replicate, ← List.append_assoc, List.replicate_append_replicate]
theorem zero_ok : (Ar.mk (List.replicate 634 0) (List.replicate 8 0) false).ok :=
  ⟨by simp, by simp, fun x hx => by rw [(List.mem_replicate.1 hx).2]; exact zero64⟩
theorem nwAr {K : Value → GH → Prop} (hp : All R h) (k : ∀ b h', All (arP T' b (Ar.mk (List.replicate 634 0) (List.replicate 8 0) false) :: R) h' → K (ptr b) h') : newV T' ((.agg (List.replicate 642 (Value.int .i64 0) ++ [Value.bool false]).toArray) : Value).cells.toList h K := by
  refine nw hp (.row T' (Ar.mk (List.replicate 634 0) (List.replicate 8 0) false).cells 643 true) ?_ fun b h' hp => k b h' (hp.head fun _ z => ⟨z, zero_ok⟩)
  have e : ((.agg (List.replicate 642 (Value.int .i64 0) ++ [Value.bool false]).toArray) : Value).cells.toList = (Ar.mk (List.replicate 634 0) (List.replicate 8 0) false).cells := zeroCells
  rw [e, zero_ok.len]
theorem T_arenaNew (hp : All R h) (hK : ∀ b h', All (arP 84 b newAr :: R) h' → K (ptr b) h') : T Try.prog 21 [] h K := by
  apply S21_T
  unfold S21
  refine bnd_of (v := List.replicate 642 (Value.int .i64 0) ++ [Value.bool false]) rfl ?_
  refine nwAr hp fun b h1 hp => ?_
  (repeat first|refine wx ?_|refine wy ?_|refine wz ?_|refine wv ?_|refine wh ?_)
  refine T_Of (by decide) (by decide) ?_
  refine bnd_of (iaV_at (i := 16) (by decide) .i64) ?_
  refine stw (i := 16) hp (by decide) (by omega) (by constructor <;> decide) fun h2 hp => ?_
  refine Lfp_fam (ι := Nat) (fun k => [ptr b, i64 k]) (fun k h' => k ≤ 11 ∧ All (arP 84 b (initA k) :: R) h') (fun k => 11 - k) ?_ 0 h2 ⟨by omega, hp⟩
  intro k h3 X ⟨hk, hp⟩ again
  simp only [tup_zero, tup_succ]
  (repeat first|refine wx ?_|refine wy ?_|refine wz ?_|refine wv ?_|refine wh ?_)
  refine ifV_cases (fun c => ?_) fun c => ?_
  · (repeat first|refine wx ?_|refine wy ?_|refine wz ?_|refine wv ?_|refine wh ?_)
    refine T_Of (by omega) (by omega) ?_
    have e : (17 : Int) + k = ((17 + k : Nat) : Int) := by omega
    rw [e]
    refine bnd_of (iaV_at (i := 17 + k) (by omega) .i64) ?_
    refine stw (i := 17 + k) hp (by omega) (by omega) (by constructor <;> omega) fun h4 hp => ?_
    (repeat first|refine wx ?_|refine wy ?_|refine wz ?_|refine wv ?_|refine wh ?_)
    exact again (k + 1) _ ⟨by omega, hp⟩ (by omega)
  · have : k = 11 := by omega
    subst this
    exact hK b _ hp
theorem T_refArenaNew (hp : All R h) (hK : ∀ b h', All (arP 77 b newAr :: R) h' → K (ptr b) h') : T Try.prog 22 [] h K := by
  apply S22_T
  unfold S22
  refine bnd_of (v := List.replicate 642 (Value.int .i64 0) ++ [Value.bool false]) rfl ?_
  refine nwAr hp fun b h1 hp => ?_
  (repeat first|refine wx ?_|refine wy ?_|refine wz ?_|refine wv ?_|refine wh ?_)
  refine T_rValue (by decide) (by decide) ?_
  refine bnd_of (iaV_at (i := 16) (by decide) .i64) ?_
  refine stw (i := 16) hp (by decide) (by omega) (by constructor <;> decide) fun h2 hp => ?_
  refine Lfp_fam (ι := Nat) (fun k => [ptr b, i64 k]) (fun k h' => k ≤ 11 ∧ All (arP 77 b (initA k) :: R) h') (fun k => 11 - k) ?_ 0 h2 ⟨by omega, hp⟩
  intro k h3 X ⟨hk, hp⟩ again
  simp only [tup_zero, tup_succ]
  (repeat first|refine wx ?_|refine wy ?_|refine wz ?_|refine wv ?_|refine wh ?_)
  refine ifV_cases (fun c => ?_) fun c => ?_
  · (repeat first|refine wx ?_|refine wy ?_|refine wz ?_|refine wv ?_|refine wh ?_)
    refine T_rValue (by omega) (by omega) ?_
    have e : (17 : Int) + k = ((17 + k : Nat) : Int) := by omega
    rw [e]
    refine bnd_of (iaV_at (i := 17 + k) (by omega) .i64) ?_
    refine stw (i := 17 + k) hp (by omega) (by omega) (by constructor <;> omega) fun h4 hp => ?_
    (repeat first|refine wx ?_|refine wy ?_|refine wz ?_|refine wv ?_|refine wh ?_)
    exact again (k + 1) _ ⟨by omega, hp⟩ (by omega)
  · have : k = 11 := by omega
    subst this
    exact hK b _ hp
theorem flatten_encI (xs : List Int) : (xs.map encI).flatten = xs.map i64 := by
  induction xs with
  | nil => rfl
  | cons x xs ih => rw [List.map_cons, List.flatten_cons, ih]; rfl
theorem arP.rows {P : Part} (hp : All (arP T' b A :: R) h) : rowsAt h 1 (.slice (some ⟨b, 0, none⟩) 634 634) (A.ws.map encI) := by
  obtain ⟨hb, ok⟩ := arP.at hp
  refine rowsAt_of hb (by rw [List.length_map]; exact ok.words) (Nat.le_refl _) (by decide) (fun c hc => (encI_good _ c hc).1) (Nat.zero_le _) ?_
  rw [flatten_encI, List.drop_zero]
  exact ⟨_, rfl⟩
def baseP (g : GH) : Part := fun h => HLe g h
theorem T_CloneInts {v : Value} {xs : List Int} (hp : All R h) (r : ∀ h', All R h' → rowsAt h' 1 v (xs.map encI)) (hb : xs.length * 8 ≤ 140737488355328) (hn : eqK .slice true v (.slice none 0 0) = some false) (hK : ∀ v' h', All (rowP 1 v' (xs.map encI) :: R) h' → K v' h') : T Try.prog 39 [v] h K := by
  apply S39_T
  unfold S39
  refine bnd_of hn ?_
  (repeat first|refine wx ?_|refine wy ?_|refine wz ?_|refine wv ?_|refine wh ?_)
  refine bs0 (size := 1) hp [] rfl rfl (by simp) (fun c hc => by cases hc) fun v2 h1 hp => ?_
  refine ap0 hp (r _ hp.tail) (encI_good _) (by decide) (by simpa using hb) fun v' h2 hp => ?_
  exact hK _ _ hp
theorem T_All (hp : All (arP 84 b A :: R) h) (hK : ∀ v' h', All (rowP 1 v' (A.ws.map encI) :: arP 84 b A :: R) h' → K v' h') : T Try.prog 23 [ptr b] h K := by
  apply S23_T
  unfold S23
  have ok := (arP.at hp).2
  (repeat first|refine wx ?_|refine wy ?_|refine wz ?_|refine wv ?_|refine wh ?_)
  refine T_CloneInts hp (fun h' hp => arP.rows (P := emp) hp) (by rw [ok.words]; decide) rfl hK
theorem T_refLast (hp : All (arP 77 b A :: R) h) (hK : K (.tuple #[.agg (A.last.map i64).toArray, .bool A.any]) h) : T Try.prog 16 [ptr b] h K := by
  apply T.drop
  apply S16_T
  unfold S16
  obtain ⟨hb, ok⟩ := arP.at hp
  have hlw : (A.ws.map i64).length = 634 := by rw [List.length_map]; exact ok.words
  have e1 : (A.cells.drop 634).take 8 = A.last.map i64 := by
    unfold Ar.cells
    rw [List.drop_left' hlw, List.take_left' (by rw [List.length_map]; exact ok.touch)]
  have e2 : A.cells[642]? = some (.bool A.any) := by
    unfold Ar.cells
    rw [List.getElem?_append_right (by omega), hlw, List.getElem?_append_right (by rw [List.length_map, ok.touch]; decide), List.length_map, ok.touch]; rfl
  intro c hc
  have hne : b ≠ c := ne_of_fresh hc hb
  (repeat first|refine wx ?_|refine wy ?_|refine wz ?_|refine wv ?_|refine wh ?_)
  refine bnd_of (v := .agg (A.last.map i64).toArray) (by rw [ldV_other hne, ldV_agg hb _ _ (by rw [ok.len]; decide), e1]) ?_
  (repeat first|refine wx ?_|refine wy ?_|refine wz ?_|refine wv ?_|refine wh ?_)
  refine bnd_of (v := .bool A.any) (by rw [ldV_other hne, ldV_cell hb, e2]) ?_
  have hl8 : (A.last.map i64).length = 8 := by rw [List.length_map]; exact ok.touch
  have hones : (A.last.map i64).all oneCell = true := (good_ints (size := 8) ok.touch).2
  refine bnd_of (v := upd h c (.row 55 (A.last.map i64) 8 true)) ?_ ?_
  · rw [stV_same, if_pos ⟨hl8, by simp, hones⟩, show (Value.agg (A.last.map i64).toArray).cells.toList = A.last.map i64 from rfl, setCells_all (by rw [hl8]; rfl)]; rfl
  refine ⟨by rw [ldV_other hne, ldV_cell hb, e2], ?_⟩
  refine bnd_of (v := .agg (A.last.map i64).toArray) (by rw [ldV_same_agg, if_pos (by rw [hl8]; decide), List.drop_zero, ← hl8, List.take_length]) ?_
  exact ⟨h, (HLe.refl h).new _ hc, hK⟩
theorem eqTouch (x y : List Int) (hx : x.length = 8) (hy : y.length = 8) : eqP Try.prog 10000 55 (.agg (x.map i64).toArray) (.agg (y.map i64).toArray) = some (decide (x = y)) := by
  match x, y, hx, hy with
  | [a, b, c, d, e, f, g, i], [a', b', c', d', e', f', g', i'], _, _ =>
    have h : eqP Try.prog 10000 55 (.agg [i64 a, i64 b, i64 c, i64 d, i64 e, i64 f, i64 g, i64 i].toArray) (.agg [i64 a', i64 b', i64 c', i64 d', i64 e', i64 f', i64 g', i64 i'].toArray) = some ((a == a') && ((b == b') && ((c == c') && ((d == d') && ((e == e') && ((f == f') && ((g == g') && ((i == i') && true)))))))) := by kernel_rfl
    simp only [List.map_cons, List.map_nil]
    rw [h]
    simp [Bool.decide_and, Bool.beq_eq_decide_eq]
end
end Go.Proofs.Ytbiappodepnbmaa
namespace Go.Proofs.Ytbiappodepnbmaa
open Go GW Go.Proofs
attribute [local irreducible] bnd ldV stV ifV binV eqI
set_option linter.unusedVariables false
set_option linter.unusedSimpArgs false
set_option maxRecDepth 20000
structure Sw where
  c : Int
  w : Int
  n : Int
def encS (s : Sw) : List Value := [i64 s.c, i64 s.w, i64 s.n]
theorem encS_good (ts : List Sw) : ∀ c ∈ ts.map encS, good 3 c := by
  intro c hc
  obtain ⟨t, _, rfl⟩ := List.mem_map.1 hc
  exact ⟨rfl, rfl⟩
def Sw.fine (last : Int) (s : Sw) : Prop := last < s.c ∧ s.c < 16 ∧ 0 ≤ s.w ∧ s.w < 1099511627776 ∧ 0 ≤ s.n ∧ s.n < 1099511627776
instance (last : Int) (s : Sw) : Decidable (s.fine last) := by unfold Sw.fine; infer_instance
def swOk (last : Int) : List Sw → Bool
  | [] => true
  | s :: r => decide (s.fine last) && swOk s.c r
def swMay (ds : List Sw) : Bool := decide (ds.length ≤ 16) && swOk (-1) ds
def lifeMay (slot gen : Int) : Bool := decide (0 ≤ slot ∧ slot < 12 ∧ 0 ≤ gen ∧ gen < 65536)
def descRow (g : Int) (ds : List Sw) : List Int := [stateW g 0, (ds.length : Int) * 4] ++ (ds.map fun s => [s.c * 4, s.w * 4, s.n * 4]).flatten
theorem swOk_mem : ∀ {ds : List Sw} {last : Int}, -1 ≤ last → swOk last ds = true → ∀ s ∈ ds, 0 ≤ s.c ∧ s.c < 16 ∧ 0 ≤ s.w ∧ s.w < 1099511627776 ∧ 0 ≤ s.n ∧ s.n < 1099511627776 := by
  intro ds
  induction ds with
  | nil => intro last _ _ s hs; cases hs
  | cons d ds ih =>
    intro last hl h s hs
    unfold swOk at h
    simp only [Bool.and_eq_true, decide_eq_true_eq] at h
    obtain ⟨⟨h1, h2, h3, h4, h5, h6⟩, h7⟩ := h
    rcases List.mem_cons.1 hs with rfl | hs
    · exact ⟨by omega, h2, h3, h4, h5, h6⟩
    · exact ih (by omega) h7 s hs
theorem descRow_len (g : Int) (ds : List Sw) : (descRow g ds).length = 2 + 3 * ds.length := by
  unfold descRow
  rw [List.length_append]
  have : ((ds.map fun s => [s.c * 4, s.w * 4, s.n * 4]).flatten).length = 3 * ds.length := by
    induction ds with
    | nil => rfl
    | cons d ds ih => simp only [List.map_cons, List.flatten_cons, List.length_append, List.length_cons, List.length_nil, ih]; omega
  rw [this]; rfl
theorem descRow_range {g : Int} {ds : List Sw} (g0 : 0 ≤ g) (g1 : g < 65536) (h : swMay ds = true) : ∀ x ∈ descRow g ds, I64 x := by
  unfold swMay at h
  simp only [Bool.and_eq_true, decide_eq_true_eq] at h
  intro x hx
  unfold descRow at hx
  rcases List.mem_append.1 hx with hx | hx
  · simp only [List.mem_cons, List.not_mem_nil, or_false] at hx
    rcases hx with rfl | rfl
    · exact stateW_range g0 g1 (by decide) (by decide)
    · constructor <;> omega
  · obtain ⟨l, hl, hx⟩ := List.mem_flatten.1 hx
    obtain ⟨s, hs, rfl⟩ := List.mem_map.1 hl
    obtain ⟨h1, h2, h3, h4, h5, h6⟩ := swOk_mem (by decide) h.2 s hs
    simp only [List.mem_cons, List.not_mem_nil, or_false] at hx
    rcases hx with rfl | rfl | rfl <;> constructor <;> omega
section
variable {a b : Nat} {A : Ar} {R : List Part} {h : GH} {K : Value → GH → Prop}
theorem T_lifeMay {s g : Int} (hK : K (.bool (lifeMay s g)) h) : T Try.prog 27 [i64 s, i64 g] h K := by
  apply S27_T
  unfold S27
  unfold lifeMay at hK
  have bad : ¬ (0 ≤ s ∧ s < 12 ∧ 0 ≤ g ∧ g < 65536) → K (.bool false) h := fun q => by rw [decide_eq_false q] at hK; exact hK
  (repeat first|refine wx ?_|refine wy ?_|refine wz ?_|refine wv ?_|refine wh ?_)
  refine ifV_cases (fun c1 => ?_) fun c1 => bad (by omega)
  (repeat first|refine wx ?_|refine wy ?_|refine wz ?_|refine wv ?_|refine wh ?_)
  refine ifV_cases (fun c2 => ?_) fun c2 => bad (by omega)
  (repeat first|refine wx ?_|refine wy ?_|refine wz ?_|refine wv ?_|refine wh ?_)
  refine ifV_cases (fun c3 => ?_) fun c3 => bad (by omega)
  (repeat first|refine wx ?_|refine wy ?_|refine wz ?_|refine wv ?_|refine wh ?_)
  rw [decide_eq_decide.2 (show (0 ≤ s ∧ s < 12 ∧ 0 ≤ g ∧ g < 65536) ↔ g ≤ 65535 by omega)] at hK
  exact hK
def lastOf (ds : List Sw) : Nat → Int
  | 0 => -1
  | i + 1 => match ds[i]? with | some s => s.c | none => -1
theorem swOk_drop {ds : List Sw} {i : Nat} {s : Sw} (hs : ds[i]? = some s) (last : Int) : swOk last (ds.drop i) = (decide (s.fine last) && swOk s.c (ds.drop (i + 1))) := by
  have hi := (List.getElem?_eq_some_iff.1 hs).1
  have e : ds.drop i = s :: ds.drop (i + 1) := by
    rw [List.drop_eq_getElem_cons hi]
    congr 1
    rw [List.getElem?_eq_getElem hi] at hs
    exact Option.some.inj hs
  rw [e]; rfl
theorem T_swapsMay {v : Value} {ds : List Sw} (r : rowsAt h 3 v (ds.map encS)) (hK : K (.bool (swMay ds)) h) : T Try.prog 28 [v] h K := by
  apply T.drop
  apply S28_T
  unfold S28
  have hln := r.len
  rw [List.length_map] at hln
  refine bnd_of hln ?_
  (repeat first|refine wx ?_|refine wy ?_|refine wz ?_|refine wv ?_|refine wh ?_)
  refine ifV_cases (fun c => ?_) fun c => ?_
  · refine ⟨h, .refl _, ?_⟩
    have : swMay ds = false := by unfold swMay; rw [decide_eq_false (by omega)]; rfl
    rw [this] at hK; exact hK
  have hm : swMay ds = swOk (-1) ds := by unfold swMay; rw [decide_eq_true (by omega)]; rfl
  rw [hm] at hK
  refine Lfp_fam (ι := Nat) (fun i => [v, i64 i]) (fun i h' => i ≤ ds.length ∧ HLe h h' ∧ swOk (-1) ds = swOk (lastOf ds i) (ds.drop i) ∧ -1 ≤ lastOf ds i) (fun i => ds.length - i) ?_ 0 h ⟨by omega, .refl _, by simp [lastOf], by simp [lastOf]⟩
  intro i h' X ⟨hi, hle, heq, hl⟩ again
  simp only [tup_zero, tup_succ]
  refine bnd_of hln ?_
  (repeat first|refine wx ?_|refine wy ?_|refine wz ?_|refine wv ?_|refine wh ?_)
  refine ifV_cases (fun c1 => ?_) fun c1 => ?_
  · obtain ⟨s, hs⟩ : ∃ s, ds[i]? = some s := ⟨_, List.getElem?_eq_getElem (by omega)⟩
    have hse : (ds.map encS)[i]? = some (encS s) := by rw [List.getElem?_map, hs]; rfl
    obtain ⟨p, hp, hlp⟩ := (r.le hle).get hse .i64
    refine bnd_of hp (bnd_of hlp ?_)
    intro d hd
    have l1 := hle.new (.row 27 (encS s) 3 true) (hle.none hd)
    refine bnd_of (v := upd h' d (.row 27 (encS s) 3 true)) (by rw [stV_same]; rfl) ?_
    have cell (j : Nat) (v : Value) (hj : (encS s)[j]? = some v) : ldV 1 false (.pointer (some ⟨d, 0 + j, none⟩)) (upd h' d (.row 27 (encS s) 3 true)) = some v := by rw [ldV_cell (upd_same _ _ _), Nat.zero_add]; exact hj
    have e2 := swOk_drop hs (lastOf ds i)
    rw [e2] at heq
    have bad : ¬ s.fine (lastOf ds i) → ∃ h0, HLe h0 (upd h' d (.row 27 (encS s) 3 true)) ∧ K (.bool false) h0 := fun q => ⟨h, l1, by rw [decide_eq_false q, Bool.false_and] at heq; rw [heq] at hK; exact hK⟩
    have good' : s.fine (lastOf ds i) → X (tup [v, i64 ((i : Int) + 1)]) (upd h' d (.row 27 (encS s) 3 true)) := fun q => by
      have hlast : lastOf ds (i + 1) = s.c := by simp only [lastOf, hs]
      exact again (i + 1) _ ⟨by omega, l1, by rw [heq, decide_eq_true q, Bool.true_and, hlast], by rw [hlast]; unfold Sw.fine at q; omega⟩ (by omega)
    have tail (hc : lastOf ds i < s.c ∧ s.c < 16) : ∀ C : Value → Prop, (∀ z, C z → True) → True := fun _ _ => trivial
    (repeat first|refine wx ?_|refine wy ?_|refine wz ?_|refine wv ?_|refine wh ?_)
    refine bnd_of (cell 0 _ rfl) ?_
    (repeat first|refine wx ?_|refine wy ?_|refine wz ?_|refine wv ?_|refine wh ?_)
    refine ifV_cases (fun c2 => bad (by unfold Sw.fine; omega)) fun c2 => ?_
    (repeat first|refine wx ?_|refine wy ?_|refine wz ?_|refine wv ?_|refine wh ?_)
    refine bnd_of (cell 0 _ rfl) ?_
    (repeat first|refine wx ?_|refine wy ?_|refine wz ?_|refine wv ?_|refine wh ?_)
    refine ifV_cases (fun c3 => bad (by unfold Sw.fine; omega)) fun c3 => ?_
    (repeat first|refine wx ?_|refine wy ?_|refine wz ?_|refine wv ?_|refine wh ?_)
    refine ifV_cases (fun c4 => ?_) fun c4 => ?_
    · obtain ⟨j, rfl⟩ : ∃ j, i = j + 1 := ⟨i - 1, by omega⟩
      obtain ⟨s0, hs0⟩ : ∃ s0, ds[j]? = some s0 := ⟨_, List.getElem?_eq_getElem (by omega)⟩
      have hlast : lastOf ds (j + 1) = s0.c := by simp only [lastOf, hs0]
      have hse0 : (ds.map encS)[j]? = some (encS s0) := by rw [List.getElem?_map, hs0]; rfl
      obtain ⟨b0, o0, hp0, hf0, _⟩ := (r.le l1).fld hse0 .i64
      have ej : ((j + 1 : Nat) : Int) - 1 = (j : Nat) := by omega
      (repeat first|refine wx ?_|refine wy ?_|refine wz ?_|refine wv ?_|refine wh ?_)
      refine bnd_of (cell 0 _ rfl) ?_
      refine bnd_of (sub_id (by omega) (by omega)) ?_
      rw [ej]
      refine bnd_of hp0 ?_
      (repeat first|refine wx ?_|refine wy ?_|refine wz ?_|refine wv ?_|refine wh ?_)
      refine bnd_of (hf0 0 _ rfl) ?_
      (repeat first|refine wx ?_|refine wy ?_|refine wz ?_|refine wv ?_|refine wh ?_)
      refine ifV_cases (fun c5 => bad (by rw [hlast]; unfold Sw.fine; omega)) fun c5 => ?_
      (repeat first|refine wx ?_|refine wy ?_|refine wz ?_|refine wv ?_|refine wh ?_)
      refine bnd_of (cell 1 _ rfl) ?_
      (repeat first|refine wx ?_|refine wy ?_|refine wz ?_|refine wv ?_|refine wh ?_)
      refine ifV_cases (fun c6 => bad (by unfold Sw.fine; omega)) fun c6 => ?_
      (repeat first|refine wx ?_|refine wy ?_|refine wz ?_|refine wv ?_|refine wh ?_)
      refine bnd_of (cell 1 _ rfl) ?_
      (repeat first|refine wx ?_|refine wy ?_|refine wz ?_|refine wv ?_|refine wh ?_)
      refine ifV_cases (fun c7 => bad (by unfold Sw.fine; omega)) fun c7 => ?_
      (repeat first|refine wx ?_|refine wy ?_|refine wz ?_|refine wv ?_|refine wh ?_)
      refine bnd_of (cell 2 _ rfl) ?_
      (repeat first|refine wx ?_|refine wy ?_|refine wz ?_|refine wv ?_|refine wh ?_)
      refine ifV_cases (fun c8 => bad (by unfold Sw.fine; omega)) fun c8 => ?_
      (repeat first|refine wx ?_|refine wy ?_|refine wz ?_|refine wv ?_|refine wh ?_)
      refine bnd_of (cell 2 _ rfl) ?_
      (repeat first|refine wx ?_|refine wy ?_|refine wz ?_|refine wv ?_|refine wh ?_)
      refine ifV_cases (fun c9 => bad (by unfold Sw.fine; omega)) fun c9 => ?_
      (repeat first|refine wx ?_|refine wy ?_|refine wz ?_|refine wv ?_|refine wh ?_)
      exact good' (by rw [hlast]; unfold Sw.fine; omega)
    · have : i = 0 := by omega
      subst this
      have hlast : lastOf ds 0 = -1 := rfl
      (repeat first|refine wx ?_|refine wy ?_|refine wz ?_|refine wv ?_|refine wh ?_)
      refine bnd_of (cell 1 _ rfl) ?_
      (repeat first|refine wx ?_|refine wy ?_|refine wz ?_|refine wv ?_|refine wh ?_)
      refine ifV_cases (fun c6 => bad (by unfold Sw.fine; omega)) fun c6 => ?_
      (repeat first|refine wx ?_|refine wy ?_|refine wz ?_|refine wv ?_|refine wh ?_)
      refine bnd_of (cell 1 _ rfl) ?_
      (repeat first|refine wx ?_|refine wy ?_|refine wz ?_|refine wv ?_|refine wh ?_)
      refine ifV_cases (fun c7 => bad (by unfold Sw.fine; omega)) fun c7 => ?_
      (repeat first|refine wx ?_|refine wy ?_|refine wz ?_|refine wv ?_|refine wh ?_)
      refine bnd_of (cell 2 _ rfl) ?_
      (repeat first|refine wx ?_|refine wy ?_|refine wz ?_|refine wv ?_|refine wh ?_)
      refine ifV_cases (fun c8 => bad (by unfold Sw.fine; omega)) fun c8 => ?_
      (repeat first|refine wx ?_|refine wy ?_|refine wz ?_|refine wv ?_|refine wh ?_)
      refine bnd_of (cell 2 _ rfl) ?_
      (repeat first|refine wx ?_|refine wy ?_|refine wz ?_|refine wv ?_|refine wh ?_)
      refine ifV_cases (fun c9 => bad (by unfold Sw.fine; omega)) fun c9 => ?_
      (repeat first|refine wx ?_|refine wy ?_|refine wz ?_|refine wv ?_|refine wh ?_)
      exact good' (by rw [hlast]; unfold Sw.fine; omega)
  · have : i = ds.length := by omega
    subst this
    rw [List.drop_length] at heq
    rw [heq] at hK
    exact ⟨h, hle, hK⟩
end
end Go.Proofs.Ytbiappodepnbmaa
namespace Go.Proofs.Ytbiappodepnbmaa
open Go GW Go.Proofs
attribute [local irreducible] bnd ldV stV ifV binV eqI
set_option linter.unusedVariables false
set_option linter.unusedSimpArgs false
set_option maxRecDepth 20000
/-- a writer: where it writes next, what -/
structure Wr where
  addr : Int
  left : List Int
def Wr.step (w : Wr) (a : Ar) : Wr × Bool × Ar :=
  match w.left with
  | [] => (w, true, a)
  | x :: r => (⟨w.addr + 1, r⟩, r.isEmpty, a.put w.addr x)
structure Wr.ok (w : Wr) : Prop where
  a0 : 0 ≤ w.addr
  a1 : w.addr + w.left.length ≤ 634
  range : ∀ x ∈ w.left, I64 x
theorem Wr.step_ok {w : Wr} {a : Ar} (o : w.ok) (ha : a.ok) : (w.step a).1.ok ∧ (w.step a).2.2.ok := by
  unfold Wr.step
  split
  · exact ⟨o, ha⟩
  · rename_i x r e
    have h1 := o.a1
    have h2 := o.range
    rw [e] at h1 h2
    have h0 := o.a0
    refine ⟨⟨by simp only; omega, by simp only [List.length_cons] at h1; simp only; omega, fun y hy => h2 y (List.mem_cons_of_mem _ hy)⟩, ha.put _ (h2 x (by simp))⟩
def newWr (slot gen : Int) (ds : List Sw) : Wr := ⟨baseOf slot, descRow gen ds⟩
theorem newWr_ok {slot gen : Int} {ds : List Sw} (h1 : lifeMay slot gen = true) (h2 : swMay ds = true) : (newWr slot gen ds).ok := by
  unfold lifeMay at h1
  simp only [decide_eq_true_eq] at h1
  have hl : ds.length ≤ 16 := by unfold swMay at h2; simp only [Bool.and_eq_true, decide_eq_true_eq] at h2; exact h2.1
  refine ⟨?_, ?_, descRow_range h1.2.2.1 h1.2.2.2 h2⟩
  · simp only [newWr, baseOf]; omega
  · simp only [newWr, baseOf, descRow_len]; omega
abbrev rwRow (at_ : Nat) (slot : Int) (rv : Value) : GObj := .row 74 [i64 at_, i64 slot, rv] 3 true
def rwP (b : Nat) (w : Wr) : Part := fun h => ∃ (rv : Value) (n : Nat) (slot : Int) (full : List Int), (0 ≤ slot ∧ slot < 12 ∧ n ≤ full.length ∧ full.length ≤ 50 ∧ w.addr = baseOf slot + n ∧ w.left = full.drop n) ∧ All [pts b (rwRow n slot rv), rowP 1 rv (full.map encI)] h
section
variable {a b : Nat} {A : Ar} {R : List Part} {h : GH} {K : Value → GH → Prop}
theorem T_wrStep {w : Wr} (hp : All (arP 77 a A :: rwP b w :: R) h) (ok : w.ok)
    (hK : ∀ h', All (arP 77 a (w.step A).2.2 :: rwP b (w.step A).1 :: R) h' → K (.tuple #[.bool (w.step A).2.1, i64 0]) h') : T Try.prog 15 [ptr b, ptr a] h K := by
  apply S15_T
  unfold S15
  have hp1 : All (rwP b w :: arP 77 a A :: R) h := hp.up 1
  obtain ⟨rv, hp2⟩ := All.ex hp1
  obtain ⟨n, hp3⟩ := All.ex hp2
  obtain ⟨slot, hp4⟩ := All.ex hp3
  obtain ⟨full, hp5⟩ := All.ex hp4
  obtain ⟨⟨s0, s1, hn, h50, ea, el⟩, hp6⟩ := All.pure hp5
  have hp7 : All (pts b (rwRow n slot rv) :: rowP 1 rv (full.map encI) :: arP 77 a A :: R) h := All.flat hp6
  clear hp hp1 hp2 hp3 hp4 hp5 hp6
  have hp := hp7
  have hln : lnV rv = some (i64 full.length) := by
    have := All.len (hp.up 1); rw [List.length_map] at this; exact this
  have shut : ∀ {h' : GH} {A' : Ar} {n' : Nat} {w' : Wr}, n' ≤ full.length → w'.addr = baseOf slot + n' → w'.left = full.drop n' → All (pts b (rwRow n' slot rv) :: rowP 1 rv (full.map encI) :: arP 77 a A' :: R) h' → All (arP 77 a A' :: rwP b w' :: R) h' := by
    intro h' A' n' w' h1 h2 h3 hp
    exact ((All.fold (l := [_, _]) hp).head fun _ z => ⟨rv, n', slot, full, ⟨s0, s1, h1, h50, h2, h3⟩, z⟩).up 1
  (repeat first|refine wx ?_|refine wy ?_|refine wz ?_|refine wv ?_|refine wh ?_)
  refine bnd_of hln ?_
  (repeat first|refine wx ?_|refine wy ?_|refine wz ?_|refine wv ?_|refine wh ?_)
  have hb : baseOf slot = 34 + slot * 50 := rfl
  refine ifV_cases (fun c => ?_) fun c => ?_
  · have hlt : n < full.length := by omega
    obtain ⟨x, hx⟩ : ∃ x, full[n]? = some x := ⟨_, List.getElem?_eq_getElem hlt⟩
    have hxe : (full.map encI)[n]? = some [i64 x] := by rw [List.getElem?_map, hx]; rfl
    obtain ⟨d, e1, e2, _, _⟩ := (hp.up 1).elt hxe .i64
    have edrop : full.drop n = x :: full.drop (n + 1) := by
      rw [List.drop_eq_getElem_cons hlt]; congr 1
      rw [List.getElem?_eq_getElem hlt] at hx; exact Option.some.inj hx
    have hxr : I64 x := ok.range x (by rw [el, edrop]; simp)
    have est : w.step A = (⟨w.addr + 1, full.drop (n + 1)⟩, (full.drop (n + 1)).isEmpty, A.put w.addr x) := by
      unfold Wr.step; rw [el, edrop]
    rw [est] at hK
    (repeat first|refine wx ?_|refine wy ?_|refine wz ?_|refine wv ?_|refine wh ?_)
    refine bnd_of e1 (bnd_of (e2 0 1 _ rfl) ?_)
    refine T_rBase s0 s1 ?_
    refine ⟨e2 0 1 _ rfl, ?_⟩
    (repeat first|refine wx ?_|refine wy ?_|refine wz ?_|refine wv ?_|refine wh ?_)
    refine L_refStore (hp.up 2) (by omega) (by omega) hxr fun h' hp => ?_
    replace hp : All (pts b (rwRow n slot rv) :: rowP 1 rv (full.map encI) :: arP 77 a (A.put (baseOf slot + n) x) :: R) h' := hp.re 3 [1, 2, 0]
    (repeat first|refine wx ?_|refine wy ?_|refine wz ?_|refine wv ?_|refine wh ?_)
    refine st0 hp (rwRow (n + 1) slot rv) rfl (by simp) rfl rfl fun h' hp => ?_
    unfold S15_j1
    (repeat first|refine wx ?_|refine wy ?_|refine wz ?_|refine wv ?_|refine wh ?_)
    refine bnd_of hln ?_
    (repeat first|refine wx ?_|refine wy ?_|refine wz ?_|refine wv ?_|refine wh ?_)
    have e3 : decide ((full.length : Int) ≤ ((n + 1 : Nat) : Int)) = (full.drop (n + 1)).isEmpty := by
      rw [Bool.eq_iff_iff]
      simp only [decide_eq_true_eq, List.isEmpty_iff, List.drop_eq_nil_iff]
      omega
    rw [e3]
    refine hK _ (shut (by omega) (by simp only; rw [ea]; omega) rfl ?_)
    rw [ea]; exact hp
  · have hnn : n = full.length := by omega
    have est : w.step A = (w, true, A) := by unfold Wr.step; rw [el, hnn, List.drop_length]
    rw [est] at hK
    unfold S15_j1
    (repeat first|refine wx ?_|refine wy ?_|refine wz ?_|refine wv ?_|refine wh ?_)
    refine bnd_of hln ?_
    (repeat first|refine wx ?_|refine wy ?_|refine wz ?_|refine wv ?_|refine wh ?_)
    rw [decide_eq_true (by omega)]
    exact hK _ (shut hn ea el hp)
theorem row3 {s : Sw} : [[i64 (s.c * 4)], [i64 (s.w * 4)], [i64 (s.n * 4)]] = [s.c * 4, s.w * 4, s.n * 4].map encI := rfl
theorem T_NewWriter {v : Value} {slot gen : Int} {ds : List Sw} (hp : All R h) (r : ∀ h', All R h' → rowsAt h' 3 v (ds.map encS))
    (kn : ¬ (lifeMay slot gen = true ∧ swMay ds = true) → K (.tuple #[.pointer none, i64 1300]) h) (ky : lifeMay slot gen = true → swMay ds = true → ∀ b h', All (rwP b (newWr slot gen ds) :: R) h' → K (.tuple #[ptr b, i64 0]) h') : T Try.prog 14 [i64 slot, i64 gen, v] h K := by
  apply S14_T
  unfold S14
  refine T_lifeMay ?_
  (repeat first|refine wx ?_|refine wy ?_|refine wz ?_|refine wv ?_|refine wh ?_)
  refine ifV_bool (fun c => ?_) fun c => ?_
  · exact kn fun q => by rw [q.1] at c; cases c
  have c1 : lifeMay slot gen = true := by simpa using c
  refine T_swapsMay (r _ hp) ?_
  (repeat first|refine wx ?_|refine wy ?_|refine wz ?_|refine wv ?_|refine wh ?_)
  refine ifV_bool (fun c => ?_) fun c => ?_
  · exact kn fun q => by rw [q.2] at c; cases c
  have c2 : swMay ds = true := by simpa using c
  have hl := c1
  unfold lifeMay at hl
  simp only [decide_eq_true_eq] at hl
  have hs := c2
  unfold swMay at hs
  simp only [Bool.and_eq_true, decide_eq_true_eq] at hs
  have hln := (r _ hp).len
  rw [List.length_map] at hln
  unfold S14_j1
  refine T_rState hl.2.2.1 hl.2.2.2 (by decide) (by decide) ?_
  refine bnd_of hln ?_
  refine T_rValue (by omega) (by omega) ?_
  refine bs0 (size := 1) hp ([stateW gen 0, (ds.length : Int) * 4].map encI) rfl rfl (by simp) (encI_good _) fun rv h1 hp => ?_
  obtain ⟨sa, sc, _, rfl, _⟩ := hp.row
  (repeat first|refine wx ?_|refine wy ?_|refine wz ?_|refine wv ?_|refine wh ?_)
  refine nw hp (rwRow 0 slot (.slice sa ([stateW gen 0, (ds.length : Int) * 4].map encI).length sc)) rfl fun b h2 hp => ?_
  let part (i : Nat) : List Int := [stateW gen 0, (ds.length : Int) * 4] ++ ((ds.take i).map fun s => [s.c * 4, s.w * 4, s.n * 4]).flatten
  have hlen : ∀ i, i ≤ ds.length → (part i).length = 2 + 3 * i := by
    intro i hi
    have := descRow_len gen (ds.take i)
    unfold descRow at this
    rw [List.length_append] at this ⊢
    rw [List.length_take, Nat.min_eq_left hi] at this
    exact this
  refine Lfp_fam (ι := Nat) (fun i => [v, ptr b, i64 i]) (fun i h' => i ≤ ds.length ∧ ∃ rv, All (pts b (rwRow 0 slot rv) :: rowP 1 rv ((part i).map encI) :: R) h') (fun i => ds.length - i) ?_ 0 h2 ⟨by omega, _, hp⟩
  intro i h3 X ⟨hi, rv, hp⟩ again
  simp only [tup_zero, tup_succ]
  refine bnd_of hln ?_
  (repeat first|refine wx ?_|refine wy ?_|refine wz ?_|refine wv ?_|refine wh ?_)
  refine ifV_cases (fun c => ?_) fun c => ?_
  · obtain ⟨s, hse⟩ : ∃ s, ds[i]? = some s := ⟨_, List.getElem?_eq_getElem (by omega)⟩
    have hse' : (ds.map encS)[i]? = some (encS s) := by rw [List.getElem?_map, hse]; rfl
    obtain ⟨b0, o0, hp0, hf0, _⟩ := (r _ hp.tail.tail).fld hse' .i64
    obtain ⟨m1, m2, m3, m4, m5, m6⟩ := swOk_mem (by decide) hs.2 s (List.mem_of_getElem? hse)
    (repeat first|refine wx ?_|refine wy ?_|refine wz ?_|refine wv ?_|refine wh ?_)
    refine bnd_of hp0 ?_
    (repeat first|refine wx ?_|refine wy ?_|refine wz ?_|refine wv ?_|refine wh ?_)
    refine bnd_of (hf0 0 _ rfl) (bnd_of hp0 ?_)
    (repeat first|refine wx ?_|refine wy ?_|refine wz ?_|refine wv ?_|refine wh ?_)
    refine bnd_of (hf0 1 _ rfl) (bnd_of hp0 ?_)
    (repeat first|refine wx ?_|refine wy ?_|refine wz ?_|refine wv ?_|refine wh ?_)
    refine bnd_of (hf0 2 _ rfl) ?_
    refine T_rValue (by omega) (by omega) ⟨hf0 2 _ rfl, hf0 1 _ rfl, ?_⟩
    (repeat first|refine wx ?_|refine wy ?_|refine wz ?_|refine wv ?_|refine wh ?_)
    refine T_rValue (by omega) (by omega) ⟨hf0 2 _ rfl, ?_⟩
    (repeat first|refine wx ?_|refine wy ?_|refine wz ?_|refine wv ?_|refine wh ?_)
    refine T_rValue (by omega) (by omega) ?_
    (repeat first|refine wx ?_|refine wy ?_|refine wz ?_|refine wv ?_|refine wh ?_)
    have hp1 : All (rowP 1 rv ((part i).map encI) :: pts b (rwRow 0 slot rv) :: R) h3 := hp.up 1
    refine bs0 (size := 1) hp1 ([s.c * 4, s.w * 4, s.n * 4].map encI) rfl rfl (by simp) (encI_good _) fun xv h4 hp => ?_
    have hrows := hp.rows
    refine ap0 (hp.up 1) hrows (encI_good _) (by decide) (by rw [List.length_map, hlen i hi]; simp; omega) fun rv' h5 hp => ?_
    obtain ⟨sa, sc, _, rfl, _⟩ := hp.row
    (repeat first|refine wx ?_|refine wy ?_|refine wz ?_|refine wv ?_|refine wh ?_)
    refine st2 hp (rwRow 0 slot (.slice sa ((part i).map encI ++ [s.c * 4, s.w * 4, s.n * 4].map encI).length sc)) rfl (by simp) rfl rfl fun h6 hp => ?_
    (repeat first|refine wx ?_|refine wy ?_|refine wz ?_|refine wv ?_|refine wh ?_)
    have ep : (part i).map encI ++ [s.c * 4, s.w * 4, s.n * 4].map encI = (part (i + 1)).map encI := by
      rw [← List.map_append]
      congr 1
      simp only [part]
      rw [List.take_add_one, hse]
      simp
    rw [ep] at hp
    exact again (i + 1) _ ⟨by omega, _, hp.re 3 [2, 0]⟩ (by omega)
  · have : i = ds.length := by omega
    subst this
    have e : part ds.length = descRow gen ds := by simp only [part, List.take_length]; rfl
    rw [e] at hp
    refine ky c1 c2 b _ ((All.fold (l := [_, _]) hp).head fun _ z => ⟨rv, 0, slot, descRow gen ds, ⟨hl.1, hl.2.1, by omega, by rw [descRow_len]; omega, by simp [newWr], rfl⟩, z⟩)
end
end Go.Proofs.Ytbiappodepnbmaa
namespace Go.Proofs.Ytbiappodepnbmaa
open Go GW Go.Proofs
attribute [local irreducible] bnd ldV stV ifV binV eqI
set_option linter.unusedVariables false
set_option linter.unusedSimpArgs false
set_option maxRecDepth 20000
def putRow : Int → List Int → Ar → Ar
  | _, [], A => A
  | a, x :: r, A => putRow (a + 1) r (A.put a x)
def putDss : Int → List (List Sw) → Ar → Ar
  | _, [], A => A
  | i, d :: ds, A => putDss (i + 1) ds (if swMay d = true then putRow (baseOf i) (descRow 1 d) A else A)
def shelfA (cells : List Int) (dss : List (List Sw)) : Ar := putDss 0 (dss.take 4) (putRow 0 (cells.take 16) newAr)
theorem putRow_ok : ∀ {r : List Int} {a : Int} {A : Ar}, A.ok → (∀ x ∈ r, I64 x) → (putRow a r A).ok := by
  intro r
  induction r with
  | nil => intro a A h _; exact h
  | cons x r ih => intro a A h hr; exact ih (h.put _ (hr x (by simp))) fun y hy => hr y (List.mem_cons_of_mem _ hy)
theorem newAr_ok : newAr.ok := initA_ok 11 (by decide)
theorem putDss_ok : ∀ {ds : List (List Sw)} {i : Int} {A : Ar}, A.ok → (putDss i ds A).ok := by
  intro ds
  induction ds with
  | nil => intro i A h; exact h
  | cons d ds ih =>
    intro i A h
    unfold putDss
    split
    · rename_i hm
      exact ih (putRow_ok h (descRow_range (by decide) (by decide) hm))
    · exact ih h
theorem shelfA_ok {cells : List Int} {dss : List (List Sw)} (hc : ∀ x ∈ cells, I64 x) : (shelfA cells dss).ok :=
  putDss_ok (putRow_ok newAr_ok fun x hx => hc x (List.mem_of_mem_take hx))
def swapsAt (h : GH) (v : Value) (us : List Value) (dss : List (List Sw)) : Prop := rowsAt h 1 v (us.map fun u => [u]) ∧ Each2 (fun u ds => rowsAt h 3 u (ds.map encS)) us dss
theorem Each2.imp {α β : Type} {P Q : α → β → Prop} {l : List α} {m : List β} (h : Each2 P l m) (k : ∀ a b, P a b → Q a b) : Each2 Q l m := by
  induction h with
  | nil => exact .nil
  | cons p _ ih => exact .cons (k _ _ p) ih
theorem Each2.get {α β : Type} {P : α → β → Prop} : ∀ {l : List α} {m : List β}, Each2 P l m → ∀ {i : Nat} {b : β}, m[i]? = some b → ∃ a, l[i]? = some a ∧ P a b := by
  intro l m h
  induction h with
  | nil => intro i b h; simp at h
  | cons p _ ih =>
    intro i b h
    cases i with
    | zero => simp at h; subst h; exact ⟨_, rfl, p⟩
    | succ i => simpa using ih (by simpa using h)
section
variable {a b : Nat} {A : Ar} {R : List Part} {h : GH} {K : Value → GH → Prop}
theorem T_pair (hp : All R h) (hK : ∀ a b h', All (arP 84 a newAr :: arP 77 b newAr :: R) h' → K (.tuple #[ptr a, ptr b]) h') : T Try.prog 11 [.slice none 0 0, .slice none 0 0] h K := by
  apply S11_T
  unfold S11
  refine T_arenaNew hp fun a h1 hp => ?_
  refine T_refArenaNew hp fun b h2 hp => ?_
  (repeat first|refine wx ?_|refine wy ?_|refine wz ?_|refine wv ?_|refine wh ?_)
  refine T_All (hp.up 1) fun v h3 hp => ?_
  refine bnd_of hp.len ?_
  have hl : (newAr.ws.map encI).length = 634 := by rw [List.length_map]; exact newAr_ok.words
  rw [hl]
  (repeat first|refine wx ?_|refine wy ?_|refine wz ?_|refine wv ?_|refine wh ?_)
  unfold S11_j1
  refine Lfp_fam (ι := Unit) (fun _ => [.slice none 0 0, .slice none 0 0, ptr a, ptr b, i64 0]) (fun _ h' => h' = h3) (fun _ => 0) ?_ () h3 rfl
  intro _ h' X he again
  subst he
  simp only [tup_zero, tup_succ]
  refine bnd_of rfl ?_
  (repeat first|refine wx ?_|refine wy ?_|refine wz ?_|refine wv ?_|refine wh ?_)
  exact hK a b _ hp.tail
theorem last_put {A : Ar} {i x : Int} (h0 : 0 ≤ i) : (A.put i x).last = [0, 1, i, A.at i, x, 0, 0, 0] := by
  simp only [Ar.put, Ar.touch]
  congr 3; omega
theorem T_shelf {cv dv : Value} {us : List Value} {cells : List Int} {dss : List (List Sw)} (hp : All R h) (rc : ∀ h', All R h' → rowsAt h' 1 cv (cells.map encI)) (rd : ∀ h', All R h' → swapsAt h' dv us dss) (hc : ∀ x ∈ cells, I64 x)
    (hK : ∀ a b h', All (arP 84 a (shelfA cells dss) :: arP 77 b (shelfA cells dss) :: R) h' → K (.tuple #[ptr a, ptr b]) h') : T Try.prog 5 [cv, dv] h K := by
  apply S5_T
  unfold S5
  have hcl : lnV cv = some (i64 cells.length) := by have := (rc _ hp).len; rw [List.length_map] at this; exact this
  have hdl : lnV dv = some (i64 dss.length) := by
    obtain ⟨r, q⟩ := rd _ hp
    have := r.len; rw [List.length_map, q.len] at this; exact this
  refine T_pair hp fun a b h1 hp => ?_
  (repeat first|refine wx ?_|refine wy ?_|refine wz ?_|refine wv ?_|refine wh ?_)
  have hcm : cells.length ≤ 9223372036854775807 := by have := (rc _ hp.tail.tail).max; rw [List.length_map] at this; exact this
  have hdm : dss.length ≤ 9223372036854775807 := by
    obtain ⟨r, q⟩ := rd _ hp.tail.tail
    have := r.max; rw [List.length_map, q.len] at this; exact this
  refine Lfp_fam (ι := Nat × Ar) (fun p => [cv, dv, ptr a, ptr b, i64 p.1]) (fun p h' => p.1 ≤ cells.length ∧ p.1 ≤ 16 ∧ p.2.ok ∧ putRow p.1 ((cells.take 16).drop p.1) p.2 = putRow 0 (cells.take 16) newAr ∧ All (arP 84 a p.2 :: arP 77 b p.2 :: R) h') (fun p => cells.length - p.1) ?_ (0, newAr) h1 ⟨by omega, by omega, newAr_ok, rfl, hp⟩
  rintro ⟨i, A⟩ h2 X ⟨hi, hi16, hA, heq, hp⟩ again
  simp only at hi hi16 hA heq hp
  simp only [tup_zero, tup_succ]
  have key : (i = cells.length ∨ i = 16) → S5_j2 (tup [cv, dv, ptr a, ptr b, i64 i]) dv (ptr a) (ptr b) h2 K X := by
    intro hend
    have hd : (cells.take 16).drop i = [] := by rw [List.drop_eq_nil_iff, List.length_take]; omega
    rw [hd] at heq
    have heq : A = putRow 0 (cells.take 16) newAr := heq
    unfold S5_j2
    refine Lfp_fam (ι := Nat × Ar) (fun p => [dv, ptr a, ptr b, i64 p.1]) (fun p h' => p.1 ≤ dss.length ∧ p.1 ≤ 4 ∧ p.2.ok ∧ putDss p.1 ((dss.take 4).drop p.1) p.2 = shelfA cells dss ∧ All (arP 84 a p.2 :: arP 77 b p.2 :: R) h') (fun p => dss.length - p.1) ?_ (0, A) h2 ⟨by omega, by omega, hA, by rw [heq]; rfl, hp⟩
    rintro ⟨j, B⟩ h3 Y ⟨hj, hj4, hB, hqe, hp⟩ again2
    simp only at hj hj4 hB hqe hp
    simp only [tup_zero, tup_succ]
    refine bnd_of hdl ?_
    (repeat first|refine wx ?_|refine wy ?_|refine wz ?_|refine wv ?_|refine wh ?_)
    refine ifV_cases (fun c => ?_) fun c => ?_
    · (repeat first|refine wx ?_|refine wy ?_|refine wz ?_|refine wv ?_|refine wh ?_)
      refine ifV_cases (fun c4 => ?_) fun c4 => ?_
      · unfold S5_j3
        obtain ⟨d, hd⟩ : ∃ d, dss[j]? = some d := ⟨_, List.getElem?_eq_getElem (by omega)⟩
        have edrop : (dss.take 4).drop j = d :: (dss.take 4).drop (j + 1) := by
          have hl : j < (dss.take 4).length := by rw [List.length_take]; omega
          rw [List.drop_eq_getElem_cons hl]
          congr 1
          rw [List.getElem_take]
          rw [List.getElem?_eq_getElem (by omega)] at hd; exact Option.some.inj hd
        rw [edrop] at hqe
        unfold putDss at hqe
        obtain ⟨ru, qu⟩ := rd _ hp.tail.tail
        obtain ⟨u, hu, ru2⟩ := qu.get hd
        obtain ⟨p, e1, e2⟩ := ru.get1 (i := j) (x := u) (by rw [List.getElem?_map, hu]; rfl) .i64
        refine bnd_of e1 (bnd_of e2 ?_)
        have step : ∀ {B' : Ar} {h' : GH}, B'.ok → B' = (if swMay d = true then putRow (baseOf j) (descRow 1 d) B else B) → All (arP 84 a B' :: arP 77 b B' :: R) h' → Y (tup [dv, ptr a, ptr b, i64 ((j : Int) + 1)]) h' := by
          intro B' h' hB' e hp
          rw [← e] at hqe
          exact again2 (j + 1, B') _ ⟨by simp only; omega, by simp only; omega, hB', hqe, hp⟩ (by simp only; omega)
        have hrd : ∀ h', All (arP 84 a B :: arP 77 b B :: R) h' → rowsAt h' 3 u (d.map encS) := by
          intro h' hp
          obtain ⟨ru', qu'⟩ := rd _ hp.tail.tail
          obtain ⟨u', hu', ru2'⟩ := qu'.get hd
          rw [hu] at hu'
          cases hu'
          exact ru2'
        refine T_NewWriter hp hrd (fun hn => ?_) (fun l1 l2 w h4 hp => ?_)
        · have hm : ¬ swMay d = true := fun q => hn ⟨by unfold lifeMay; rw [decide_eq_true (by omega)], q⟩
          (repeat first|refine wx ?_|refine wy ?_|refine wz ?_|refine wv ?_|refine wh ?_)
          exact step hB (by rw [if_neg hm]) hp
        · (repeat first|refine wx ?_|refine wy ?_|refine wz ?_|refine wv ?_|refine wh ?_)
          refine Lfp_fam (ι := Wr × Ar × Bool) (fun p => [dv, ptr a, ptr b, i64 j, ptr w, .bool p.2.2]) (fun p h' => p.1.ok ∧ p.2.1.ok ∧ (p.2.2 = true → p.1.left = []) ∧ (p.2.2 = false → p.1.left ≠ []) ∧ putRow p.1.addr p.1.left p.2.1 = putRow (baseOf j) (descRow 1 d) B ∧ All (rwP w p.1 :: arP 84 a p.2.1 :: arP 77 b p.2.1 :: R) h') (fun p => p.1.left.length) ?_ (newWr j 1 d, B, false) h4 ⟨newWr_ok l1 l2, hB, (fun q => by cases q), (fun _ q => by simp [newWr, descRow] at q), rfl, hp⟩
          rintro ⟨W, C, ov⟩ h5 Z ⟨hW, hC, ho, hno, hq, hp⟩ again3
          simp only at hW hC ho hno hq hp
          simp only [tup_zero, tup_succ]
          cases ov with
          | true =>
            (repeat first|refine wx ?_|refine wy ?_|refine wz ?_|refine wv ?_|refine wh ?_)
            rw [ho rfl] at hq
            exact step hC (by rw [if_pos l2, ← hq]; rfl) hp.tail
          | false =>
            (repeat first|refine wx ?_|refine wy ?_|refine wz ?_|refine wv ?_|refine wh ?_)
            refine T_wrStep (hp.re 3 [2, 0, 1]) hW fun h6 hp => ?_
            obtain ⟨x, r, el⟩ : ∃ x r, W.left = x :: r := by
              cases e : W.left with
              | nil => exact absurd e (hno rfl)
              | cons x r => exact ⟨x, r, rfl⟩
            have est : W.step C = (⟨W.addr + 1, r⟩, r.isEmpty, C.put W.addr x) := by unfold Wr.step; rw [el]
            have hst := Wr.step_ok hW hC
            rw [est] at hst hp
            have a0 := hW.a0
            have a1 := hW.a1
            rw [el] at a1
            have hx : I64 x := hW.range x (by rw [el]; simp)
            rw [est]
            (repeat first|refine wx ?_|refine wy ?_|refine wz ?_|refine wv ?_|refine wh ?_)
            refine T_refLast hp ?_
            rw [last_put a0]
            (repeat first|refine wx ?_|refine wy ?_|refine wz ?_|refine wv ?_|refine wh ?_)
            refine nwst hp (.row 55 ([0, 1, W.addr, C.at W.addr, x, 0, 0, 0].map i64) 8 true) rfl rfl rfl (by rfl) fun d' h7 hp => ?_
            (repeat first|refine wx ?_|refine wy ?_|refine wz ?_|refine wv ?_|refine wh ?_)
            refine L_Store (hp.re 4 [3, 1, 2]) a0 (by simp only [List.length_cons] at a1; omega) hx fun h8 hp => ?_
            refine again3 (⟨W.addr + 1, r⟩, C.put W.addr x, r.isEmpty) _ ⟨hst.1, hst.2, fun q => by simpa using q, fun q => by simpa using q, ?_, hp.re 3 [2, 0, 1]⟩ (by simp only [el, List.length_cons]; omega)
            rw [← hq, el]; rfl
      · have h4 : j = 4 := by omega
        subst h4
        have hd : (dss.take 4).drop 4 = [] := by rw [List.drop_eq_nil_iff, List.length_take]; omega
        rw [hd] at hqe
        have hqe : B = shelfA cells dss := hqe
        rw [← hqe] at hK
        exact hK a b _ hp
    · have hd : (dss.take 4).drop j = [] := by rw [List.drop_eq_nil_iff, List.length_take]; omega
      rw [hd] at hqe
      have hqe : B = shelfA cells dss := hqe
      rw [← hqe] at hK
      exact hK a b _ hp
  refine bnd_of hcl ?_
  (repeat first|refine wx ?_|refine wy ?_|refine wz ?_|refine wv ?_|refine wh ?_)
  refine ifV_cases (fun c => ?_) fun c => key (.inl (by omega))
  (repeat first|refine wx ?_|refine wy ?_|refine wz ?_|refine wv ?_|refine wh ?_)
  refine ifV_cases (fun c16 => ?_) fun c16 => key (.inr (by omega))
  unfold S5_j1
  obtain ⟨x, hx⟩ : ∃ x, cells[i]? = some x := ⟨_, List.getElem?_eq_getElem (by omega)⟩
  have edrop : (cells.take 16).drop i = x :: (cells.take 16).drop (i + 1) := by
    have hl : i < (cells.take 16).length := by rw [List.length_take]; omega
    rw [List.drop_eq_getElem_cons hl]
    congr 1
    rw [List.getElem_take]
    rw [List.getElem?_eq_getElem (by omega)] at hx; exact Option.some.inj hx
  rw [edrop] at heq
  have hxe : (cells.map encI)[i]? = some [i64 x] := by rw [List.getElem?_map, hx]; rfl
  have hxr := hc x (List.mem_of_getElem? hx)
  obtain ⟨p, e1, e2⟩ := (rc _ hp.tail.tail).get1 hxe .i64
  refine bnd_of e1 (bnd_of e2 ?_)
  refine L_Store hp (by omega) (by omega) hxr fun h3 hp => ?_
  obtain ⟨p, e1, e2⟩ := (rc _ hp.tail.tail).get1 hxe .i64
  refine bnd_of e1 (bnd_of e2 ?_)
  refine L_refStore (hp.up 1) (by omega) (by omega) hxr fun h4 hp => ?_
  (repeat first|refine wx ?_|refine wy ?_|refine wz ?_|refine wv ?_|refine wh ?_)
  exact again (i + 1, A.put i x) _ ⟨by simp only; omega, by simp only; omega, hA.put _ hxr, heq, hp.up 1⟩ (by simp only; omega)
end
end Go.Proofs.Ytbiappodepnbmaa
namespace Go.Proofs.Ytbiappodepnbmaa
open Go GW Go.Proofs
set_option linter.unusedVariables false
set_option linter.unusedSimpArgs false
theorem one_cell' {cs : List Value} {v : Value} (hl : cs.length = 1) (h : (cs.drop 0).take 1 = [v]) : cs = [v] := by
  match cs, hl with
  | [x], _ => simpa using h
theorem i64_of_wf {x : Int} (h : (Lit.int .i64 x).wf = true) : I64 x := by
  simp [Lit.wf, IntKind.min, IntKind.max, IntKind.bits, IntKind.signed] at h
  constructor <;> omega
theorem open_i64s {H : Type} {enc : TypeId × Value → H} {W : World} {fuel : Nat} {cs : List Value} {d : DataW H} {ps : List MemPlace} (h : DataW.trod enc Try.prog W 0 (fun _ => true) true fuel 23 cs = some (d, ps)) (hw : (d.weights Try.prog 23).all (· ≤ reachBytes) = true) :
    ∃ v, ∃ xs : List Int, cs = [v] ∧ rowsAt (full W) 1 v (xs.map encI) ∧ (∀ x ∈ xs, I64 x) ∧ (xs.length + 2) * 8 ≤ 140737488355328 := by
  obtain ⟨v, xs, h1, h2, h3⟩ := open_rows (P := Try.prog) (α := { x : Int // I64 x }) (fun x => encI x.1) Try.underlying23 (size := 1) (by kernel_rfl) (by decide) (fun _ => rfl) (fun fuel cs d ps h => by
    obtain ⟨x, hx, hwf⟩ := open_int_cs (P := Try.prog) Try.underlying3 h
    exact ⟨⟨x, i64_of_wf hwf⟩, hx⟩) h hw
  have hb : Try.prog.bytesOf 3 = 8 := by kernel_rfl
  rw [hb] at h3
  refine ⟨v, xs.map Subtype.val, h1, by rw [List.map_map]; exact h2, fun x hx => ?_, by rw [List.length_map]; unfold reachBytes at h3; omega⟩
  obtain ⟨y, _, rfl⟩ := List.mem_map.1 hx
  exact y.2
theorem open_swap {H : Type} {enc : TypeId × Value → H} {W : World} {fuel : Nat} {cs : List Value} {d : DataW H} {ps : List MemPlace} (h : DataW.trod enc Try.prog W 0 (fun _ => true) true fuel 27 cs = some (d, ps)) : ∃ x : Sw, cs = encS x := by
  obtain ⟨xs, hl, hc, _⟩ := open_ints_struct (P := Try.prog) Try.underlying27 (by kernel_rfl) (fun i f hf => by
    have hi : i < 3 := by have := (Array.getElem?_eq_some_iff.1 hf).1; simpa using this
    match i, hi with
    | 0, _ | 1, _ | 2, _ => simp at hf; subst hf; exact ⟨rfl, by kernel_rfl, by kernel_rfl⟩) h
  match xs, hl with
  | [x0, x1, x2], _ => exact ⟨⟨x0, x1, x2⟩, hc⟩
theorem open_swaps {H : Type} {enc : TypeId × Value → H} {W : World} {fuel : Nat} {cs : List Value} {d : DataW H} {ps : List MemPlace} (h : DataW.trod enc Try.prog W 0 (fun _ => true) true fuel 25 cs = some (d, ps)) (hw : (d.weights Try.prog 25).all (· ≤ reachBytes) = true) :
    ∃ v, ∃ xs : List Sw, cs = [v] ∧ rowsAt (full W) 3 v (xs.map encS) ∧ (xs.length + 2) * 24 ≤ 140737488355328 := by
  obtain ⟨v, xs, h1, h2, h3⟩ := open_rows (P := Try.prog) encS Try.underlying25 (size := 3) (by kernel_rfl) (by decide) (fun _ => rfl) (fun fuel cs d ps h => open_swap h) h hw
  have hb : Try.prog.bytesOf 27 = 24 := by kernel_rfl
  rw [hb] at h3
  exact ⟨v, xs, h1, h2, by unfold reachBytes at h3; omega⟩
theorem Each2.build {α β : Type} {Q : α → Prop} {R : α → β → Prop} : ∀ {l : List α}, (∀ a ∈ l, ∃ b, R a b) → ∃ m : List β, Each2 R l m := by
  intro l
  induction l with
  | nil => intro _; exact ⟨[], .nil⟩
  | cons a l ih =>
    intro h
    obtain ⟨b, hb⟩ := h a (by simp)
    obtain ⟨m, hm⟩ := ih fun x hx => h x (List.mem_cons_of_mem _ hx)
    exact ⟨b :: m, .cons hb hm⟩
theorem open_swapss {H : Type} {enc : TypeId × Value → H} {W : World} {fuel : Nat} {cs : List Value} {d : DataW H} {ps : List MemPlace} (h : DataW.trod enc Try.prog W 0 (fun _ => true) true fuel 22 cs = some (d, ps)) (hw : (d.weights Try.prog 22).all (· ≤ reachBytes) = true) :
    ∃ v us, ∃ dss : List (List Sw), cs = [v] ∧ swapsAt (full W) v us dss ∧ dss.length ≤ 9223372036854775807 := by
  obtain ⟨w, es, h1, h2, h3, hmx⟩ := open_rowsQ (P := Try.prog) (size := 1) (fun c => ∃ u : Value, c = [u] ∧ ∃ ds : List Sw, rowsAt (full W) 3 u (ds.map encS)) Try.underlying22 (by kernel_rfl) (by decide) (fun c ⟨u, hc, _⟩ => by rw [hc]; rfl) (fun fuel cs d ps h w => by
    obtain ⟨v, xs, e1, e2, _⟩ := open_swaps h w
    exact ⟨v, e1, xs, e2⟩) h hw
  obtain ⟨us, hus⟩ := Each2.build (Q := fun _ => True) (R := fun c (u : Value) => c = [u] ∧ ∃ ds : List Sw, rowsAt (full W) 3 u (ds.map encS)) (l := es) fun c hc => h3 c hc
  have e1 : es = us.map fun u => [u] := by
    clear h2 h3 h1 h hw hmx
    induction hus with
    | nil => rfl
    | cons p _ ih => rw [List.map_cons, ← ih, p.1]
  have h4 : ∀ u ∈ us, ∃ ds : List Sw, rowsAt (full W) 3 u (ds.map encS) := by
    intro u hu
    have : [u] ∈ es := by rw [e1]; exact List.mem_map.2 ⟨u, hu, rfl⟩
    obtain ⟨u', e, hd⟩ := h3 _ this
    cases e; exact hd
  obtain ⟨dss, hd⟩ := Each2.build (Q := fun _ => True) (R := fun u (ds : List Sw) => rowsAt (full W) 3 u (ds.map encS)) (l := us) h4
  have hm := h2.max
  rw [e1] at h2 hm
  refine ⟨w, us, dss, h1, ⟨h2, hd⟩, ?_⟩
  rw [List.length_map, hd.len] at hm
  exact hm
end Go.Proofs.Ytbiappodepnbmaa
namespace Go.Proofs.Ytbiappodepnbmaa
open Go GW Go.Proofs
attribute [local irreducible] bnd ldV stV ifV binV eqI
set_option linter.unusedVariables false
set_option linter.unusedSimpArgs false
set_option maxRecDepth 20000
def mineW (s : Int) : Int := 4 * (16 + s) + 2
/-- so many steps, until it is over; none: an error -/
def runs : Nat → Help → Ar → Bool → Nat → Option (Help × Ar × Bool × Nat)
  | 0, H, A, ov, m => some (H, A, ov, m)
  | n + 1, H, A, ov, m =>
    match ov with
    | true => some (H, A, ov, m)
    | false =>
      match (H.step A).2.1 with
      | 0 => runs n (H.step A).1 (H.step A).2.2 (H.step A).1.over (m + 1)
      | _ => none
def awakeA : Ar := shelfA [20, 8] [[⟨0, 5, 6⟩, ⟨1, 2, 7⟩]]
def awakeH : Help := Help.new 1 0 (.who (.new 0 1))
def awakeFin (r : Option (Help × Ar × Bool × Nat)) : Bool :=
  match r with
  | some (H, A, ov, m) => ov && (m == 21 && (H.won && (H.q == 2 && (A.at 0 == 24 && ((A.ld 0).at 1 == 28 && (H.slot == 0 && H.gen == 1))))))
  | none => false
theorem awake_fin : awakeFin (runs 40 awakeH awakeA false 0) = true := by decide +kernel
theorem mineW_eq (s : Int) : mineW s = (Form.mcas s 1).number := by unfold mineW; simp only [Form.number]; omega
theorem read_mine {s : Int} (h0 : 0 ≤ s) (h1 : s < 12) : read (mineW s) = some (.mcas s 1) := by
  rw [mineW_eq]; exact read_number (may_mcas.2 ⟨h0, h1, by decide, by decide⟩)
theorem new_mine {t q s : Int} (h0 : 0 ≤ s) (h1 : s < 12) (t0 : 0 ≤ t) (t1 : t < 4) (q0 : 0 ≤ q) (q1 : q < 1048576) : newHelp t q (mineW s) = some (.new t q (.who (.new s 1))) := by
  unfold newHelp; rw [read_mine h0 h1]
  simp only [Option.bind_some, newFr]
  rw [if_pos ⟨t0, t1, q0, q1⟩]
theorem runs_ok : ∀ {n : Nat} {H : Help} {A : Ar} {ov : Bool} {m : Nat} {r : Help × Ar × Bool × Nat}, H.ok → A.ok → runs n H A ov m = some r → r.1.ok ∧ r.2.1.ok := by
  intro n
  induction n with
  | zero => intro H A ov m r h1 h2 e; cases e; exact ⟨h1, h2⟩
  | succ n ih =>
    intro H A ov m r h1 h2 e
    unfold runs at e
    split at e
    · cases e; exact ⟨h1, h2⟩
    · split at e
      · have := Help.step_ok h1 h2
        exact ih this.1 this.2 e
      · cases e
section
variable {a b c : Nat} {A B : Ar} {R : List Part} {h : GH} {K : Value → GH → Prop} {H : Help}
theorem mineW_range {s : Int} (h0 : 0 ≤ s) (h1 : s < 100) : I64 (mineW s) := by unfold mineW; constructor <;> omega
theorem eqB (x y : Bool) (c : Bool) : eqK .bool c (.bool x) (.bool y) = some (x == y) := by cases c <;> rfl
theorem T_StepNil (hK : K (.tuple #[.bool false, i64 1]) h) : T Try.prog 35 [ptr b, .pointer none] h K := by
  apply S35_T
  unfold S35
  (repeat first|refine wx ?_|refine wy ?_|refine wz ?_|refine wv ?_|refine wh ?_)
  unfold S35_j1
  (repeat first|refine wx ?_|refine wy ?_|refine wz ?_|refine wv ?_|refine wh ?_)
  exact hK
theorem awakeH_ok : awakeH.ok := ⟨by decide, by decide, by decide, by decide, by constructor <;> decide, by constructor <;> decide, fun _ => ⟨Wh.new_ok ⟨by decide, by decide, by decide, by decide⟩, (fun _ h => by cases h), by decide⟩⟩
end
end Go.Proofs.Ytbiappodepnbmaa
namespace Go.Proofs.Ytbiappodepnbmaa
open Go GW Go.Proofs
set_option linter.unusedVariables false
set_option linter.unusedSimpArgs false
set_option maxRecDepth 20000
def eachP {α β : Type} (P : α → β → Part) : List α → List β → Part
  | [], [] => emp
  | a :: xs, b :: ys => fun h => All [P a b, eachP P xs ys] h
  | _, _ => fun _ => False
theorem All.unflat {l l' : List Part} {h : GH} (a : All (l ++ l') h) : All ((fun h => All l h) :: l') h := All.fold a
section
variable {α β : Type} {P : α → β → Part} {R : List Part} {h : GH}
theorem eachP_len : ∀ {xs : List α} {ys : List β} {h : GH}, eachP P xs ys h → xs.length = ys.length := by
  intro xs
  induction xs with
  | nil => intro ys h p; cases ys with
    | nil => rfl
    | cons b ys => exact p.elim
  | cons a xs ih => intro ys h p; cases ys with
    | nil => exact p.elim
    | cons b ys =>
      obtain ⟨h1, h2, _, _, _, _, q⟩ := p
      obtain ⟨h1, h2, _, _, _, q, _⟩ := q
      simp [ih q]
theorem eachP_at : ∀ {k : Nat} {xs : List α} {ys : List β} {a : α} {b : β} {R : List Part} {h : GH}, xs[k]? = some a → ys[k]? = some b → All (eachP P xs ys :: R) h → All (P a b :: eachP P (xs.eraseIdx k) (ys.eraseIdx k) :: R) h := by
  intro k
  induction k with
  | zero =>
    intro xs ys a b R h ea eb hp
    cases xs with
    | nil => simp at ea
    | cons a' xs => cases ys with
      | nil => simp at eb
      | cons b' ys =>
        simp at ea eb
        subst ea eb
        exact All.flat hp
  | succ k ih =>
    intro xs ys a b R h ea eb hp
    cases xs with
    | nil => simp at ea
    | cons a' xs => cases ys with
      | nil => simp at eb
      | cons b' ys =>
        have hp1 : All (P a' b' :: eachP P xs ys :: R) h := All.flat hp
        have hp2 := hp1.mono2 fun _ z => ih (by simpa using ea) (by simpa using eb) z
        have hp3 : All (P a b :: P a' b' :: eachP P (xs.eraseIdx k) (ys.eraseIdx k) :: R) h := hp2.up 1
        exact hp3.mono2 fun _ z => All.fold (l := [_, _]) z
theorem eachP_put : ∀ {k : Nat} {xs : List α} {ys : List β} {a : α} {b : β} {R : List Part} {h : GH}, xs[k]? = some a → k < ys.length → All (P a b :: eachP P (xs.eraseIdx k) (ys.eraseIdx k) :: R) h → All (eachP P xs (ys.set k b) :: R) h := by
  intro k
  induction k with
  | zero =>
    intro xs ys a b R h ea eb hp
    cases xs with
    | nil => simp at ea
    | cons a' xs => cases ys with
      | nil => simp at eb
      | cons b' ys =>
        simp at ea
        subst ea
        exact All.fold (l := [_, _]) hp
  | succ k ih =>
    intro xs ys a b R h ea eb hp
    cases xs with
    | nil => simp at ea
    | cons a' xs => cases ys with
      | nil => simp at eb
      | cons b' ys =>
        have hp1 : All (P a b :: P a' b' :: eachP P (xs.eraseIdx k) (ys.eraseIdx k) :: R) h := hp.mono2 fun _ z => All.flat z
        have hp2 : All (P a' b' :: P a b :: eachP P (xs.eraseIdx k) (ys.eraseIdx k) :: R) h := hp1.up 1
        have hp3 := hp2.mono2 fun _ z => ih (by simpa using ea) (by simpa using eb) z
        exact All.fold (l := [_, _]) hp3
theorem eachP_snoc : ∀ {xs : List α} {ys : List β} {a : α} {b : β} {R : List Part} {h : GH}, All (P a b :: eachP P xs ys :: R) h → All (eachP P (xs ++ [a]) (ys ++ [b]) :: R) h := by
  intro xs
  induction xs with
  | nil =>
    intro ys a b R h hp
    cases ys with
    | nil => exact All.fold (l := [_, _]) hp
    | cons b' ys => exact (All.case (hp.up 1) fun h1 p _ => p.elim)
  | cons a' xs ih =>
    intro ys a b R h hp
    cases ys with
    | nil => exact (All.case (hp.up 1) fun h1 p _ => p.elim)
    | cons b' ys =>
      have hp1 : All (P a b :: P a' b' :: eachP P xs ys :: R) h := hp.mono2 fun _ z => All.flat z
      have hp2 : All (P a' b' :: P a b :: eachP P xs ys :: R) h := hp1.up 1
      have hp3 := hp2.mono2 fun _ z => ih z
      exact All.fold (l := [_, _]) hp3
end
def encP (b : Nat) : List Value := [ptr b]
theorem encP_good (bs : List Nat) : ∀ c ∈ bs.map encP, good 1 c := by
  intro c hc
  obtain ⟨t, _, rfl⟩ := List.mem_map.1 hc
  exact ⟨rfl, rfl⟩
theorem baseP.le {g : GH} {R : List Part} {h : GH} (hp : All (baseP g :: R) h) : HLe g h := by
  obtain ⟨h1, h2, _, l1, _, p, _⟩ := hp
  exact p.trans l1
/-- one that was won is over -/
def Help.wo (H : Help) : Prop := H.won = true → H.over = true
theorem Help.step_wo {H : Help} {A : Ar} (w : H.wo) : (H.step A).1.wo := by
  cases c : H.over with
  | true =>
    have e : H.step A = (H, 0, A) := by unfold Help.step; rw [c]; rfl
    rw [e]; exact w
  | false =>
    have hw : H.won = false := by
      cases e : H.won with
      | false => rfl
      | true => rw [w e] at c; cases c
    rw [Help.step_eq c]
    generalize H.top.step H.t H.q A = o
    unfold Help.take Help.wo
    split
    · intro _; rfl
    · split
      · split
        · intro _; rfl
        · intro e; rw [hw] at e; cases e
      · split
        · intro e; rw [hw] at e; cases e
        · split
          · intro _; rfl
          · intro e; cases e
theorem newHelp_wo {t q x : Int} {H : Help} (e : newHelp t q x = some H) : H.wo := by
  unfold newHelp at e
  split at e
  · split at e
    · cases e; intro h; cases h
    · cases e
  · cases e
section
variable {a b c : Nat} {A B : Ar} {R : List Part} {h : GH} {K : Value → GH → Prop} {H : Help}
end
end Go.Proofs.Ytbiappodepnbmaa
