/-
  AxS17: what the executor keeps, whatever the world.
-/
import Derived.Test.YtneaghddjbhbnaaGreatDoorXb
import Derived.Test.YtneaghddjbhbnaaGreatDoorXa
import Derived.RangeFuncRecord
import Derived.OrdersIn
import Derived.Scope
import Derived.Lib.Bytealg
import Derived.Lib.MakeNoZero
namespace Go.Ax
open Go Go.RowKit

section
variable {P : Program} {G : Glob} {st : St} {ev : Operand → Option AV}

/-- The memory does not shrink. -/
def OR.ge (n : Nat) : OR → Prop
  | .val _ st => n ≤ st.nxt
  | _ => True
theorem strict_ge {n : Nat} (st : St) (k : St → OR) (hs : n ≤ st.nxt) (h : ∀ st', n ≤ st'.nxt → (k st').ge n) : (strict st k).ge n := by
  unfold strict
  split
  · trivial
  · split
    · trivial
    · rename_i j hj
      exact h _ (by simp only; omega)
theorem storeC_nxt {b off : Nat} {l : List AV} {st' : St} (h : storeC st b off l = some st') : st'.nxt = st.nxt := by
  unfold storeC at h
  split at h
  · rw [cond_eq_ite] at h
    split at h
    · split at h
      · cases h
      · rw [cond_eq_ite] at h
        split at h
        · cases h; rfl
        · cases h
    · cases h
  · cases h
theorem appFit_ge (b off sLen n lo : Nat) (ex : Bool) (size : Nat) (new : List AV) : (appFit st b off sLen n lo ex size new).ge st.nxt := by
  unfold appFit; repeat' split
  all_goals first | trivial | skip
  all_goals (simp only [cond_eq_ite]; repeat' split)
  all_goals first | trivial | exact strict_ge _ _ (by simp) fun _ h => h
theorem appNew_ge (el need size : Nat) (l : List AV) : (appNew st el need size l).ge st.nxt := by
  unfold appNew
  exact strict_ge _ _ (by simp [fresh]) fun _ h => h
theorem appGrow_ge (el b off sLen n size : Nat) (new : List AV) : (appGrow st el b off sLen n size new).ge st.nxt := by
  unfold appGrow; repeat' split
  all_goals first | trivial | exact appNew_ge ..
theorem appMaybe_ge (el b off sLen n size : Nat) (new : List AV) : (appMaybe st el b off sLen n size new).ge st.nxt := by
  unfold appMaybe; repeat' split
  all_goals first | trivial | skip
  all_goals (simp only [cond_eq_ite]; repeat' split)
  all_goals first | trivial | exact strict_ge _ _ (by simp) fun _ h => h
theorem appendX_ge (t : TypeId) (xt : Option TypeId) (s x : AV) : (appendX P t xt s x st).ge st.nxt := by
  unfold appendX; repeat' split
  all_goals first | trivial | exact appNew_ge .. | skip
  all_goals (simp only [cond_eq_ite]; repeat' split)
  all_goals first | trivial | exact Nat.le_refl _ | exact appNew_ge .. | exact appFit_ge .. | exact appGrow_ge .. | exact appMaybe_ge ..
theorem copyX_ge (t : TypeId) (d s : AV) : (copyX P t d s st).ge st.nxt := by
  unfold copyX; repeat' split
  all_goals first | trivial | exact Nat.le_refl _ | skip
  all_goals (simp only [cond_eq_ite]; repeat' split)
  all_goals first | trivial | exact Nat.le_refl _ | exact strict_ge _ _ (Nat.le_of_eq (storeC_nxt (by assumption)).symm) fun _ h => h
theorem clearX_ge (t : TypeId) (x : AV) : (clearX P t x st).ge st.nxt := by
  unfold clearX; repeat' split
  all_goals first | trivial | exact Nat.le_refl _ | skip
  all_goals (simp only [cond_eq_ite]; repeat' split)
  all_goals first | trivial | exact Nat.le_refl _ | exact strict_ge _ _ (Nat.le_of_eq (storeC_nxt (by assumption)).symm) fun _ h => h

theorem loud_ge (op : Op) : (loud P ev st op).ge st.nxt := by
  have upd : ∀ (t : TypeId) (m k x : Operand),
      (match P.underlying t, ev m, ev k, ev x with
        | some (.map kt _), some (.map b), some k, some v => bif keyOk P kt k then
            (match st.hp.get b with
             | some (.map es) => (match findE k es with
               | some _ => strict ⟨st.nxt, st.hp.set b (.map (setE k v es))⟩ fun st => OR.val U st
               | none => .bad)
             | _ => .bad)
            else .bad
        | _, _, _, _ => .bad : OR).ge st.nxt := by
    intro t m k x
    repeat' split
    all_goals first | trivial | skip
    all_goals (simp only [cond_eq_ite]; repeat' split)
    all_goals first | trivial | exact strict_ge _ _ (by simp) fun _ h => h
  cases op with
  | call c =>
    obtain ⟨callee, args, argTypes⟩ := c
    cases callee with
    | value f => simp only [loud]; repeat' split
                 all_goals trivial
    | builtin b =>
      simp only [loud]
      repeat' split
      all_goals first | trivial | exact Nat.le_refl _ | exact appendX_ge .. | exact copyX_ge .. | exact clearX_ge .. | skip
      all_goals (simp only [cond_eq_ite]; repeat' split)
      all_goals first | trivial | exact strict_ge _ _ (by simp) fun _ h => h
    | invoke r n => trivial
  | defer c =>
    obtain ⟨callee, args, argTypes⟩ := c
    cases callee with
    | value f => simp only [loud]; repeat' split
                 all_goals trivial
    | builtin b => trivial
    | invoke r n => trivial
  | mapUpdate t m k x => exact upd t m k x
  | insert t m k x => exact upd t m k x
  | store t a x =>
    simp only [loud]
    repeat' split
    all_goals first | trivial | skip
    all_goals (simp only [cond_eq_ite]; repeat' split)
    all_goals first | trivial | exact strict_ge _ _ (Nat.le_of_eq (storeC_nxt (by assumption)).symm) fun _ h => h
  | convert s d x =>
    simp only [loud]
    repeat' split
    all_goals first | trivial | skip
    all_goals (simp only [cond_eq_ite]; repeat' split)
    all_goals first | trivial | exact strict_ge _ _ (by simp) fun _ h => h
  | next it b =>
    cases b with
    | false => trivial
    | true =>
      simp only [loud]
      repeat' split
      all_goals first | trivial | skip
      all_goals (simp only [cond_eq_ite]; repeat' split)
      all_goals first | trivial | exact Nat.le_refl _ | exact strict_ge _ _ (by simp) fun _ h => h
  | _ => trivial

theorem loud_nxt {op : Op} {v : AV} {st' : St} (h : loud P ev st op = .val v st') : st.nxt ≤ st'.nxt := by
  have := loud_ge (P := P) (ev := ev) (st := st) op
  rw [h] at this; exact this

theorem Fr.put_rd {fr fr' : Fr} {dst : Option Tmp} {v : AV} (h : fr.put dst v = some fr') : fr'.rd = fr.rd ∧ fr'.ds = fr.ds := by
  unfold Fr.put at h
  split at h
  · cases h; exact ⟨rfl, rfl⟩
  · rw [cond_eq_ite] at h
    split at h
    · split at h
      · cases h
      · cases h; exact ⟨rfl, rfl⟩
    · cases h

theorem strict_st {st st' : St} {v : AV} (h : strict st (fun st => .val U st) = .val v st') : st' = st := by
  have := strict_eq _ _ h
  simp only [OR.val.injEq] at this
  exact this.2.symm

/-- What ends a command. -/
def Res.ge (n : Nat) (rd : Bool) : Res → Prop
  | .ok _ fr st => n ≤ st.nxt ∧ fr.rd = rd
  | .ret _ st => n ≤ st.nxt
  | .bad => True

/-- What is asked of the known calls, for this. -/
def Env.SGe (E : Env) : Prop := ∀ g args st v st', E.S g args st = some (v, st') → st.nxt ≤ st'.nxt

theorem X_ge {E : Env} (hS : E.SGe) : ∀ (f : Nat) (cmd : Cmd) (fr : Fr) (st : St), (X E f cmd fr st).ge st.nxt fr.rd := by
  intro f
  induction f with
  | zero => intro cmd fr st; simp [X, Res.ge]
  | succ f ih =>
    have ihok : ∀ {cmd : Cmd} {fr : Fr} {st : St} {e : AX} {fr' : Fr} {st' : St}, X E f cmd fr st = .ok e fr' st' → st.nxt ≤ st'.nxt ∧ fr'.rd = fr.rd := by
      intro cmd fr st e fr' st' h
      have := ih cmd fr st
      rw [h] at this; exact this
    have ihret : ∀ {cmd : Cmd} {fr : Fr} {st : St} {v : AV} {st' : St}, X E f cmd fr st = .ret v st' → st.nxt ≤ st'.nxt := by
      intro cmd fr st v st' h
      have := ih cmd fr st
      rw [h] at this; exact this
    have mono : ∀ {n m : Nat} {r r' : Bool} {x : Res}, x.ge n r → m ≤ n → r = r' → x.ge m r' := by
      intro n m r r' x h hm hr
      subst hr
      cases x with
      | ok e fr st => exact ⟨Nat.le_trans hm h.1, h.2⟩
      | ret v st => exact Nat.le_trans hm h
      | bad => trivial
    intro cmd fr st
    cases cmd with
    | code c =>
      cases c with
      | skip => simp [X, Res.ge]
      | label l => simp [X, Res.ge]
      | exit id => simp [X, Res.ge]
      | ret => simp [X, Res.ge]
      | seq a b =>
        simp only [X]
        split
        · rename_i fr1 st1 h1
          obtain ⟨a1, a2⟩ := ihok h1
          exact mono (ih _ _ _) a1 a2
        · exact ih _ _ _
      | cond c a b =>
        simp only [X]
        split
        · exact ih _ _ _
        · exact ih _ _ _
        · trivial
      | block id b =>
        simp only [X]
        split
        · rename_i i fr1 st1 h1
          obtain ⟨a1, a2⟩ := ihok h1
          rw [cond_eq_ite]
          split
          · exact ⟨a1, a2⟩
          · exact ⟨a1, a2⟩
        · exact ih _ _ _
      | loop b =>
        simp only [X]
        split
        · rename_i fr1 st1 h1
          obtain ⟨a1, a2⟩ := ihok h1
          exact mono (ih _ _ _) a1 a2
        · exact ih _ _ _
      | region id ops d =>
        cases d with
        | false => simp only [X]; exact ih _ _ _
        | true =>
          simp only [X]
          split
          · rw [cond_eq_ite]
            split
            · exact ih _ _ _
            · trivial
          · trivial
      | scope b => simp only [X]; exact ih _ _ _
      | rangeFunc g ps assign body =>
        simp only [X]
        rw [cond_eq_ite]
        split
        · trivial
        · split
          · split
            · trivial
            · split
              · rename_i h1
                have := strict_st h1
                subst this
                split
                · rename_i h2
                  have h2' := ihret h2
                  split
                  · split
                    · rename_i h3
                      have := strict_st h3
                      subst this
                      refine ⟨?_, rfl⟩
                      simp only [fresh] at h2'
                      simp only
                      omega
                    · trivial
                  · trivial
                · trivial
              · trivial
          · trivial
      | _ => simp [X, Res.ge]
    | ops all rest =>
      simp only [X]
      split
      · exact ⟨Nat.le_refl _, rfl⟩
      · split
        · split
          · rename_i h1
            exact mono (ih _ _ _) (Nat.le_refl _) (Fr.put_rd h1).1
          · trivial
        · split
          · split
            · split
              · rename_i h1
                exact mono (ih _ _ _) (Nat.le_refl _) (Fr.put_rd h1).1
              · trivial
            · trivial
          · split
            · split
              · rename_i h0
                have := strict_st h0
                subst this
                split
                · rename_i h1
                  exact mono (ih _ _ _) (by simp [fresh]) (Fr.put_rd h1).1
                · trivial
              · trivial
            · trivial
          · split
            · rename_i h0
              split
              · rename_i h1
                exact mono (ih _ _ _) (loud_nxt h0) (Fr.put_rd h1).1
              · trivial
            · split
              · rename_i h0
                split
                · rename_i h1
                  exact mono (ih _ _ _) (ihret h0) (Fr.put_rd h1).1
                · trivial
              · trivial
            · split
              · rename_i h0
                split
                · rename_i h1
                  exact mono (ih _ _ _) (ihret h0) (Fr.put_rd h1).1
                · trivial
              · trivial
            · rw [cond_eq_ite]
              split
              · trivial
              · split
                · rename_i h1
                  exact mono (ih _ _ _) (Nat.le_refl _) (Fr.put_rd h1).1
                · trivial
            · trivial
        · trivial
    | draw all todo recs dn ld =>
      simp only [X]
      split
      · rw [cond_eq_ite]
        split
        · exact ⟨Nat.le_refl _, rfl⟩
        · trivial
      · rw [cond_eq_ite]
        split
        · split
          · split
            · rename_i h1
              exact mono (ih _ _ _) (Nat.le_refl _) (Fr.put_rd h1).1
            · trivial
          · split
            · split
              · split
                · rename_i h1
                  exact mono (ih _ _ _) (Nat.le_refl _) (Fr.put_rd h1).1
                · trivial
              · trivial
            · split
              · split
                · rename_i h0
                  have := strict_st h0
                  subst this
                  split
                  · rename_i h1
                    exact mono (ih _ _ _) (by simp [fresh]) (Fr.put_rd h1).1
                  · trivial
                · trivial
              · trivial
            · split
              · rename_i h0
                split
                · rename_i h1
                  exact mono (ih _ _ _) (loud_nxt h0) (Fr.put_rd h1).1
                · trivial
              · split
                · rename_i h0
                  split
                  · rename_i h1
                    exact mono (ih _ _ _) (ihret h0) (Fr.put_rd h1).1
                  · trivial
                · trivial
              · trivial
          · trivial
        · trivial
    | call g args =>
      simp only [X]
      split
      · rename_i h
        exact hS _ _ _ _ _ h
      · exact ih _ _ _
    | enter plain g args =>
      simp only [X]
      split
      · split
        · split
          · split
            · trivial
            · rename_i h
              obtain ⟨a1, _⟩ := ihok h
              split
              · split
                · exact a1
                · trivial
              · rw [cond_eq_ite]
                split
                · trivial
                · split
                  · rename_i h2
                    obtain ⟨a2, _⟩ := ihok h2
                    split
                    · exact Nat.le_trans a1 a2
                    · trivial
                  · trivial
            · trivial
          · trivial
        · trivial
      · trivial
    | leave ds =>
      simp only [X]
      split
      · exact ⟨Nat.le_refl _, rfl⟩
      · split
        · split
          · rename_i h0
            have := strict_st h0
            subst this
            exact mono (ih _ _ _) (Nat.le_refl _) rfl
          · trivial
        · trivial
      · split
        · rename_i h0
          exact mono (ih _ _ _) (ihret h0) rfl
        · trivial
    | yield b args =>
      simp only [X]
      split
      · split
        · split
          · rename_i h1
            obtain ⟨a1, _⟩ := ihok h1
            split
            · split
              · rename_i h2
                have := strict_st h2
                subst this
                split
                · rename_i h3
                  obtain ⟨a3, _⟩ := ihok h3
                  split
                  · split
                    · rename_i h4
                      have := strict_st h4
                      subst this
                      exact Nat.le_trans a1 a3
                    · trivial
                  · trivial
                · trivial
              · trivial
            · trivial
          · trivial
        · trivial
      · trivial

end
end Go.Ax

/-
  AxS18: frames, guards, results; the walk's rules as the executor needs them.
-/
namespace Go.Ax
open Go Go.RowKit

/-- The wide fence, in a round or not. -/
def FR (r : Option Nat) : Fence := { Fence.wide with round := r }
theorem FR_fn (r : Option Nat) (f : FuncId) : (FR r).fn f := trivial
theorem FR_room (r : Option Nat) (n : Nat) : (FR r).room n := room_wide n
theorem FR_depth (r : Option Nat) {n : Nat} : (FR r).depth.isSome = true → 1 ≤ n := fun h => by simp [FR, Fence.wide] at h

def ofAX : AX → Exit
  | .normal => .normal
  | .exit i => .exit i
  | .ret => .ret

section
variable {P : Program} {G : Glob} {B : Nat} {φ : PM} {st : St} {w : World} {fr : Fr} {a : Act}

/-- A frame and an activation. -/
def AR (φ : PM) (fr : Fr) (a : Act) : Prop := TR φ fr a.tmps ∧ ADRs φ fr.ds a.defers
theorem AR.mono {φ φ' : PM} (h : PM.le φ φ') (ha : AR φ fr a) : AR φ' fr a := ⟨ha.1.mono h, ha.2.mono h⟩

theorem Fr.put_get {fr fr' : Fr} {dst : Option Tmp} {v : AV} (h : fr.put dst v = some fr') : fr'.n = fr.n ∧ (∀ d, dst = some d → d < fr.n) ∧
    ∀ t, fr'.t.get t = if dst = some t then some v else fr.t.get t := by
  unfold Fr.put at h
  split at h
  · cases h
    exact ⟨rfl, (fun d hd => by cases hd), fun t => by rw [if_neg (by simp)]⟩
  · rename_i d
    rw [cond_eq_ite] at h
    split at h
    · rename_i hd
      rw [Nat.blt_eq] at hd
      split at h
      · cases h
      · rename_i x y z hset
        cases h
        refine ⟨rfl, (fun d' hd' => by cases hd'; exact hd), fun t => ?_⟩
        simp only
        rw [← hset, Tr.get_set]
        by_cases ht : t = d
        · subst ht; simp
        · rw [if_neg ht, if_neg (by simpa using fun e => ht e.symm)]
    · cases h

theorem TR.put {fr fr' : Fr} {dst : Option Tmp} {v : AV} {y : Value} {tmps : Array Value} (h : fr.put dst v = some fr') (ht : TR φ fr tmps) (hv : VR φ v y) :
    TR φ fr' (match dst with | some d => tmps.setIfInBounds d y | none => tmps) := by
  obtain ⟨h1, h2, h3⟩ := Fr.put_get h
  refine ⟨by rw [h1, ht.1]; cases dst <;> simp, fun t u hu => ?_⟩
  rw [h3] at hu
  cases dst with
  | none => rw [if_neg (by simp)] at hu; exact ht.2 t u hu
  | some d =>
    simp only
    split at hu
    · rename_i hd
      simp only [Option.some.injEq] at hd
      subst hd; cases hu
      refine ⟨y, Array.getElem?_setIfInBounds_self_of_lt ?_, hv⟩
      have := h2 d rfl; rw [ht.1] at this; exact this
    · rename_i hd
      rw [Array.getElem?_setIfInBounds_ne (by simpa using hd)]
      exact ht.2 t u hu

theorem AR.put {fr fr' : Fr} {dst : Option Tmp} {v : AV} {y : Value} (h : fr.put dst v = some fr') (ha : AR φ fr a) (hv : VR φ v y) : AR φ fr' (a.put dst y) := by
  have := TR.put h ha.1 hv
  refine ⟨?_, ?_⟩
  · cases dst <;> exact this
  · rw [(Fr.put_rd h).2]; cases dst <;> exact ha.2

theorem TR.eval {tmps : Array Value} {t : Nat} {v : AV} (ht : TR φ fr tmps) (h : fr.t.get t = some v) : VR φ v (tmps.getD t undef) := by
  obtain ⟨y, h1, h2⟩ := ht.2 t v h
  have : tmps.getD t undef = y := by simp [Array.getD_eq_getD_getElem?, h1]
  rw [this]; exact h2

theorem AR.ev (ha : AR φ fr a) {x : Operand} {u : AV} (h : ev fr x = some u) : VR φ u (a.eval x) := by
  cases x with
  | tmp t => exact ha.1.eval h
  | const v => simp only [Ax.ev, Option.some.injEq] at h; subst h; exact VR.of v
  | global g => simp only [Ax.ev, Option.some.injEq] at h; subst h; simp [VR, Act.eval]
  | func f => simp only [Ax.ev, Option.some.injEq] at h; subst h; simp [VR, VRs, Act.eval]

theorem nthO_eq : ∀ (l : List Oper) (i : Nat), nthO l i = l[i]?
  | [], _ => by simp [nthO]
  | _ :: _, 0 => by simp [nthO]
  | _ :: l, i + 1 => by simp [nthO, nthO_eq l i]

theorem wanted_of {ops : Array Oper} {o : Oper} {fr : Fr} {tmps : Array Value} {b : Bool} (h : wantedX ops.toList o fr = some b)
    (ht : ∀ j want g d v, o.guard = some (j, want) → ops[j]? = some g → g.dst = some d → fr.t.get d = some v → ∃ y, tmps[d]? = some y ∧ VR φ v y) :
    Region.wanted o (yielded ops tmps) = b := by
  unfold wantedX at h
  unfold Region.wanted
  split at h
  · rename_i hg
    cases h
    rw [hg]
  · rename_i j want hg
    rw [hg]
    split at h
    · rename_i g hj
      rw [nthO_eq, Array.getElem?_toList] at hj
      split at h
      · rename_i d hd
        have key : ∀ v, fr.t.get d = some v → ∃ y, tmps[d]? = some y ∧ VR φ v y := fun v hv => ht j want g d v hg hj hd hv
        split at h
        · rename_i b' hb
          obtain ⟨y, h1, h2⟩ := key _ hb
          simp only [VR] at h2; subst h2
          have hy : yielded ops tmps j = some b' := by
            unfold yielded
            simp only [hj, Option.bind_some, hd, h1]
          simp only [hy]
          cases h
          cases b' <;> cases want <;> rfl
        · rename_i xs hb
          obtain ⟨y, h1, h2⟩ := key _ hb
          simp only [VR] at h2; subst h2
          have hy : yielded ops tmps j = none := by
            unfold yielded
            simp only [hj, Option.bind_some, hd, h1]
          simp only [hy]
          cases h
          cases want <;> rfl
        · cases h
      · cases h
    · cases h

theorem AR.wanted {ops : Array Oper} {o : Oper} {b : Bool} (ha : AR φ fr a) (h : wantedX ops.toList o fr = some b) : Region.wanted o (yielded ops a.tmps) = b :=
  wanted_of h fun _ _ _ d v _ _ _ hv => ha.1.2 d v hv

/-! ### Results -/
theorem result1_sound {r : ResultVar} {v : AV} {tmps : Array Value} (h : result1 P G fr st r = some v) (hr : HR G B φ st w) (ht : TR φ fr tmps) :
    ∃ y, ((match r with
      | .tmp t => pure (tmps.getD t undef)
      | .cell a t => do loadVar t (← asAddr (tmps.getD a undef)) : Sem Value)).run P w = .ok y w ∧ VR φ v y := by
  unfold result1 at h
  split at h
  · exact ⟨_, rfl, ht.eval h⟩
  · rename_i b t
    split at h
    · rename_i p hp
      split at h
      · rename_i bb off
        have hv := ht.eval hp
        obtain ⟨z, hz, hv'⟩ := loadX_sound h hr hv
        simp only [VR] at hv
        obtain ⟨q, _, hq⟩ := hv
        refine ⟨z, ?_, hv'⟩
        show Sem.run P (do loadVar t (← asAddr (tmps.getD b undef)) : Sem Value) w = .ok z w
        rw [hq] at hz ⊢
        simpa [Instr.loadAt, Instr.sureAddr, asAddr] using hz
      · cases h
    · cases h

theorem resultsL_sound : ∀ (l : List ResultVar) (m : List AV) (tmps : Array Value), resultsL P G fr st l = some m → HR G B φ st w → TR φ fr tmps →
    ∃ ys : List Value, (l.mapM fun r => (match r with
      | .tmp t => pure (tmps.getD t undef)
      | .cell a t => do loadVar t (← asAddr (tmps.getD a undef)) : Sem Value)).run P w = .ok ys w ∧ VRs φ m ys
  | [], m, tmps, h, _, _ => by simp only [resultsL, Option.some.injEq] at h; subst h; exact ⟨[], rfl, VRs.nil⟩
  | r :: l, m, tmps, h, hr, ht => by
    simp only [resultsL] at h
    split at h
    · rename_i x m' h1 h2
      cases h
      obtain ⟨y, hy, hv⟩ := result1_sound h1 hr ht
      obtain ⟨ys, hys, hvs⟩ := resultsL_sound l m' tmps h2 hr ht
      refine ⟨y :: ys, ?_, VRs.cons hv hvs⟩
      rw [List.mapM_cons]
      simp only [Sem.run_bind]
      refine (congrArg (fun r => Result.andThen r _) hy).trans ?_
      simp only [Result.andThen_ok]
      refine (congrArg (fun r => Result.andThen r _) hys).trans ?_
      rfl
    · cases h

theorem resultsX_sound {fn : Func} {v : AV} {tmps : Array Value} (h : resultsX P G fn fr st = some v) (hr : HR G B φ st w) (ht : TR φ fr tmps) :
    ∃ y, (results fn tmps).run P w = .ok y w ∧ VR φ v y := by
  unfold resultsX at h
  have fin : ∀ m, resultsL P G fr st fn.results.toList = some m → ∃ ys : List Value, (results fn tmps).run P w = .ok (if h : ys.toArray.size = 1 then ys.toArray[0] else .tuple ys.toArray) w ∧ VRs φ m ys := by
    intro m hm
    obtain ⟨ys, h1, h2⟩ := resultsL_sound _ m tmps hm hr ht
    refine ⟨ys, ?_, h2⟩
    unfold results
    simp only [Sem.run_bind]
    rw [← Array.toArray_toList (xs := fn.results), List.mapM_toArray]
    simp only [map_eq_pure_bind, Sem.run_bind]
    refine (congrArg (fun r => Result.andThen (Result.andThen r _) _) h1).trans ?_
    rfl
  split at h
  · rename_i x hm
    cases h
    obtain ⟨ys, h1, h2⟩ := fin _ hm
    simp only [VRs] at h2
    obtain ⟨y, m, rfl, h3, rfl⟩ := h2
    exact ⟨y, by simpa using h1, h3⟩
  · rename_i l hne hm
    cases h
    obtain ⟨ys, h1, h2⟩ := fin _ hm
    have hl := h2.length
    have hn : ys.toArray.size ≠ 1 := by
      intro e
      simp only [List.size_toArray] at e
      rw [e] at hl
      match l, hl with
      | [x], _ => exact hne x rfl
    rw [dif_neg hn] at h1
    exact ⟨_, h1, by simp only [VR]; exact ⟨_, rfl, h2⟩⟩
  · cases h

/-! ### Loops, unrolled; scopes -/
def LoopWp (F : Fence) (P : Program) (c : Code) (Q : Exit → Act → World → Prop) (a : Act) (w : World) : Prop :=
  ∀ (b : Frame) (k : List Item) (cs : List Frame), b.roundOf = F.round → F.fn b.fn → F.room (cs.length + 1 + 0) →
    ∃ e a' w', Q e a' w' ∧ ArrivesIn (Machine.fenced P F) P (lone (b.atR a (.code c :: .inLoop c :: k)) cs w) b k cs e a' w'

theorem LoopWp.wpIn {F : Fence} {c : Code} {Q : Exit → Act → World → Prop} (h : LoopWp F P c Q a w) : (Code.loop c).wpIn F 0 P Q a w := by
  intro b k cs hro hb hr
  obtain ⟨e, a', w', hq, harr⟩ := h b k cs hro hb hr
  exact ⟨e, a', w', hq, .of_steps (.one (fenced_calm hb hr rfl) stepR_loop) harr⟩

theorem LoopWp.unroll {F : Fence} {c : Code} {Q : Exit → Act → World → Prop} (h : c.wpIn F 0 P (Exit.then (LoopWp F P c Q) Q) a w) : LoopWp F P c Q a w := by
  intro b k cs hro hb hr
  obtain ⟨e, a₁, w₁, hq, harr⟩ := h b (.inLoop c :: k) cs hro hb hr
  cases e with
  | normal =>
    obtain ⟨e₂, a₂, w₂, hq₂, harr₂⟩ := hq b k cs hro hb hr
    exact ⟨e₂, a₂, w₂, hq₂, .of_steps (StepsIn.trans harr (.one (fenced_calm hb hr rfl) stepR_inLoop)) harr₂⟩
  | exit id => exact ⟨_, a₁, w₁, hq, .pass (x := .inLoop c) rfl (fun _ _ => .inl (by simp)) harr⟩
  | goto l => exact ⟨_, a₁, w₁, hq, .pass (x := .inLoop c) rfl (fun _ _ => .inl (by simp)) harr⟩
  | ret => exact ⟨_, a₁, w₁, hq, .pass (x := .inLoop c) rfl (fun _ _ => .inl (by simp)) harr⟩
  | panic ch => exact ⟨_, a₁, w₁, hq, .pass (x := .inLoop c) rfl (fun _ _ => .inl (by simp)) harr⟩
  | outgrown => exact ⟨_, a₁, w₁, hq, .pass (x := .inLoop c) rfl (fun _ _ => .inl (by simp)) harr⟩

/-- A piece of code walked; of a loop: from its body on. -/
def CW (F : Fence) (P : Program) (c : Code) (Q : Exit → Act → World → Prop) (a : Act) (w : World) : Prop :=
  match c with
  | .loop b => LoopWp F P b Q a w
  | c => c.wpIn F 0 P Q a w
theorem CW.wpIn {F : Fence} {c : Code} {Q : Exit → Act → World → Prop} (h : CW F P c Q a w) : c.wpIn F 0 P Q a w := by
  cases c <;> first | exact h | exact LoopWp.wpIn h

theorem stepR_scope {b : Frame} {a : Act} {k : List Item} {cs : List Frame} {w : World} {c : Code} : step P (lone (b.atR a (.code (.scope c) :: k)) cs w) = .next (lone (b.atR a (.code c :: .inScope c :: k)) cs w) :=
  step_lone_go (by simp [stepG, stepG.exec, Frame.atR])
theorem stepR_inScope {b : Frame} {a : Act} {k : List Item} {cs : List Frame} {w : World} {c : Code} : step P (lone (b.atR a (.inScope c :: k)) cs w) = .next (lone (b.atR a k) cs w) :=
  step_lone_go (by simp [stepG, stepG.exec, Frame.atR])

theorem wpIn_scope {F : Fence} {c : Code} {Q : Exit → Act → World → Prop} (h : c.wpIn F 0 P (Exit.noGoto Q) a w) : (Code.scope c).wpIn F 0 P Q a w := by
  intro b k cs hro hb hr
  have h0 : (lone (b.atR a (.code (.scope c) :: k)) cs w).fenced P F := fenced_calm hb hr rfl
  obtain ⟨e, a₁, w₁, hq, harr⟩ := h b (.inScope c :: k) cs hro hb hr
  cases e with
  | normal => exact ⟨.normal, a₁, w₁, hq, .head h0 stepR_scope (StepsIn.trans harr (.one (fenced_calm hb hr rfl) stepR_inScope))⟩
  | exit id =>
    have hx : exitTo id (.inScope c :: k) = exitTo id k := by simp [exitTo]
    exact ⟨.exit id, a₁, w₁, hq, fun k' hk => .head h0 stepR_scope (harr.1 k' (by rw [hx]; exact hk)),
      fun hr' hk => let ⟨k₁, h1, h2⟩ := harr.2 hr' (by rw [hx]; exact hk); ⟨k₁, h1, .head h0 stepR_scope h2⟩⟩
  | goto l => exact hq.elim
  | ret => exact ⟨.ret, a₁, w₁, hq, .of_steps (.one h0 stepR_scope) harr⟩
  | panic ch => exact ⟨.panic ch, a₁, w₁, hq, .of_steps (.one h0 stepR_scope) harr⟩
  | outgrown => exact ⟨.outgrown, a₁, w₁, hq, .of_steps (.one h0 stepR_scope) harr⟩

/-! ### What is shown of commands -/
/-- How a piece of code ends. -/
def Post (G : Glob) (B : Nat) (φ : PM) (n : Nat) (w : World) (e : AX) (fr : Fr) (st : St) : Exit → Act → World → Prop :=
  fun x a' w' => x = ofAX e ∧ ∃ φ', PM.ext n φ φ' ∧ AR φ' fr a' ∧ HR G B φ' st w' ∧ Below B w w'
/-- How a call ends. -/
def RetP (G : Glob) (B : Nat) (φ : PM) (n : Nat) (w : World) (v : AV) (st : St) (y : Value) (w' : World) : Prop :=
  ∃ φ', PM.ext n φ φ' ∧ VR φ' v y ∧ HR G B φ' st w' ∧ Below B w w'
def EndP (R : Value → World → Prop) : Ending → World → Prop := fun e w' => ∃ y, e = .returned y ∧ R y w'

theorem Post.mono {φ φ' : PM} {n n' : Nat} {w w' : World} {e : AX} {fr : Fr} {st : St} {x : Exit} {a' : Act} {w'' : World} (h : Post G B φ' n' w' e fr st x a' w'')
    (h1 : PM.ext n φ φ') (hn : n ≤ n') (hb : Below B w w') : Post G B φ n w e fr st x a' w'' := by
  obtain ⟨hx, ψ, a1, a2, a3, a4⟩ := h
  exact ⟨hx, ψ, PM.ext_trans h1 a1 hn, a2, a3, hb.trans a4⟩
theorem RetP.mono {φ φ' : PM} {n n' : Nat} {w w' w'' : World} {v : AV} {st : St} {y : Value} (h : RetP G B φ' n' w' v st y w'')
    (h1 : PM.ext n φ φ') (hn : n ≤ n') (hb : Below B w w') : RetP G B φ n w v st y w'' := by
  obtain ⟨ψ, a1, a2, a3, a4⟩ := h
  exact ⟨ψ, PM.ext_trans h1 a1 hn, a2, a3, hb.trans a4⟩

/-- A call, as an operation makes it. -/
def CallOK (P : Program) (g : FuncId) (vs : Array Value) (w : World) (R : Value → World → Prop) : Prop :=
  (∃ y w', (callFunc g vs).run P w = .ok (.value y) w' ∧ R y w') ∨ ((callFunc g vs).run P w = .ok (.enter g vs) w ∧ CallsIn Fence.wide 0 P g vs w (EndP R))

/-- What is asked of the known calls. -/
def Env.SOK (E : Env) : Prop := ∀ g args st v st', E.S g args st = some (v, st') → st.nxt ≤ st'.nxt ∧
  ∀ B φ w (vs : Array Value), HR E.G B φ st w → VRs φ args vs.toList → CallOK E.P g vs w (RetP E.G B φ st.nxt w v st')

/-- What is asked of the program. -/
structure POK (P : Program) : Prop where
  mixed : P.follows .mixedOrders = true
  noNum : ∀ (g : Nat) (fn : Func) (c : Code), P.funcs[g]? = some fn → fn.body = some c → (fn.name == "runtime.NumGoroutine") = false

theorem run_callFunc_enter (hP : POK P) {g : FuncId} {fn : Func} {c : Code} (hf : P.funcs[g]? = some fn) (hb : fn.body = some c) (vs : Array Value) :
    (callFunc g vs).run P w = .ok (.enter g vs) w := by
  have : fn.name ≠ "runtime.NumGoroutine" := by simpa using hP.noNum g fn c hf hb
  unfold callFunc
  simp [Sem.run_bind, hf, this, hb]

end
end Go.Ax

/-
  AxS19: the executor is sound, but for regions that draw their order.
-/
namespace Go.Ax
open Go Go.RowKit

theorem kindOf_defer {P : Program} {op : Op} (h : kindOf P op = 0 ∨ kindOf P op = 1) : ∀ c, op ≠ .defer c := by
  rintro c rfl
  simp [kindOf] at h
theorem loud_defer' {P : Program} {st : St} {ev : Operand → Option AV} {op : Op} (h : ∀ d, loud P ev st op ≠ .defer d) (h' : loud P ev st op ≠ .bad) : ∀ c, op ≠ .defer c := by
  rintro c rfl
  rcases loud_form (P := P) (ev := ev) (st := st) (.defer c) with hp | ⟨f, args, ts, hc⟩ | ⟨f, args, ts, hc⟩
  · obtain ⟨callee, args, argTypes⟩ := c
    cases callee with
    | value f =>
      simp only [loud] at h h' hp
      split at hp
      · cases hp
      · rename_i h1
        apply h'
        split
        · rename_i h2 h3
          exact (h1 _ _ _ _ h2 h3).elim
        · rfl
    | builtin b => simp [loud] at h'
    | invoke r n => simp [loud] at h'
  · cases hc
  · cases hc
    simp only [loud] at h h'
    split at h'
    · rename_i h2 h3
      rw [h2, h3] at h
      exact h _ rfl
    · exact h' rfl

section
variable (E : Env)

def CallAt (f : Nat) : Prop := ∀ g args fr st v st', X E f (.call g args) fr st = .ret v st' →
  ∀ B φ w (vs : Array Value), HR E.G B φ st w → VRs φ args vs.toList → CallOK E.P g vs w (RetP E.G B φ st.nxt w v st')
def RegAt (f : Nat) : Prop := ∀ id (ops : Array Oper) its fr st e fr' st', mkIts E 0 [] ops.toList = some its → textOk ops.toList its = true →
  X E f (.draw ops.toList (orderOf its (loudsOf its) 0 (loudsOf its)) [] 0 0) fr st = .ok e fr' st' →
  ∀ r B φ a w, HR E.G B φ st w → AR φ fr a → (Code.region id ops true).wpIn (FR r) 0 E.P (Post E.G B φ st.nxt w e fr' st') a w
def CodeAt (f : Nat) : Prop := ∀ c fr st e fr' st', X E f (.code c) fr st = .ok e fr' st' →
  ∀ r B φ a w, (r.isSome = true → fr.rd = true) → HR E.G B φ st w → AR φ fr a → CW (FR r) E.P c (Post E.G B φ st.nxt w e fr' st') a w
def OpsAt (f : Nat) : Prop := ∀ (ops : Array Oper) rest i fr st e fr' st', X E f (.ops ops.toList rest) fr st = .ok e fr' st' → rest = ops.toList.drop i → i ≤ ops.size →
  ∀ r B φ a w, (r.isSome = true → fr.rd = true) → HR E.G B φ st w → AR φ fr a →
    wpOpsIn (FR r) 0 E.P ops (Post E.G B φ st.nxt w e fr' st') (List.range' i (ops.size - i)) a w
def EnterAt (f : Nat) : Prop := ∀ plain g args fr st v st', X E f (.enter plain g args) fr st = .ret v st' →
  ∀ B φ w (vs : Array Value), HR E.G B φ st w → VRs φ args vs.toList →
    (callFunc g vs).run E.P w = .ok (.enter g vs) w ∧ CallsIn Fence.wide 0 E.P g vs w (EndP (RetP E.G B φ st.nxt w v st')) ∧
      (plain = true → ∀ u, CallsDIn Fence.wide 0 E.P g vs u w fun e u' w' => u' = u ∧ EndP (RetP E.G B φ st.nxt w v st') e w')
def LeaveAt (f : Nat) : Prop := ∀ ds fr st e fr' st', X E f (.leave ds) fr st = .ok e fr' st' →
  ∀ B φ w ds', HR E.G B φ st w → ADRs φ ds ds' → ∀ (fn : Func) tmps R,
    (∀ φ' w', PM.ext st.nxt φ φ' → HR E.G B φ' st' w' → Below B w w' → ∃ v, (results fn tmps).run E.P w' = .ok v w' ∧ R (.returned v) w') →
    LeavesInM Fence.wide 0 E.P fn tmps R ds' .returning w
def YieldAt (f : Nat) : Prop := ∀ b args fr st v st', X E f (.yield b args) fr st = .ret v st' →
  ∀ B φ w p (vs : Array Value), HR E.G B φ st w → φ b = some p → VRs φ args vs.toList →
    ∃ fn tmps assign body, (Instr.yield p.blk vs).run E.P w = .ok (.round p.blk fn tmps assign body) w ∧
      RoundIn Fence.wide 0 E.P p.blk fn tmps assign body w (EndP (RetP E.G B φ st.nxt w v st'))

structure SoundAt (f : Nat) : Prop where
  code : CodeAt E f
  ops : OpsAt E f
  call : CallAt E f
  enter : EnterAt E f
  leave : LeaveAt E f
  yield : YieldAt E f
end

section
variable {E : Env} {G : Glob} {B : Nat} {φ : PM} {st : St} {w : World} {fr : Fr} {a : Act}

theorem then_of {next : Act → World → Prop} {Q : Exit → Act → World → Prop} {e : AX} {x : Exit} {a : Act} {w : World} (hx : x = ofAX e) (he : e ≠ .normal) (h : Q x a w) : Exit.then next Q x a w := by
  subst hx
  cases e with
  | normal => exact absurd rfl he
  | exit id => exact h
  | ret => exact h
theorem noGoto_of {Q : Exit → Act → World → Prop} {e : AX} {x : Exit} {a : Act} {w : World} (hx : x = ofAX e) (h : Q x a w) : Exit.noGoto Q x a w := by
  subst hx; cases e <;> exact h

theorem range'_cons {i n : Nat} (h : i < n) : List.range' i (n - i) = i :: List.range' (i + 1) (n - (i + 1)) := by
  rw [show n - i = (n - (i + 1)) + 1 by omega, List.range'_succ]

theorem initT_get : ∀ (l : List AV) (i : Nat) (t t' : Tr AV), initT i l t = some t' → ∀ k, t'.get k = if i ≤ k ∧ k < i + l.length then l[k - i]? else t.get k
  | [], i, t, t', h, k => by simp only [initT, Option.some.injEq] at h; subst h; rw [if_neg (by simp)]
  | x :: l, i, t, t', h, k => by
    simp only [initT] at h
    split at h
    · cases h
    · rename_i a b c hs
      rw [initT_get l (i + 1) _ t' h k]
      simp only [List.length_cons]
      by_cases h1 : i + 1 ≤ k ∧ k < i + 1 + l.length
      · rw [if_pos h1, if_pos (by omega), show k - i = (k - (i + 1)) + 1 by omega]; simp
      · rw [if_neg h1, ← hs, Tr.get_set]
        by_cases h2 : k = i
        · subst h2; rw [if_pos rfl, if_pos (by omega)]; simp
        · rw [if_neg h2, if_neg (by omega)]

theorem init_AR {n : Nat} {args : List AV} {fr : Fr} {vs : Array Value} (h : Fr.init n args = some fr) (hv : VRs φ args vs.toList) :
    AR φ fr { tmps := vs ++ Array.replicate (n - vs.size) undef, defers := [] } ∧ fr.rd = false := by
  unfold Fr.init at h
  rw [cond_eq_ite] at h
  split at h
  · rename_i hn
    rw [Nat.ble_eq, len_eq] at hn
    split at h
    · rename_i t ht
      cases h
      have hl := hv.length
      simp only [Array.length_toList] at hl
      refine ⟨⟨⟨by simp; omega, fun k v hk => ?_⟩, rfl⟩, rfl⟩
      simp only at hk
      rw [initT_get args 0 .e t ht k] at hk
      split at hk
      · rename_i hr
        obtain ⟨y, h1, h2⟩ := hv.get hk
        refine ⟨y, ?_, h2⟩
        simp only
        rw [Array.getElem?_append_left (by omega)]
        simpa using h1
      · simp [Tr.get] at hk
    · cases h
  · cases h

theorem putAll_TR : ∀ (ps : List Tmp) (args : List AV) (vs : List Value) (fr fr' : Fr) (tmps : Array Value), putAll fr ps args = some fr' → TR φ fr tmps → VRs φ args vs →
    ps.length = vs.length ∧ TR φ fr' ((ps.zip vs).foldl (fun tmps (t, x) => tmps.setIfInBounds t x) tmps) ∧ fr'.rd = fr.rd ∧ fr'.ds = fr.ds
  | [], [], vs, fr, fr', tmps, h, ht, hv => by
    simp only [VRs] at hv; subst hv
    simp only [putAll, Option.some.injEq] at h; subst h
    exact ⟨rfl, ht, rfl, rfl⟩
  | t :: ts, a :: l, vs, fr, fr', tmps, h, ht, hv => by
    simp only [VRs] at hv; obtain ⟨y, m, rfl, h1, h2⟩ := hv
    simp only [putAll] at h
    split at h
    · rename_i fr1 hp
      have := TR.put hp ht h1
      obtain ⟨a1, a2, a3, a4⟩ := putAll_TR ts l m fr1 fr' _ h this h2
      obtain ⟨b1, b2⟩ := Fr.put_rd hp
      exact ⟨by simp [a1], by simpa using a2, by rw [a3, b1], by rw [a4, b2]⟩
    · cases h
  | [], _ :: _, _, _, _, _, h, _, _ => by simp [putAll] at h
  | _ :: _, [], _, _, _, _, h, _, _ => by simp [putAll] at h

/-- An operation whose run is known. -/
theorem wpOp_value {r : Option Nat} {P : Program} {o : Oper} {Q : Exit → Act → World → Prop} {next : Act → World → Prop} {y : Value} {w' : World}
    (hs : o.semAt r a.eval = execOp a.eval o) (h : (execOp a.eval o).run P w = .ok (.value y) w' ∨ ((execOp a.eval o).run P w = .ok .skip w' ∧ y = undef)) (hn : next (a.put o.dst y) w') :
    o.wpIn (FR r) 0 P a w next Q := by
  refine ⟨fun f _ => FR_fn r f, ?_⟩
  show o.uponIn (FR r) 0 P a next Q ((o.semAt r a.eval).run P w)
  rw [hs]
  rcases h with h | ⟨h, rfl⟩
  · rw [h]; exact hn
  · rw [h]; exact hn

theorem wpOp_call {r : Option Nat} {P : Program} {o : Oper} {Q : Exit → Act → World → Prop} {next : Act → World → Prop} {g : FuncId} {vs : Array Value} {R : Value → World → Prop}
    (hs : o.semAt r a.eval = execOp a.eval o) (h : (execOp a.eval o).run P w = (callFunc g vs).run P w) (hc : CallOK P g vs w R) (hn : ∀ y w', R y w' → next (a.put o.dst y) w') :
    o.wpIn (FR r) 0 P a w next Q := by
  refine ⟨fun f _ => FR_fn r f, ?_⟩
  show o.uponIn (FR r) 0 P a next Q ((o.semAt r a.eval).run P w)
  rw [hs, h]
  rcases hc with ⟨y, w', h1, h2⟩ | ⟨h1, h2⟩
  · rw [h1]; exact hn _ _ h2
  · rw [h1]
    refine ⟨FR_depth r, ?_⟩
    refine CallsIn.mono (F := FR r) (n := 0) h2 fun e w' he => ?_
    obtain ⟨y, rfl, hR⟩ := he
    exact hn _ _ hR

theorem wpOp_round {r : Option Nat} {P : Program} {o : Oper} {Q : Exit → Act → World → Prop} {next : Act → World → Prop} {l : Nat} {fn : FuncId} {tmps : Array Value} {assign body : Code} {R : Value → World → Prop}
    (hs : o.semAt r a.eval = execOp a.eval o) (h : (execOp a.eval o).run P w = .ok (.round l fn tmps assign body) w) (hc : RoundIn Fence.wide 0 P l fn tmps assign body w (EndP R)) (hn : ∀ y w', R y w' → next (a.put o.dst y) w') :
    o.wpIn (FR r) 0 P a w next Q := by
  refine ⟨fun f _ => FR_fn r f, ?_⟩
  show o.uponIn (FR r) 0 P a next Q ((o.semAt r a.eval).run P w)
  rw [hs, h]
  refine ⟨FR_depth r, ?_⟩
  refine RoundIn.mono (F := FR r) (n := 0) hc fun e w' he => ?_
  obtain ⟨y, rfl, hR⟩ := he
  exact hn _ _ hR

/-- Two more blocks, or one, mapped: for a new object. -/
theorem HR.newBlock (h : HR G B φ st w) (ob : AO) (o : Obj) (hob : ∀ φ', PM.le φ φ' → ObR φ' ob ⟨w.heap.size, 0, 0⟩ (w.alloc o)) :
    HR G B (φ.put st.nxt ⟨w.heap.size, 0, 0⟩) (fresh st ob) (w.alloc o) :=
  h.new ob ⟨w.heap.size, 0, 0⟩ rfl (by simp) (fun k hk => Below.heap_alloc _ _ _ (by simpa using hk)) (hob _ (PM.put_le _ (h.fresh_none (Nat.le_refl _))))

theorem HR.flt (h : HR G B φ st w) {P : Program} {s : Sem Next} {ob : AO} {k : FK} (hm : Makes P φ w s ob k) :
    ∃ y w' φ', s.run P w = .ok (.value y) w' ∧ PM.ext st.nxt φ φ' ∧ VR φ' (k.at st.nxt) y ∧ HR G B φ' (fresh st ob) w' ∧ Below B w w' := by
  obtain ⟨y, w', sz, h1, h2, h3, h4⟩ := hm
  have hfr := h.fresh_none (Nat.le_refl st.nxt)
  obtain ⟨g1, g2⟩ := h4 (φ.put st.nxt ⟨w.heap.size, 0, sz⟩) st.nxt (PM.put_le _ hfr) (PM.put_same _ _ _)
  refine ⟨y, w', _, h1, PM.put_ext _ hfr, g2, h.new ob _ rfl h3 (fun k hk => h2.block k hk) g1, h2.mono h.base⟩

end
end Go.Ax

/-
  AxS20: the executor is sound, if it is for regions that draw their order.
-/
namespace Go.Ax
open Go Go.RowKit

section
variable {E : Env}

theorem wpOpsIn_weaken {F : Fence} {n : Nat} {P : Program} {ops : Array Oper} {Q Q' : Exit → Act → World → Prop} (hq : ∀ x a w, Q x a w → Q' x a w) :
    ∀ (l : List Nat) (a : Act) (w : World), wpOpsIn F n P ops Q l a w → wpOpsIn F n P ops Q' l a w
  | [], a, w, h => hq _ _ _ h
  | i :: rest, a, w, h => by
    have ih := wpOpsIn_weaken (F := F) (n := n) (P := P) (ops := ops) hq rest
    simp only [wpOpsIn] at h ⊢
    split
    · rename_i ho
      rw [ho] at h
      exact ih _ _ h
    · rename_i o ho
      rw [ho] at h
      simp only at h
      split
      · rename_i hw
        rw [if_pos hw] at h
        refine ⟨h.1, ?_⟩
        have h := h.2
        generalize (o.semAt F.round a.eval).run P w = r at *
        cases r with
        | ok x w' =>
          cases x <;> simp only [Oper.uponIn] at h ⊢ <;>
            first
              | exact ih _ _ h
              | exact ⟨h.1, CallsIn.mono h.2 (fun e w'' he => by cases e <;> first | exact ih _ _ he | exact hq _ _ _ he | exact (let ⟨a, w, hh⟩ := he; ⟨a, w, hq _ _ _ hh⟩))⟩
              | exact ⟨h.1, RowsIn.mono h.2 (fun _ _ he => ih _ _ he)⟩
              | exact ⟨h.1, RoundIn.mono h.2 (fun e w'' he => by cases e <;> first | exact ih _ _ he | exact hq _ _ _ he | exact (let ⟨a, w, hh⟩ := he; ⟨a, w, hq _ _ _ hh⟩))⟩
        | halt x w' => cases x <;> simp only [Oper.uponIn] at h ⊢ <;> exact hq _ _ _ h
      · rename_i hw
        rw [if_neg hw] at h
        exact ⟨h.1, ih _ _ h.2⟩

theorem Env.SOK.ge (h : E.SOK) : E.SGe := fun g args st v st' e => (h g args st v st' e).1

theorem X_ok_ge (hS : E.SOK) {f : Nat} {cmd : Cmd} {fr : Fr} {st : St} {e : AX} {fr' : Fr} {st' : St} (h : X E f cmd fr st = .ok e fr' st') : st.nxt ≤ st'.nxt ∧ fr'.rd = fr.rd := by
  have := X_ge hS.ge f cmd fr st
  rw [h] at this; exact this
theorem X_ret_ge (hS : E.SOK) {f : Nat} {cmd : Cmd} {fr : Fr} {st : St} {v : AV} {st' : St} (h : X E f cmd fr st = .ret v st') : st.nxt ≤ st'.nxt := by
  have := X_ge hS.ge f cmd fr st
  rw [h] at this; exact this

theorem call_sound (hS : E.SOK) {f : Nat} (ih : EnterAt E f) : CallAt E (f + 1) := by
  intro g args fr st v st' h B φ w vs hr hv
  simp only [X] at h
  split at h
  · rename_i v1 st1 hs
    cases h
    exact (hS g args st _ _ hs).2 B φ w vs hr hv
  · obtain ⟨h1, h2, _⟩ := ih _ _ _ _ _ _ _ h B φ w vs hr hv
    exact .inr ⟨h1, h2⟩

theorem enter_sound (hS : E.SOK) (hP : POK E.P) {f : Nat} (ihc : CodeAt E f) (ihl : LeaveAt E f) : EnterAt E (f + 1) := by
  intro plain g args fr st v st' h B φ w vs hr hv
  simp only [X] at h
  split at h
  · rename_i fn hf
    split at h
    · rename_i c hb
      split at h
      · rename_i fr0 hi
        obtain ⟨hA, hrd⟩ := init_AR hi hv
        refine ⟨run_callFunc_enter hP hf hb vs, ?_⟩
        split at h
        · cases h
        · rename_i e fr1 st1 hne hx
          have hcw := (ihc _ _ _ _ _ _ hx none B φ _ w (fun e => by cases e) hr hA).wpIn
          have hge := X_ok_ge hS hx
          split at h
          · rename_i hds
            split at h
            · rename_i v1 hres
              cases h
              have key : ∀ x a' w', Post E.G B φ st.nxt w e fr1 st' x a' w' → bodyPost E.P fn (EndP (RetP E.G B φ st.nxt w v st')) x a' w' := by
                intro x a' w' hp
                obtain ⟨hx, φ', a1, a2, a3, a4⟩ := hp
                obtain ⟨y, hy, hvy⟩ := resultsX_sound hres a3 a2.1
                have hd : a'.defers = [] := by have := a2.2; rw [hds] at this; exact this
                have hfin : a'.defers = [] ∧ ∃ y, (results fn a'.tmps).run E.P w' = .ok y w' ∧ EndP (RetP E.G B φ st.nxt w v st') (.returned y) w' :=
                  ⟨hd, y, hy, y, rfl, φ', a1, hvy, a3, a4⟩
                subst hx
                cases e with
                | normal => exact hfin
                | ret => exact hfin
                | exit id => first | exact (hne _ _ _ rfl).elim | exact (hne _ _).elim | (exfalso; revert hne; simp)
              have hw := wpIn_mono hcw key
              exact ⟨callsIn_of_wp (F := Fence.wide) hf hb trivial hw, fun _ u => callsDIn_of_wp (F := Fence.wide) hf hb trivial hw⟩
            · cases h
          · rename_i d ds hds
            rw [cond_eq_ite] at h
            split at h
            · cases h
            · rename_i hpl
              split at h
              · rename_i e2 fr2 st2 hl
                split at h
                · rename_i v1 hres
                  cases h
                  have hge2 := X_ok_ge hS hl
                  refine ⟨callsIn_of_wp_marks (F := Fence.wide) hf hb trivial (wpIn_mono hcw ?_), fun hp => absurd hp hpl⟩
                  intro x a' w' hp
                  obtain ⟨hx, φ', a1, a2, a3, a4⟩ := hp
                  have hlv : LeavesInM Fence.wide 0 E.P fn a'.tmps (EndP (RetP E.G B φ st.nxt w v st')) a'.defers .returning w' := by
                    refine ihl _ _ _ _ _ _ hl B φ' w' a'.defers a3 (by rw [← hds]; exact a2.2) fn a'.tmps _ fun φ'' w'' b1 b2 b3 => ?_
                    obtain ⟨y, hy, hvy⟩ := resultsX_sound hres b2 (a2.1.mono b1.1)
                    exact ⟨y, hy, y, rfl, φ'', PM.ext_trans a1 b1 hge.1, hvy, b2, a4.trans b3⟩
                  subst hx
                  cases e with
                  | normal => exact hlv
                  | ret => exact hlv
                  | exit id => first | exact (hne _ _ _ rfl).elim | exact (hne _ _).elim | (exfalso; revert hne; simp)
                · cases h
              · cases h
        · cases h
      · cases h
    · cases h
  · cases h

theorem leave_sound (hS : E.SOK) {f : Nat} (ihe : EnterAt E f) (ihl : LeaveAt E f) : LeaveAt E (f + 1) := by
  intro ds fr st e fr' st' h B φ w ds' hr hd fn tmps R hfin
  simp only [X] at h
  split at h
  · cases h
    simp only [ADRs] at hd; subst hd
    obtain ⟨v, h1, h2⟩ := hfin φ w (PM.ext_refl _ _) hr (Below.refl _ _)
    exact ⟨v, h1, h2⟩
  · rename_i b ds
    obtain ⟨d, m, rfl, h1, h2⟩ := hd
    obtain ⟨p, hp, rfl⟩ := h1
    split at h
    · rename_i hg
      split at h
      · rename_i hst
        have := strict_st hst
        subst this
        obtain ⟨h0, hh⟩ := hr.objs _ _ _ hg hp
        obtain ⟨hd1, hd2, hd3⟩ := hr.dom _ _ hp
        have htake := run_takeDeferred (P := E.P) hh
        obtain ⟨e1, e2⟩ := putObj_heap w p.blk (.deferred none) hd3
        have hr1 : HR E.G B φ ⟨st.nxt, st.hp.set b .dead⟩ (w.putObj p.blk (.deferred none)) :=
          hr.upd (o := .defd) (o' := .dead) hg trivial hp (by simp [World.putObj]) e2 trivial
        have hb1 : Below B w (w.putObj p.blk (.deferred none)) := putObj_below B w p.blk _ hd2
        refine ⟨by simp, .inl ⟨p.blk, _, rfl, htake, ?_⟩⟩
        exact ihl _ _ _ _ _ _ h B φ _ m hr1 h2 fn tmps R fun φ' w' a1 a2 a3 => hfin φ' w' a1 a2 (hb1.trans a3)
      · cases h
    · cases h
  · rename_i g args ds
    obtain ⟨d, m, rfl, h1, h2⟩ := hd
    obtain ⟨as, cs, rfl, hv⟩ := h1
    split at h
    · rename_i v1 st1 he
      have hge := X_ret_ge hS he
      obtain ⟨b1, b2, b3⟩ := ihe _ _ _ _ _ _ _ he B φ w (as ++ cs) hr hv
      refine ⟨by simp, .inr ⟨FR_depth none, .func g, cs, g, as ++ cs, rfl, ?_, fun _ _ => trivial, ?_⟩⟩
      · simpa [invoke] using b1
      · refine CallsDIn.mono (b3 rfl .returning) fun e u' w' he => ?_
        obtain ⟨rfl, y, rfl, φ', a1, a2, a3, a4⟩ := he
        exact ihl _ _ _ _ _ _ h B φ' w' m a3 (h2.mono a1.1) fn tmps R fun φ'' w'' c1 c2 c3 => hfin φ'' w'' (PM.ext_trans a1 c1 hge) c2 (a4.trans c3)
    · cases h

theorem ops_sound (hS : E.SOK) {f : Nat} (ih : OpsAt E f) (ihc : CallAt E f) (ihy : YieldAt E f) : OpsAt E (f + 1) := by
  intro ops rest i fr st e fr' st' h hrest hi r B φ a w hrd hr hA
  simp only [X] at h
  split at h
  · cases h
    have : ops.size - i = 0 := by
      have := congrArg List.length hrest
      simp only [List.length_nil, List.length_drop, Array.length_toList] at this
      omega
    rw [this]
    exact ⟨rfl, φ, PM.ext_refl _ _, hA, hr, Below.refl _ _⟩
  · rename_i o rest
    have hlt : i < ops.size := by
      have := congrArg List.length hrest
      simp only [List.length_cons, List.length_drop, Array.length_toList] at this
      omega
    have hget : ops[i]? = some o := by
      have : ops.toList[i]? = some o := by
        rw [← List.head?_drop, ← hrest]; rfl
      simpa using this
    have hrest' : rest = ops.toList.drop (i + 1) := by
      rw [← List.tail_drop, ← hrest]; rfl
    rw [range'_cons hlt]
    simp only [wpOpsIn, hget]
    -- on with the rest
    have next : ∀ (v : AV) (st1 : St) (fr1 : Fr) (φ1 : PM) (w1 : World) (y : Value) (dd : List AD) (defers : List Deferred), fr.put o.dst v = some fr1 → X E f (.ops ops.toList rest) ⟨fr1.n, fr1.t, fr1.rd, dd⟩ st1 = .ok e fr' st' →
        st.nxt ≤ st1.nxt → PM.ext st.nxt φ φ1 → VR φ1 v y → HR E.G B φ1 st1 w1 → Below B w w1 → ADRs φ1 dd defers →
        wpOpsIn (FR r) 0 E.P ops (Post E.G B φ st.nxt w e fr' st') (List.range' (i + 1) (ops.size - (i + 1))) ({ a with defers := defers }.put o.dst y) w1 := by
      intro v st1 fr1 φ1 w1 y dd defers hp hx hn hext hv hr1 hb hdd
      have hA0 : AR φ1 ⟨fr.n, fr.t, fr.rd, dd⟩ { a with defers := defers } := ⟨(hA.mono hext.1).1, hdd⟩
      have hp0 : Fr.put ⟨fr.n, fr.t, fr.rd, dd⟩ o.dst v = some ⟨fr1.n, fr1.t, fr1.rd, dd⟩ := by
        unfold Fr.put at hp ⊢
        split at hp
        · cases hp; rfl
        · rename_i d
          rw [cond_eq_ite] at hp ⊢
          split at hp
          · rename_i hd
            simp only [hd, if_true]
            split at hp
            · cases hp
            · cases hp
              rfl
          · cases hp
      have hA1 := AR.put hp0 hA0 hv
      have := ih ops rest (i + 1) _ st1 e fr' st' hx hrest' hlt r B φ1 _ w1 (fun hh => by simp only; rw [(Fr.put_rd hp).1]; exact hrd hh) hr1 hA1
      exact wpOpsIn_weaken (fun x a' w' hq => hq.mono hext hn hb) _ _ _ this
    have fr_eta : ∀ (x : Fr), x = ⟨x.n, x.t, x.rd, x.ds⟩ := fun x => rfl
    split at h
    · rename_i hw
      rw [AR.wanted hA hw]
      simp only [Bool.false_eq_true, if_false]
      refine ⟨fun f _ => FR_fn r f, ?_⟩
      split at h
      · rename_i fr1 hp
        exact next U st fr1 φ w undef fr1.ds a.defers hp h (Nat.le_refl _) (PM.ext_refl _ _) (by simp [U, VR]) hr (Below.refl _ _) (by rw [(Fr.put_rd hp).2]; exact hA.2)
      · cases h
    · rename_i hw
      rw [AR.wanted hA hw]
      simp only [if_true]
      have he : ∀ x ∈ o.op.operands.toList, ∀ u, ev fr x = some u → VR φ u (a.eval x) := fun x _ u hu => hA.ev hu
      split at h
      · rename_i hk
        have hs : o.semAt r a.eval = execOp a.eval o := Oper.semAt_eq r _ o (kindOf_defer (.inl hk))
        split at h
        · rename_i v hv
          split at h
          · rename_i fr1 hp
            obtain ⟨y, h1, h2⟩ := sil_sound o hv hr he
            refine wpOp_value hs (.inl h1) ?_
            exact next v st fr1 φ w y fr1.ds a.defers hp h (Nat.le_refl _) (PM.ext_refl _ _) h2 hr (Below.refl _ _) (by rw [(Fr.put_rd hp).2]; exact hA.2)
          · cases h
        · cases h
      · rename_i hk
        have hs : o.semAt r a.eval = execOp a.eval o := Oper.semAt_eq r _ o (kindOf_defer (.inr hk))
        split at h
        · rename_i ob k hf
          split at h
          · rename_i st1 hst
            have := strict_st hst
            subst this
            split at h
            · rename_i fr1 hp
              obtain ⟨y, w', φ', h1, h2, h3, h4, h5⟩ := hr.flt (flt_sound (w := w) o hf he)
              refine wpOp_value hs (.inl h1) ?_
              exact next _ _ fr1 φ' w' y fr1.ds a.defers hp h (by simp [fresh]) h2 h3 h4 h5 (by rw [(Fr.put_rd hp).2]; exact hA.2.mono h2.1)
            · cases h
          · cases h
        · cases h
      · rename_i hk0 hk1
        split at h
        · rename_i v st1 hl
          have hs : o.semAt r a.eval = execOp a.eval o := Oper.semAt_eq r _ o (loud_defer' (P := E.P) (st := st) (ev := ev fr) (by rw [hl]; simp) (by rw [hl]; simp))
          split at h
          · rename_i fr1 hp
            obtain ⟨y, w', φ', h1, h2, h3, h4, h5⟩ := loud_sound o hl hr he
            refine wpOp_value hs h1 ?_
            exact next v st1 fr1 φ' w' y fr1.ds a.defers hp h (loud_nxt hl) h2 h3 h4 h5 (by rw [(Fr.put_rd hp).2]; exact hA.2.mono h2.1)
          · cases h
        · rename_i g args hl
          have hs : o.semAt r a.eval = execOp a.eval o := Oper.semAt_eq r _ o (loud_defer' (P := E.P) (st := st) (ev := ev fr) (by rw [hl]; simp) (by rw [hl]; simp))
          split at h
          · rename_i v st1 hx
            split at h
            · rename_i fr1 hp
              obtain ⟨vs, hv, hrun⟩ := loud_call (w := w) o hl he
              refine wpOp_call hs hrun (ihc _ _ _ _ _ _ hx B φ w vs hr hv) ?_
              rintro y w' ⟨φ', h2, h3, h4, h5⟩
              exact next v st1 fr1 φ' w' y fr1.ds a.defers hp h (X_ret_ge hS hx) h2 h3 h4 h5 (by rw [(Fr.put_rd hp).2]; exact hA.2.mono h2.1)
            · cases h
          · cases h
        · rename_i b args hl
          have hs : o.semAt r a.eval = execOp a.eval o := Oper.semAt_eq r _ o (loud_defer' (P := E.P) (st := st) (ev := ev fr) (by rw [hl]; simp) (by rw [hl]; simp))
          split at h
          · rename_i v st1 hx
            split at h
            · rename_i fr1 hp
              obtain ⟨p, vs, hpp, hv, hrun⟩ := loud_yield (w := w) o hl he
              obtain ⟨fn, tmps, assign, body, hy, hround⟩ := ihy _ _ _ _ _ _ hx B φ w p vs hr hpp hv
              refine wpOp_round hs (hrun.trans hy) hround ?_
              rintro y w' ⟨φ', h2, h3, h4, h5⟩
              exact next v st1 fr1 φ' w' y fr1.ds a.defers hp h (X_ret_ge hS hx) h2 h3 h4 h5 (by rw [(Fr.put_rd hp).2]; exact hA.2.mono h2.1)
            · cases h
          · cases h
        · rename_i d hl
          rw [cond_eq_ite] at h
          split at h
          · cases h
          · rename_i hrd0
            split at h
            · rename_i fr1 hp
              have hr0 : r = none := by
                cases r with
                | none => rfl
                | some l => exact absurd (hrd rfl) hrd0
              subst hr0
              obtain ⟨d', h1, h2⟩ := loud_defer (w := w) (P := E.P) o hl he
              refine ⟨fun f _ => FR_fn none f, ?_⟩
              show o.uponIn (FR none) 0 E.P a _ _ ((o.semAt none a.eval).run E.P w)
              rw [Oper.semAt_none, h2]
              exact next U st fr1 φ w undef (d :: fr1.ds) (d' :: a.defers) hp h (Nat.le_refl _) (PM.ext_refl _ _) (by simp [U, VR]) hr (Below.refl _ _) ⟨d', a.defers, rfl, h1, by rw [(Fr.put_rd hp).2]; exact hA.2⟩
            · cases h
        · cases h
    · cases h

end
end Go.Ax

/-
  AxS21: rounds of a range over a function; code; all commands but regions that draw their order.
-/
namespace Go.Ax
open Go Go.RowKit

section
variable {E : Env}

theorem yield_sound (hS : E.SOK) {f : Nat} (ihc : CodeAt E f) : YieldAt E (f + 1) := by
  intro b args fr st v st' h B φ w p vs hr hp hv
  simp only [X] at h
  split at h
  · rename_i fr0 ps assign body hg
    obtain ⟨h0, fn, tmps, defers, hh, hT⟩ := hr.objs _ _ _ hg hp
    split at h
    · rename_i fr1 hput
      obtain ⟨g1, g2, g3, g4⟩ := putAll_TR ps args vs.toList ⟨fr0.n, fr0.t, true, []⟩ fr1 tmps hput hT hv
      have hfold : ((ps.toArray.zip vs).foldl (fun tmps (t, a) => tmps.setIfInBounds t a) tmps) = ((ps.zip vs.toList).foldl (fun tmps (t, x) => tmps.setIfInBounds t x) tmps) := by
        rw [← Array.foldl_toList, Array.toList_zip]
      refine ⟨fn, _, assign, body, run_yield hh (by simpa using g1.symm), ?_⟩
      split at h
      · rename_i fr2 st2 hx1
        have hge1 := X_ok_ge hS hx1
        have hA : AR φ fr1 { tmps := ((ps.toArray.zip vs).foldl (fun tmps (t, a) => tmps.setIfInBounds t a) tmps), defers := [] } := ⟨by rw [hfold]; exact g2, by rw [g4]; rfl⟩
        refine roundIn_of_wpIn (F := Fence.wide) trivial ?_
        have hw1 := (ihc _ _ _ _ _ _ hx1 (some p.blk) B φ _ w (fun _ => by rw [g3]) hr hA).wpIn
        refine wpIn_mono hw1 ?_
        rintro x a1 w1 ⟨hx, φ1, b1, b2, b3, b4⟩
        subst hx
        split at h
        · rename_i fr3 ps3 assign3 body3 hg3
          split at h
          · rename_i st3 hst3
            have := strict_st hst3
            subst this
            have hp1 : φ1 b = some p := b1.1 _ _ hp
            obtain ⟨h30, fn3, tmps3, defers3, hh3, hT3⟩ := b3.objs _ _ _ hg3 hp1
            obtain ⟨d1, d2, d3⟩ := b3.dom _ _ hp1
            refine ⟨_, run_beginRound hh3 rfl, ?_⟩
            split at h
            · rename_i e fr4 st4 hx2
              have hge2 := X_ok_ge hS hx2
              have hr3 : HR E.G B φ1 ⟨st2.nxt, st2.hp.set b (.loop fr3 ps3 assign3 body3 true .normal)⟩ (w1.putObj p.blk (.loop { state := .busy, pending := none, fn := fn3, tmps := tmps3, params := ps3.toArray, assign := assign3, body := body3, defers := defers3 })) := by
                obtain ⟨e1, e2⟩ := putObj_heap w1 p.blk (.loop { state := .busy, pending := none, fn := fn3, tmps := tmps3, params := ps3.toArray, assign := assign3, body := body3, defers := defers3 }) d3
                exact b3.upd (o := .loop fr3 ps3 assign3 body3 false .normal) (o' := .loop fr3 ps3 assign3 body3 true .normal) hg3 trivial hp1 (by simp [World.putObj]) e2 ⟨h30, fn3, tmps3, defers3, e1, hT3⟩
              have hb3 : Below B w1 (w1.putObj p.blk (.loop { state := .busy, pending := none, fn := fn3, tmps := tmps3, params := ps3.toArray, assign := assign3, body := body3, defers := defers3 })) := putObj_below B w1 p.blk _ d2
              have hw2 := (ihc _ _ _ _ _ _ hx2 (some p.blk) B φ1 _ _ (fun _ => by rw [hge1.2, g3]) hr3 b2).wpIn
              refine wpIn_mono hw2 ?_
              rintro x a2 w2 ⟨hx, φ2, c1, c2, c3, c4⟩
              split at h
              · rename_i fr5 ps5 assign5 body5 hg5
                split at h
                · rename_i st5 hst5
                  have := strict_st hst5
                  subst this
                  cases h
                  have hp2 : φ2 b = some p := c1.1 _ _ hp1
                  obtain ⟨h50, fn5, tmps5, defers5, hh5, hT5⟩ := c3.objs _ _ _ hg5 hp2
                  obtain ⟨d1', d2', d3'⟩ := c3.dom _ _ hp2
                  have key : ∀ jump, jump = jumpOf e → ∃ v w', (Instr.endRound p.blk jump).run E.P w2 = .ok v w' ∧ EndP (RetP E.G B φ st.nxt w (mkBool (match e with | .normal => true | _ => false)) ⟨st4.nxt, st4.hp.set b (.loop fr5 ps5 assign5 body5 false e)⟩) (.returned v) w' := by
                    intro jump hj
                    refine ⟨_, _, run_endRound jump hh5, .bool jump.isNone, rfl, φ2, PM.ext_trans b1 c1 hge1.1, ?_, ?_, ?_⟩
                    · rw [mkBool_eq]
                      simp only [VR]
                      subst hj
                      cases e <;> rfl
                    · obtain ⟨e1, e2⟩ := putObj_heap w2 p.blk (.loop { state := if jump.isNone then .ready else .done, pending := jump, fn := fn5, tmps := tmps5, params := ps5.toArray, assign := assign5, body := body5, defers := defers5 }) d3'
                      exact c3.upd (o := .loop fr5 ps5 assign5 body5 true .normal) (o' := .loop fr5 ps5 assign5 body5 false e) hg5 trivial hp2 (by simp [World.putObj]) e2 ⟨h50, fn5, tmps5, defers5, by rw [← hj]; exact e1, hT5⟩
                    · exact ((b4.trans hb3).trans c4).trans (putObj_below B w2 p.blk _ d2')
                  subst hx
                  cases e with
                  | normal => exact key none rfl
                  | exit id => exact key (some (.exit id)) rfl
                  | ret => exact key (some .ret) rfl
                · cases h
              · cases h
            · cases h
          · cases h
        · cases h
      · cases h
    · cases h
  · cases h

theorem range_sound (hS : E.SOK) {f : Nat} (ihe : EnterAt E f) {g : Operand} {ps : Array Tmp} {assign body : Code} {fr : Fr} {st : St} {e : AX} {fr' : Fr} {st' : St}
    (h : X E (f + 1) (.code (.rangeFunc g ps assign body)) fr st = .ok e fr' st') {r : Option Nat} {B : Nat} {φ : PM} {a : Act} {w : World} (hrd : r.isSome = true → fr.rd = true)
    (hr : HR E.G B φ st w) (hA : AR φ fr a) : (Code.rangeFunc g ps assign body).wpIn (FR r) 0 E.P (Post E.G B φ st.nxt w e fr' st') a w := by
  simp only [X] at h
  rw [cond_eq_ite] at h
  split at h
  · cases h
  · rename_i hrd0
    have hr0 : r = none := by
      cases r with
      | none => rfl
      | some l => exact absurd (hrd rfl) hrd0
    subst hr0
    split at h
    · rename_i g' first cap hg
      split at h
      · cases h
      · rename_i j hj
        split at h
        · rename_i st1 hst1
          have := strict_st hst1
          subst this
          split at h
          · rename_i v st2 hx
            have hge := X_ret_ge hS hx
            split at h
            · rename_i fr3 ps3 assign3 body3 e3 hg3
              split at h
              · rename_i st3 hst3
                have := strict_st hst3
                subst this
                cases h
                have hv := hA.ev hg
                simp only [VR] at hv
                obtain ⟨is, cs, hv, v1, v2⟩ := hv
                have hfr := hr.fresh_none (Nat.le_refl st.nxt)
                -- the two blocks
                have hr1 := hr.newBlock .defd (.deferred (some [])) (fun φ' _ => ⟨rfl, alloc_new _ _⟩)
                refine wpIn_rangeFunc fun fn _ => ?_
                have hr2 := hr1.newBlock (.loop fr ps.toList assign body false .normal) (.loop { state := .ready, pending := none, fn := fn, tmps := a.tmps, params := ps, assign := assign, body := body, defers := w.heap.size })
                  (fun φ' hle => ⟨rfl, fn, a.tmps, w.heap.size, by rw [alloc_new]; rfl, (hA.1.mono (PM.le_trans (PM.put_le _ hfr) hle))⟩)
                have hext : PM.ext st.nxt φ ((φ.put st.nxt ⟨w.heap.size, 0, 0⟩).put (fresh st .defd).nxt ⟨(w.alloc (.deferred (some []))).heap.size, 0, 0⟩) :=
                  PM.ext_trans (PM.put_ext _ hfr) (PM.put_ext _ (hr1.fresh_none (Nat.le_refl _))) (by simp [fresh])
                generalize hφ2 : ((φ.put st.nxt ⟨w.heap.size, 0, 0⟩).put (fresh st .defd).nxt ⟨(w.alloc (.deferred (some []))).heap.size, 0, 0⟩) = φ2 at hr2 hext
                have hφa : φ2 st.nxt = some ⟨w.heap.size, 0, 0⟩ := by
                  rw [← hφ2]; unfold PM.put; simp [fresh]
                have hφb : φ2 (st.nxt + 1) = some ⟨w.heap.size + 1, 0, 0⟩ := by
                  rw [← hφ2]; unfold PM.put; simp [fresh]
                have hjj : Nat.succ (Nat.succ j) = st.nxt + 1 := by omega
                have hja : Nat.succ j = st.nxt := by omega
                have hvs : VRs φ2 (first ++ (.yld (Nat.succ (Nat.succ j)) :: cap)) (is ++ #[Value.func (.yield (w.heap.size + 1)) #[] #[]] ++ cs).toList := by
                  simp only [Array.toList_append, List.append_assoc, List.singleton_append]
                  refine (VRs.mono hext.1 _ _ v1).append (VRs.cons ?_ (VRs.mono hext.1 _ _ v2))
                  simp only [VR]
                  exact ⟨_, by rw [hjj]; exact hφb, rfl⟩
                obtain ⟨k1, k2, _⟩ := ihe _ _ _ _ _ _ _ hx B φ2 _ _ hr2 hvs
                refine ⟨w.heap.size + 1, [{ target := .collected w.heap.size, args := #[] }], (w.alloc (.deferred (some []))).alloc (.loop { state := .ready, pending := none, fn := fn, tmps := a.tmps, params := ps, assign := assign, body := body, defers := w.heap.size }), { target := .fn (.func g') cs, args := is ++ #[Value.func (.yield (w.heap.size + 1)) #[] #[]] },
                  (w.alloc (.deferred (some []))).alloc (.loop { state := .ready, pending := none, fn := fn, tmps := a.tmps, params := ps, assign := assign, body := body, defers := w.heap.size }), g', is ++ #[Value.func (.yield (w.heap.size + 1)) #[] #[]] ++ cs, (w.alloc (.deferred (some []))).alloc (.loop { state := .ready, pending := none, fn := fn, tmps := a.tmps, params := ps, assign := assign, body := body, defers := w.heap.size }),
                  run_enterLoop_outer fn a.tmps ps assign body, ?_, fun _ _ => trivial, ?_, FR_depth none, ?_⟩
                · show Sem.run E.P (Deferred.ofValue (a.eval g) (#[Operand.const (.func (.yield (w.heap.size + 1)) #[] #[])].map a.eval)) _ = _
                  rw [hv]; simp [Deferred.ofValue, Act.eval]
                · simpa [invoke] using k1
                · refine CallsIn.mono (F := FR none) (n := 0) k2 ?_
                  rintro x w3 ⟨y, rfl, φ3, a1, a2, a3, a4⟩
                  rw [hjj] at hg3
                  have hp3 : φ3 (st.nxt + 1) = some ⟨w.heap.size + 1, 0, 0⟩ := a1.1 _ _ hφb
                  have hp3a : φ3 st.nxt = some ⟨w.heap.size, 0, 0⟩ := a1.1 _ _ hφa
                  obtain ⟨h30, fn3, tmps3, defers3, hh3, hT3⟩ := a3.objs _ _ _ hg3 hp3
                  obtain ⟨d1, d2, d3⟩ := a3.dom _ _ hp3
                  have hend := run_endLoop (P := E.P) hh3 (by
                    simp only [Bool.false_eq_true, if_false]
                    split <;> simp)
                  refine ⟨jumpOf e, _, hend, ?_⟩
                  have hB0 : B ≤ w.heap.size := hr.base
                  have hfin : Post E.G B φ st.nxt w e ⟨fr.n, fr.t, fr.rd, .mark (Nat.succ j) :: fr.ds⟩ ⟨st2.nxt, st2.hp.set (Nat.succ (Nat.succ j)) .dead⟩ (ofAX e) { a with defers := [{ target := .collected w.heap.size, args := #[] }] ++ a.defers } (w3.putObj (w.heap.size + 1) (.loop { state := .exhausted, pending := jumpOf e, fn := fn3, tmps := tmps3, params := ps3.toArray, assign := assign3, body := body3, defers := defers3 })) := by
                    refine ⟨rfl, φ3, PM.ext_trans hext a1 (by simp [fresh]; omega), ⟨hA.1.mono (PM.le_trans hext.1 a1.1), ?_⟩, ?_, ?_⟩
                    · exact ⟨_, _, rfl, ⟨_, by rw [hja]; exact hp3a, rfl⟩, hA.2.mono (PM.le_trans hext.1 a1.1)⟩
                    · obtain ⟨e1, e2⟩ := putObj_heap w3 (w.heap.size + 1) (.loop { state := .exhausted, pending := jumpOf e, fn := fn3, tmps := tmps3, params := ps3.toArray, assign := assign3, body := body3, defers := defers3 }) d3
                      rw [hjj]
                      exact a3.upd (o := .loop fr3 ps3 assign3 body3 false e) (o' := .dead) hg3 trivial hp3 (by simp [World.putObj]) e2 trivial
                    · exact ((((Below.refl B w).alloc hB0 _).alloc (by simp; omega) _).trans a4).trans (putObj_below B w3 (w.heap.size + 1) _ d2)
                  cases e with
                  | normal => exact hfin
                  | exit id => exact wpIn_exit hfin
                  | ret => exact wpIn_ret hfin
              · cases h
            · cases h
          · cases h
        · cases h
    · cases h

theorem code_sound (hS : E.SOK) {f : Nat} (ih : CodeAt E f) (iho : OpsAt E f) (ihe : EnterAt E f) (ihr : RegAt E f) : CodeAt E (f + 1) := by
  intro c fr st e fr' st' h r B φ a w hrd hr hA
  cases c with
  | skip => simp only [X] at h; cases h; exact wpIn_skip ⟨rfl, φ, PM.ext_refl _ _, hA, hr, Below.refl _ _⟩
  | label l => simp only [X] at h; cases h; exact wpIn_label ⟨rfl, φ, PM.ext_refl _ _, hA, hr, Below.refl _ _⟩
  | exit id => simp only [X] at h; cases h; exact wpIn_exit ⟨rfl, φ, PM.ext_refl _ _, hA, hr, Below.refl _ _⟩
  | ret => simp only [X] at h; cases h; exact wpIn_ret ⟨rfl, φ, PM.ext_refl _ _, hA, hr, Below.refl _ _⟩
  | seq x y =>
    simp only [X] at h
    refine wpIn_seq ?_
    split at h
    · rename_i fr1 st1 hx
      have hge := X_ok_ge hS hx
      refine wpIn_mono (ih _ _ _ _ _ _ hx r B φ a w hrd hr hA).wpIn ?_
      rintro x a1 w1 ⟨hx, φ1, b1, b2, b3, b4⟩
      subst hx
      refine wpIn_mono (ih _ _ _ _ _ _ h r B φ1 a1 w1 (fun hh => by rw [hge.2]; exact hrd hh) b3 b2).wpIn ?_
      exact fun x a2 w2 hq => hq.mono b1 hge.1 b4
    · rename_i hne
      refine wpIn_mono (ih _ _ _ _ _ _ h r B φ a w hrd hr hA).wpIn ?_
      intro x a1 w1 hq
      exact then_of hq.1 (fun he => by subst he; exact hne _ _ h) hq
  | cond c x y =>
    simp only [X] at h
    split at h
    · rename_i hc
      have hv := hA.ev hc
      simp only [VR] at hv
      exact wpIn_cond_true hv (ih _ _ _ _ _ _ h r B φ a w hrd hr hA).wpIn
    · rename_i hc
      have hv := hA.ev hc
      simp only [VR] at hv
      exact wpIn_cond_false hv (ih _ _ _ _ _ _ h r B φ a w hrd hr hA).wpIn
    · cases h
  | block id b =>
    simp only [X] at h
    refine wpIn_block ?_
    split at h
    · rename_i i fr1 st1 hx
      rw [cond_eq_ite] at h
      refine wpIn_mono (ih _ _ _ _ _ _ hx r B φ a w hrd hr hA).wpIn ?_
      rintro x a1 w1 ⟨hx, hq⟩
      subst hx
      split at h
      · rename_i hi
        rw [Nat.beq_eq] at hi
        cases h
        subst hi
        simp only [ofAX, Exit.inBlock, if_true]
        exact ⟨rfl, hq⟩
      · rename_i hi
        cases h
        have hi : ¬ i = id := fun e => hi (by rw [Nat.beq_eq]; exact e)
        simp only [ofAX, Exit.inBlock, if_neg hi]
        exact ⟨rfl, hq⟩
    · rename_i hne
      refine wpIn_mono (ih _ _ _ _ _ _ h r B φ a w hrd hr hA).wpIn ?_
      rintro x a1 w1 ⟨hx, hq⟩
      subst hx
      cases e with
      | normal => exact ⟨rfl, hq⟩
      | ret => exact ⟨rfl, hq⟩
      | exit i => exact (hne _ _ _ h).elim
  | loop b =>
    simp only [X] at h
    refine LoopWp.unroll ?_
    split at h
    · rename_i fr1 st1 hx
      have hge := X_ok_ge hS hx
      refine wpIn_mono (ih _ _ _ _ _ _ hx r B φ a w hrd hr hA).wpIn ?_
      rintro x a1 w1 ⟨hx, φ1, b1, b2, b3, b4⟩
      subst hx
      have := ih _ _ _ _ _ _ h r B φ1 a1 w1 (fun hh => by rw [hge.2]; exact hrd hh) b3 b2
      intro bb k cs g1 g2 g3
      obtain ⟨ex, a2, w2, hq, harr⟩ := this bb k cs g1 g2 g3
      exact ⟨ex, a2, w2, hq.mono b1 hge.1 b4, harr⟩
    · rename_i hne
      refine wpIn_mono (ih _ _ _ _ _ _ h r B φ a w hrd hr hA).wpIn ?_
      intro x a1 w1 hq
      exact then_of hq.1 (fun he => by subst he; exact hne _ _ h) hq
  | region id ops d =>
    cases d with
    | false =>
      simp only [X] at h
      refine wpIn_region ?_
      have := iho ops ops.toList 0 fr st e fr' st' h (by simp) (Nat.zero_le _) r B φ a w hrd hr hA
      rw [List.range_eq_range']
      exact this
    | true =>
      simp only [X] at h
      split at h
      · rename_i its hits
        rw [cond_eq_ite] at h
        split at h
        · rename_i ht
          exact ihr id ops its fr st e fr' st' hits ht h r B φ a w hr hA
        · cases h
      · cases h
  | scope b =>
    simp only [X] at h
    refine wpIn_scope ?_
    refine wpIn_mono (ih _ _ _ _ _ _ h r B φ a w hrd hr hA).wpIn ?_
    intro x a1 w1 hq
    exact noGoto_of hq.1 hq
  | rangeFunc g ps assign body => exact range_sound hS ihe h hrd hr hA
  | _ => simp [X] at h

/-- The executor is sound. -/
theorem sound_of (hS : E.SOK) (hP : POK E.P) (hreg : ∀ f, (∀ f', f' < f → CallAt E f') → RegAt E f) : ∀ f, SoundAt E f := by
  intro f
  induction f using Nat.strongRecOn with
  | _ f ih =>
    cases f with
    | zero =>
      constructor
      · intro c fr st e fr' st' h; simp [X] at h
      · intro ops rest i fr st e fr' st' h; simp [X] at h
      · intro g args fr st v st' h; simp [X] at h
      · intro plain g args fr st v st' h; simp [X] at h
      · intro ds fr st e fr' st' h; simp [X] at h
      · intro b args fr st v st' h; simp [X] at h
    | succ f =>
      have s := ih f (Nat.lt_succ_self f)
      have hr := hreg f fun f' hf' => (ih f' (by omega)).call
      exact ⟨code_sound hS s.code s.ops s.enter hr, ops_sound hS s.ops s.call s.yield, call_sound hS s.enter, enter_sound hS hP s.code s.leave, leave_sound hS s.enter s.leave, yield_sound hS s.code⟩

end
end Go.Ax

/-
  AxS22: regions that draw their order: what the executor's looks at their text say.
-/
namespace Go.Ax
open Go Go.RowKit

/-! ### Masks -/
theorem bit_eq (m i : Nat) : bit m i = m.testBit i := by
  unfold bit
  rw [Nat.testBit_eq_decide_div_mod_eq, Bool.eq_iff_iff, Nat.beq_eq, decide_eq_true_iff]
  rfl
theorem bit_or (m n i : Nat) : bit (Nat.lor m n) i = (bit m i || bit n i) := by
  rw [bit_eq, bit_eq, bit_eq]; exact Nat.testBit_or m n i
theorem bit_pow (k i : Nat) : bit (Nat.pow 2 k) i = decide (k = i) := by
  rw [bit_eq]; exact Nat.testBit_two_pow
theorem bit_orBit (m k i : Nat) : bit (orBit m k) i = true ↔ bit m i = true ∨ k = i := by
  unfold orBit
  rw [bit_or, bit_pow, Bool.or_eq_true, decide_eq_true_iff]
theorem bit_zero (i : Nat) : bit 0 i = false := by rw [bit_eq]; simp
theorem subMask_bit {a b : Nat} (h : subMask a b = true) {i : Nat} (hi : bit a i = true) : bit b i = true := by
  unfold subMask at h
  rw [Nat.beq_eq] at h
  rw [bit_eq] at hi ⊢
  have : (a &&& b).testBit i = true := by rw [show a &&& b = Nat.land a b from rfl, h]; exact hi
  rw [Nat.testBit_and, Bool.and_eq_true] at this
  exact this.2
theorem bit_all {n i : Nat} {m : Nat} (h : Nat.add m 1 = Nat.pow 2 n) (hi : i < n) : bit m i = true := by
  have : m = 2 ^ n - 1 := by
    have h' : m + 1 = 2 ^ n := h
    omega
  rw [bit_eq, this, Nat.testBit_two_pow_sub_one]
  simpa using hi

def loudK (k : Nat) : Bool := match k with | 0 | 1 => false | _ => true
theorem loudK_false {k : Nat} (h : loudK k = false) : k = 0 ∨ k = 1 := by
  unfold loudK at h
  split at h
  · exact .inl rfl
  · exact .inr rfl
  · cases h
theorem loudK_true {k : Nat} (h : loudK k = true) : k ≠ 0 ∧ k ≠ 1 := by
  constructor <;> (rintro rfl; simp [loudK] at h)

theorem ldOf_loud {t : It} {ld : Nat} (h : loudK t.kind = true) : ldOf t ld = orBit ld t.i := by
  unfold ldOf
  obtain ⟨h0, h1⟩ := loudK_true h
  split
  · rename_i hk; exact absurd hk h0
  · rename_i hk; exact absurd hk h1
  · rfl
theorem ldOf_calm {t : It} {ld : Nat} (h : loudK t.kind = false) : ldOf t ld = ld := by
  unfold ldOf
  rcases loudK_false h with hk | hk <;> simp only [hk]

theorem maySt_spec {t : It} {dn ld : Nat} (h : maySt t dn ld = true) : (∀ j, bit t.bef j = true → bit dn j = true) ∧ bit dn t.i = false ∧ (loudK t.kind = true → ∀ j, bit ld j = true → bit t.bef j = true) := by
  unfold maySt at h
  simp only [Bool.and_eq_true, Bool.not_eq_true'] at h
  obtain ⟨⟨h1, h2⟩, h3⟩ := h
  refine ⟨fun j hj => subMask_bit h1 hj, h2, fun hl j hj => ?_⟩
  obtain ⟨k0, k1⟩ := loudK_true hl
  split at h3
  · rename_i hk; exact absurd hk k0
  · rename_i hk; exact absurd hk k1
  · exact subMask_bit h3 hj

/-! ### Items -/
theorem maskOf_spec {befs : List Nat} {i : Nat} : ∀ (es : List Edge) (m : Nat), maskOf befs i es = some m →
    (∀ e ∈ es, Region.binds .any e = true → e.on < i ∧ bit m e.on = true) ∧
    (∀ j, bit m j = true → ∃ e ∈ es, Region.binds .any e = true ∧ e.on < i ∧ (j = e.on ∨ bit (befs.getD (i - 1 - e.on) 0) j = true))
  | [], m, h => by
    simp only [maskOf, Option.some.injEq] at h; subst h
    exact ⟨(by intro e he; cases he), fun j hj => by rw [bit_zero] at hj; cases hj⟩
  | e :: es, m, h => by
    simp only [maskOf] at h
    rw [cond_eq_ite] at h
    split at h
    · rename_i hb
      rw [cond_eq_ite] at h
      split at h
      · rename_i hlt
        rw [Nat.blt_eq] at hlt
        split at h
        · rename_i m' hm
          cases h
          obtain ⟨h1, h2⟩ := maskOf_spec es m' hm
          refine ⟨fun e' he' hb' => ?_, fun j hj => ?_⟩
          · rcases List.mem_cons.1 he' with rfl | he'
            · exact ⟨hlt, by rw [bit_or, bit_or, bit_pow]; simp⟩
            · obtain ⟨a, b⟩ := h1 e' he' hb'
              exact ⟨a, by rw [bit_or, b]; rfl⟩
          · rw [bit_or, bit_or, Bool.or_eq_true, Bool.or_eq_true, bit_pow, decide_eq_true_iff] at hj
            rcases hj with hj | hj | hj
            · obtain ⟨e', a, b⟩ := h2 j hj
              exact ⟨e', List.mem_cons_of_mem _ a, b⟩
            · exact ⟨e, List.mem_cons_self, hb, hlt, .inl hj.symm⟩
            · exact ⟨e, List.mem_cons_self, hb, hlt, .inr hj⟩
        · cases h
      · cases h
    · rename_i hb
      obtain ⟨h1, h2⟩ := maskOf_spec es m h
      refine ⟨fun e' he' hb' => ?_, fun j hj => ?_⟩
      · rcases List.mem_cons.1 he' with rfl | he'
        · exact absurd hb' hb
        · exact h1 e' he' hb'
      · obtain ⟨e', a, b⟩ := h2 j hj
        exact ⟨e', List.mem_cons_of_mem _ a, b⟩

/-- The items of a region, by their numbers. -/
structure ItsOK (P : Program) (ops : List Oper) (its : List It) : Prop where
  length : its.length = ops.length
  item : ∀ (i : Nat) (t : It), its[i]? = some t → t.i = i ∧ ops[i]? = some t.o ∧ t.kind = kindOf P t.o.op ∧
    (∀ e ∈ t.o.after.toList, Region.binds .any e = true → bit t.bef e.on = true) ∧
    (∀ j, bit t.bef j = true → ∃ e ∈ t.o.after.toList, Region.binds .any e = true ∧ (j = e.on ∨ ∃ t', its[e.on]? = some t' ∧ bit t'.bef j = true))

theorem mkIts_spec {E : Env} : ∀ (l : List Oper) (i : Nat) (befs : List Nat) (its : List It), mkIts E i befs l = some its → befs.length = i →
    its.length = l.length ∧ ∀ k t, its[k]? = some t → t.i = i + k ∧ l[k]? = some t.o ∧ t.kind = kindOf E.P t.o.op ∧
      (∀ e ∈ t.o.after.toList, Region.binds .any e = true → bit t.bef e.on = true) ∧
      (∀ j, bit t.bef j = true → ∃ e ∈ t.o.after.toList, Region.binds .any e = true ∧ e.on < i + k ∧
        (j = e.on ∨ (e.on < i ∧ bit (befs.getD (i - 1 - e.on) 0) j = true) ∨ (i ≤ e.on ∧ ∃ t', its[e.on - i]? = some t' ∧ bit t'.bef j = true)))
  | [], i, befs, its, h, _ => by
    simp only [mkIts, Option.some.injEq] at h; subst h
    exact ⟨rfl, fun k t ht => by simp at ht⟩
  | o :: l, i, befs, its, h, hb => by
    simp only [mkIts] at h
    split at h
    · rename_i m hm
      split at h
      · rename_i r hr
        cases h
        obtain ⟨h1, h2⟩ := mkIts_spec l (i + 1) (m :: befs) r hr (by simp [hb])
        obtain ⟨m1, m2⟩ := maskOf_spec _ _ hm
        refine ⟨by simp [h1], fun k t ht => ?_⟩
        cases k with
        | zero =>
          simp only [List.getElem?_cons_zero, Option.some.injEq] at ht
          subst ht
          refine ⟨by simp, rfl, rfl, fun e he hbi => (m1 e he hbi).2, fun j hj => ?_⟩
          obtain ⟨e, a, b, c, d⟩ := m2 j hj
          refine ⟨e, a, b, by simpa using c, ?_⟩
          rcases d with d | d
          · exact .inl d
          · exact .inr (.inl ⟨c, d⟩)
        | succ k =>
          simp only [List.getElem?_cons_succ] at ht
          obtain ⟨a1, a2, a3, a4, a5⟩ := h2 k t ht
          refine ⟨by omega, by simpa using a2, a3, a4, fun j hj => ?_⟩
          obtain ⟨e, b1, b2, b3, b4⟩ := a5 j hj
          refine ⟨e, b1, b2, by omega, ?_⟩
          rcases b4 with b4 | ⟨b4, b5⟩ | ⟨b4, t', b5, b6⟩
          · exact .inl b4
          · by_cases he : e.on = i
            · refine .inr (.inr ⟨by omega, ⟨i, o, m, kindOf E.P o.op⟩, by simp [he], ?_⟩)
              rw [show i + 1 - 1 - e.on = 0 by omega] at b5
              simpa using b5
            · refine .inr (.inl ⟨by omega, ?_⟩)
              rw [show i + 1 - 1 - e.on = (i - 1 - e.on) + 1 by omega] at b5
              simpa using b5
          · refine .inr (.inr ⟨by omega, t', ?_, b6⟩)
            rw [show e.on - i = (e.on - (i + 1)) + 1 by omega]
            simpa using b5
      · cases h
    · cases h

theorem mkIts_ok {E : Env} {ops : List Oper} {its : List It} (h : mkIts E 0 [] ops = some its) : ItsOK E.P ops its := by
  obtain ⟨h1, h2⟩ := mkIts_spec ops 0 [] its h rfl
  refine ⟨h1, fun i t ht => ?_⟩
  obtain ⟨a1, a2, a3, a4, a5⟩ := h2 i t ht
  refine ⟨by omega, a2, a3, a4, fun j hj => ?_⟩
  obtain ⟨e, b1, b2, b3, b4⟩ := a5 j hj
  refine ⟨e, b1, b2, ?_⟩
  rcases b4 with b4 | ⟨b4, b5⟩ | ⟨b4, t', b5, b6⟩
  · exact .inl b4
  · omega
  · exact .inr ⟨t', by simpa using b5, b6⟩

theorem ofStage_mem (louds : List It) (k : Nat) : ∀ (l tail : List It) (t : It), t ∈ ofStage louds k l tail → t ∈ l ∨ t ∈ tail
  | [], tail, t, h => .inr h
  | x :: l, tail, t, h => by
    simp only [ofStage] at h
    have key : (t ∈ (bif Nat.beq (stageOf x.bef louds) k then x :: ofStage louds k l tail else ofStage louds k l tail)) → t ∈ x :: l ∨ t ∈ tail := by
      intro h
      rw [cond_eq_ite] at h
      split at h
      · rcases List.mem_cons.1 h with rfl | h
        · exact .inl List.mem_cons_self
        · exact (ofStage_mem louds k l tail t h).imp (List.mem_cons_of_mem _) id
      · exact (ofStage_mem louds k l tail t h).imp (List.mem_cons_of_mem _) id
    split at h
    · exact key h
    · exact key h
    · exact (ofStage_mem louds k l tail t h).imp (List.mem_cons_of_mem _) id

theorem orderOf_mem (its louds : List It) : ∀ (ls : List It) (k : Nat) (t : It), t ∈ orderOf its louds k ls → t ∈ its ∨ t ∈ ls
  | [], k, t, h => by
    simp only [orderOf] at h
    rcases ofStage_mem _ _ _ _ _ h with h | h
    · exact .inl h
    · cases h
  | l :: ls, k, t, h => by
    simp only [orderOf] at h
    rcases ofStage_mem _ _ _ _ _ h with h | h
    · exact .inl h
    · rcases List.mem_cons.1 h with rfl | h
      · exact .inr List.mem_cons_self
      · exact (orderOf_mem its louds ls (k + 1) t h).imp id (List.mem_cons_of_mem _)
theorem loudsOf_mem : ∀ (l : List It) (t : It), t ∈ loudsOf l → t ∈ l
  | [], t, h => h
  | x :: l, t, h => by
    simp only [loudsOf] at h
    split at h
    · exact List.mem_cons_of_mem _ (loudsOf_mem l t h)
    · exact List.mem_cons_of_mem _ (loudsOf_mem l t h)
    · rcases List.mem_cons.1 h with rfl | h
      · exact List.mem_cons_self
      · exact List.mem_cons_of_mem _ (loudsOf_mem l t h)
theorem order_mem {its : List It} {t : It} (h : t ∈ orderOf its (loudsOf its) 0 (loudsOf its)) : t ∈ its :=
  (orderOf_mem its _ _ _ t h).elim id (loudsOf_mem its t)

/-! ### Looks -/
theorem freshDst_spec (d : Tmp) : ∀ (l : List It), freshDst d l = true → ∀ r ∈ l, r.o.dst ≠ some d
  | [], _, r, hr => by cases hr
  | x :: l, h, r, hr => by
    simp only [freshDst, Bool.and_eq_true] at h
    rcases List.mem_cons.1 hr with rfl | hr
    · intro e
      rw [e] at h
      simp at h
    · exact freshDst_spec d l h.2 r hr
theorem dstsOk_spec : ∀ (l : List It), dstsOk l = true → ∀ (i j : Nat) (r s : It) (d : Tmp), l[i]? = some r → l[j]? = some s → r.o.dst = some d → s.o.dst = some d → i = j
  | [], _, i, _, _, _, _, hi, _, _, _ => by simp at hi
  | x :: l, h, i, j, r, s, d, hi, hj, hr, hs => by
    simp only [dstsOk, Bool.and_eq_true] at h
    cases i with
    | zero =>
      simp only [List.getElem?_cons_zero, Option.some.injEq] at hi
      subst hi
      cases j with
      | zero => rfl
      | succ j =>
        rw [hr] at h
        have := freshDst_spec d l h.1 s (List.mem_of_getElem? (by simpa using hj))
        exact absurd hs this
    | succ i =>
      cases j with
      | zero =>
        simp only [List.getElem?_cons_zero, Option.some.injEq] at hj
        subst hj
        rw [hs] at h
        have := freshDst_spec d l h.1 r (List.mem_of_getElem? (by simpa using hi))
        exact absurd hr this
      | succ j =>
        have := dstsOk_spec l h.2 i j r s d (by simpa using hi) (by simpa using hj) hr hs
        omega
theorem writerOk_spec (t : Tmp) (i bef : Nat) : ∀ (l : List It), writerOk t i bef l = true → ∀ r ∈ l, r.o.dst = some t → bit bef r.i = true ∨ bit r.bef i = true
  | [], _, r, hr, _ => by cases hr
  | x :: l, h, r, hr, hd => by
    simp only [writerOk, Bool.and_eq_true] at h
    rcases List.mem_cons.1 hr with rfl | hr
    · rw [hd] at h
      simpa using h.1
    · exact writerOk_spec t i bef l h.2 r hr hd
theorem allLooks_spec (i bef : Nat) (its : List It) : ∀ (ts : List Tmp), allLooks i bef its ts = true → ∀ t ∈ ts, ∀ r ∈ its, r.o.dst = some t → bit bef r.i = true ∨ bit r.bef i = true
  | [], _, t, ht => by cases ht
  | x :: ts, h, t, ht => by
    simp only [allLooks, Bool.and_eq_true] at h
    rcases List.mem_cons.1 ht with rfl | ht
    · exact writerOk_spec t i bef its h.1
    · exact allLooks_spec i bef its ts h.2 t ht
theorem looksOk_spec (all : List Oper) (its : List It) : ∀ (l : List It), looksOk all its l = true → ∀ s ∈ l, ∀ t ∈ looksL all s.o, ∀ r ∈ its, r.o.dst = some t → bit s.bef r.i = true ∨ bit r.bef s.i = true
  | [], _, s, hs => by cases hs
  | x :: l, h, s, hs => by
    simp only [looksOk, Bool.and_eq_true] at h
    rcases List.mem_cons.1 hs with rfl | hs
    · exact allLooks_spec s.i s.bef its _ h.1
    · exact looksOk_spec all its l h.2 s hs

/-! ### Equal values -/
mutual
theorem avEq_eq : ∀ (a b : AV), avEq a b = true → a = b
  | .v x, b, h => by
    unfold avEq at h
    split at h
    · rename_i e1
      cases e1
      simp only [Bool.and_eq_true, kindEq_iff, ieq_iff] at h
      obtain ⟨rfl, rfl⟩ := h; rfl
    · rename_i e1
      cases e1
      split at h <;> first | rfl | cases h
    · rename_i e1
      cases e1; rfl
    · rename_i e1
      cases e1; rfl
    · rename_i e1
      cases e1; rfl
    · rename_i e1
      cases e1; rfl
    · rename_i e1
      cases e1; rfl
    · rename_i e1; cases e1
    · rename_i e1; cases e1
    · rename_i e1; cases e1
    · rename_i e1; cases e1
    · rename_i e1; cases e1
    · rename_i e1; cases e1
    · rename_i e1; cases e1
    · cases h
  | .str n c, b, h => by
    cases b <;> simp [avEq] at h
    obtain ⟨rfl, rfl⟩ := h; rfl
  | .ptr n c, b, h => by
    cases b <;> simp [avEq] at h
    obtain ⟨rfl, rfl⟩ := h; rfl
  | .sl b o l c ex es, y, h => by
    cases y <;> simp [avEq] at h
    obtain ⟨⟨⟨⟨⟨rfl, rfl⟩, rfl⟩, rfl⟩, h⟩, rfl⟩ := h
    split at h <;> first | rfl | cases h
  | .map n, b, h => by
    cases b <;> simp [avEq] at h
    subst h; rfl
  | .fn f i c, b, h => by
    cases b <;> simp [avEq] at h
    obtain ⟨⟨rfl, h1⟩, h2⟩ := h
    rw [avEqL_eq _ _ h1, avEqL_eq _ _ h2]
  | .ifc t x, b, h => by cases b <;> simp [avEq] at h
  | .yld n, b, h => by cases b <;> simp [avEq] at h
  | .agg l, b, h => by
    cases b <;> simp [avEq] at h
    rw [avEqL_eq _ _ h]
  | .tup l, b, h => by
    cases b <;> simp [avEq] at h
    rw [avEqL_eq _ _ h]
theorem avEqL_eq : ∀ (a b : List AV), avEqL a b = true → a = b
  | [], b, h => by cases b <;> simp [avEqL] at h; rfl
  | x :: l, b, h => by
    cases b <;> simp [avEqL] at h
    rw [avEq_eq _ _ h.1, avEqL_eq _ _ h.2]
end
theorem trEq_eq : ∀ (a b : Tr AV), trEq a b = true → a = b
  | .e, b, h => by cases b <;> simp [trEq] at h; rfl
  | .n none l r, b, h => by
    cases b with
    | e => simp [trEq] at h
    | n x l' r' =>
      cases x <;> simp [trEq] at h
      rw [trEq_eq _ _ h.1, trEq_eq _ _ h.2]
  | .n (some v) l r, b, h => by
    cases b with
    | e => simp [trEq] at h
    | n x l' r' =>
      cases x <;> simp [trEq] at h
      rw [avEq_eq _ _ h.1.1, trEq_eq _ _ h.1.2, trEq_eq _ _ h.2]
theorem aoEq_eq (a b : AO) (h : aoEq a b = true) : a = b := by
  unfold aoEq at h
  split at h
  · simp only [Bool.and_eq_true, Nat.beq_eq] at h
    obtain ⟨⟨⟨⟨⟨h1, rfl⟩, rfl⟩, h4⟩, rfl⟩, rfl⟩ := h
    rw [trEq_eq _ _ h1]
    split at h4 <;> first | rfl | cases h4
  · rfl
  · simp only [Bool.and_eq_true, Nat.beq_eq] at h
    obtain ⟨⟨rfl, rfl⟩, rfl⟩ := h; rfl
  · cases h
end Go.Ax

/-
  AxS23: regions that draw their order: the run in the executor's own order.
-/
namespace Go.Ax
open Go Go.RowKit

section
variable (E : Env) (f : Nat) (all : List Oper)

/-- One operation carried out. -/
inductive StepD (t : It) (fr : Fr) (st : St) : AV → Nat → Fr → St → Prop
  | skip {fr' : Fr} (hw : wantedX all t.o fr = some false) (hp : fr.put t.o.dst U = some fr') : StepD t fr st U 0 fr' st
  | sil {v : AV} {fr' : Fr} (hw : wantedX all t.o fr = some true) (hk : t.kind = 0) (hs : sil E.P E.G (ev fr) st t.o.op = some v) (hp : fr.put t.o.dst v = some fr') : StepD t fr st v 0 fr' st
  | flt {ob : AO} {k : FK} {fr' : Fr} (hw : wantedX all t.o fr = some true) (hk : t.kind = 1) (hs : flt E.P (ev fr) t.o.op = some (ob, k)) (hp : fr.put t.o.dst (k.at st.nxt) = some fr') :
      StepD t fr st (k.at st.nxt) st.nxt fr' (fresh st ob)
  | val {v : AV} {fr' : Fr} {st' : St} (hw : wantedX all t.o fr = some true) (hk : loudK t.kind = true) (hs : loud E.P (ev fr) st t.o.op = .val v st') (hp : fr.put t.o.dst v = some fr') : StepD t fr st v 0 fr' st'
  | call {g : Nat} {args : List AV} {v : AV} {fr' : Fr} {st' : St} {f' : Nat} (hw : wantedX all t.o fr = some true) (hk : loudK t.kind = true) (hs : loud E.P (ev fr) st t.o.op = .call g args)
      (hf : f' < f) (hx : X E f' (.call g args) fr st = .ret v st') (hp : fr.put t.o.dst v = some fr') : StepD t fr st v 0 fr' st'

/-- Operations carried out one after the other. -/
inductive RunD : Nat → Nat → Fr → St → List Rec → Fr → St → Nat → Nat → Prop
  | nil {dn ld : Nat} {fr : Fr} {st : St} : RunD dn ld fr st [] fr st dn ld
  | cons {dn ld : Nat} {r : Rec} {fr1 : Fr} {st1 : St} {rs : List Rec} {fr' : Fr} {st' : St} {dn' ld' : Nat} (hm : maySt r.it dn ld = true) (hs : StepD E f all r.it r.fr r.st r.val r.obj fr1 st1)
      (hr : RunD (orBit dn r.it.i) (ldOf r.it ld) fr1 st1 rs fr' st' dn' ld') : RunD dn ld r.fr r.st (r :: rs) fr' st' dn' ld'
end

section
variable {E : Env} {f : Nat} {all : List Oper}

theorem StepD.mono {f f' : Nat} (hf : f ≤ f') {t : It} {fr : Fr} {st : St} {v : AV} {n : Nat} {fr' : Fr} {st' : St} (h : StepD E f all t fr st v n fr' st') : StepD E f' all t fr st v n fr' st' := by
  cases h with
  | skip hw hp => exact .skip hw hp
  | sil hw hk hs hp => exact .sil hw hk hs hp
  | flt hw hk hs hp => exact .flt hw hk hs hp
  | val hw hk hs hp => exact .val hw hk hs hp
  | call hw hk hs hf' hx hp => exact .call hw hk hs (by omega) hx hp
theorem RunD.mono {f f' : Nat} (hf : f ≤ f') {dn ld : Nat} {fr : Fr} {st : St} {rs : List Rec} {fr' : Fr} {st' : St} {dn' ld' : Nat} (h : RunD E f all dn ld fr st rs fr' st' dn' ld') :
    RunD E f' all dn ld fr st rs fr' st' dn' ld' := by
  induction h with
  | nil => exact .nil
  | cons hm hs _ ih => exact .cons hm (hs.mono hf) ih

theorem draw_run : ∀ (f : Nat) (todo : List It) (recs : List Rec) (dn ld : Nat) (fr : Fr) (st : St) (e : AX) (fr' : Fr) (st' : St), X E f (.draw all todo recs dn ld) fr st = .ok e fr' st' →
    e = .normal ∧ ∃ rs dn' ld', RunD E f all dn ld fr st rs fr' st' dn' ld' ∧ rs.map (·.it) = todo ∧ Nat.add dn' 1 = Nat.pow 2 all.length ∧ recsOk E all (memsOf (recs.reverse ++ rs) st') (rs.reverse ++ recs) = true
  | 0, todo, recs, dn, ld, fr, st, e, fr', st', h => by simp [X] at h
  | f + 1, todo, recs, dn, ld, fr, st, e, fr', st', h => by
    have go : ∀ (t : It) (todo : List It) (v : AV) (obj : Nat) (fr1 : Fr) (st1 : St), maySt t dn ld = true → StepD E (f + 1) all t fr st v obj fr1 st1 →
        X E f (.draw all todo (⟨t, fr, st, v, obj⟩ :: recs) (orBit dn t.i) (ldOf t ld)) fr1 st1 = .ok e fr' st' →
        e = .normal ∧ ∃ rs dn' ld', RunD E (f + 1) all dn ld fr st rs fr' st' dn' ld' ∧ rs.map (·.it) = t :: todo ∧ Nat.add dn' 1 = Nat.pow 2 all.length ∧ recsOk E all (memsOf (recs.reverse ++ rs) st') (rs.reverse ++ recs) = true := by
      intro t todo v obj fr1 st1 hm hs hx
      obtain ⟨he, rs, dn', ld', a1, a2, a3, a4⟩ := draw_run f todo _ _ _ _ _ _ _ _ hx
      refine ⟨he, ⟨t, fr, st, v, obj⟩ :: rs, dn', ld', .cons (r := ⟨t, fr, st, v, obj⟩) hm hs (a1.mono (Nat.le_succ f)), by simp [a2], a3, ?_⟩
      simpa using a4
    simp only [X] at h
    split at h
    · rw [cond_eq_ite] at h
      split at h
      · rename_i hc
        simp only [Bool.and_eq_true, Nat.beq_eq] at hc
        cases h
        exact ⟨rfl, [], dn, ld, .nil, rfl, hc.1, by simpa using hc.2⟩
      · cases h
    · rename_i t todo
      rw [cond_eq_ite] at h
      split at h
      · rename_i hm
        split at h
        · rename_i hw
          split at h
          · rename_i fr1 hp
            exact go t todo U 0 fr1 st hm (.skip hw hp) h
          · cases h
        · rename_i hw
          split at h
          · rename_i hk
            split at h
            · rename_i v hs
              split at h
              · rename_i fr1 hp
                exact go t todo v 0 fr1 st hm (.sil hw hk hs hp) h
              · cases h
            · cases h
          · rename_i hk
            split at h
            · rename_i ob k hs
              split at h
              · rename_i st1 hst
                have := strict_st hst
                subst this
                split at h
                · rename_i fr1 hp
                  exact go t todo _ _ fr1 _ hm (.flt hw hk hs hp) h
                · cases h
              · cases h
            · cases h
          · rename_i hk0 hk1
            have hk : loudK t.kind = true := by
              unfold loudK
              split
              · rename_i hh; exact absurd hh hk0
              · rename_i hh; exact absurd hh hk1
              · rfl
            split at h
            · rename_i v st1 hs
              split at h
              · rename_i fr1 hp
                exact go t todo v 0 fr1 st1 hm (.val hw hk hs hp) h
              · cases h
            · rename_i g args hs
              split at h
              · rename_i v st1 hx
                split at h
                · rename_i fr1 hp
                  exact go t todo v 0 fr1 st1 hm (.call hw hk hs (Nat.lt_succ_self f) hx hp) h
                · cases h
              · cases h
            · cases h
        · cases h
      · cases h

theorem StepD.put {t : It} {fr : Fr} {st : St} {v : AV} {n : Nat} {fr' : Fr} {st' : St} (h : StepD E f all t fr st v n fr' st') : fr.put t.o.dst v = some fr' := by
  cases h <;> assumption
theorem StepD.nxt (hS : E.SOK) {t : It} {fr : Fr} {st : St} {v : AV} {n : Nat} {fr' : Fr} {st' : St} (h : StepD E f all t fr st v n fr' st') : st.nxt ≤ st'.nxt := by
  cases h with
  | skip hw hp => exact Nat.le_refl _
  | sil hw hk hs hp => exact Nat.le_refl _
  | flt hw hk hs hp => simp [fresh]
  | val hw hk hs hp => exact loud_nxt hs
  | call hw hk hs hf hx hp => exact X_ret_ge hS hx

theorem RunD.nxt (hS : E.SOK) {dn ld : Nat} {fr : Fr} {st : St} {rs : List Rec} {fr' : Fr} {st' : St} {dn' ld' : Nat} (h : RunD E f all dn ld fr st rs fr' st' dn' ld') :
    st.nxt ≤ st'.nxt ∧ ∀ r ∈ rs, st.nxt ≤ r.st.nxt := by
  induction h with
  | nil => exact ⟨Nat.le_refl _, fun r hr => by cases hr⟩
  | cons hm hs hr ih =>
    have := hs.nxt hS
    refine ⟨by omega, fun r hr => ?_⟩
    rcases List.mem_cons.1 hr with rfl | hr
    · exact Nat.le_refl _
    · have := ih.2 r hr; omega

/-- What is done when a record is come to. -/
theorem RunD.split {l2 : List Rec} {r : Rec} {fr' : Fr} {st' : St} {dn' ld' : Nat} : ∀ {l1 : List Rec} {dn ld : Nat} {fr : Fr} {st : St}, RunD E f all dn ld fr st (l1 ++ r :: l2) fr' st' dn' ld' →
    ∃ dn1 ld1 fr1 st1, RunD E f all dn ld fr st l1 r.fr r.st dn1 ld1 ∧ maySt r.it dn1 ld1 = true ∧ StepD E f all r.it r.fr r.st r.val r.obj fr1 st1 ∧
      RunD E f all (orBit dn1 r.it.i) (ldOf r.it ld1) fr1 st1 l2 fr' st' dn' ld'
  | [], _, _, _, _, h => by
    cases h with
    | cons hm hs hr => exact ⟨_, _, _, _, .nil, hm, hs, hr⟩
  | x :: l1, _, _, _, _, h => by
    cases h with
    | cons hm hs hr =>
      obtain ⟨dn1, ld1, fr1, st1, a1, a2, a3, a4⟩ := RunD.split hr
      exact ⟨dn1, ld1, fr1, st1, .cons hm hs a1, a2, a3, a4⟩

theorem RunD.masks {dn ld : Nat} {fr : Fr} {st : St} {rs : List Rec} {fr' : Fr} {st' : St} {dn' ld' : Nat} (h : RunD E f all dn ld fr st rs fr' st' dn' ld') :
    (∀ i, bit dn' i = true ↔ bit dn i = true ∨ ∃ r ∈ rs, r.it.i = i) ∧ (∀ i, bit ld' i = true ↔ bit ld i = true ∨ ∃ r ∈ rs, loudK r.it.kind = true ∧ r.it.i = i) := by
  induction h with
  | nil => exact ⟨fun i => by simp, fun i => by simp⟩
  | @cons dn ld r fr1 st1 rs fr' st' dn' ld' hm hs hr ih =>
    obtain ⟨h1, h2⟩ := ih
    refine ⟨fun i => ?_, fun i => ?_⟩
    · rw [h1, bit_orBit]
      constructor
      · rintro ((h | h) | ⟨s, hs, h⟩)
        · exact .inl h
        · exact .inr ⟨r, List.mem_cons_self, h⟩
        · exact .inr ⟨s, List.mem_cons_of_mem _ hs, h⟩
      · rintro (h | ⟨s, hs, h⟩)
        · exact .inl (.inl h)
        · rcases List.mem_cons.1 hs with rfl | hs
          · exact .inl (.inr h)
          · exact .inr ⟨s, hs, h⟩
    · rw [h2]
      cases hk : loudK r.it.kind with
      | true =>
        rw [ldOf_loud hk, bit_orBit]
        constructor
        · rintro ((h | h) | ⟨s, hs, h⟩)
          · exact .inl h
          · exact .inr ⟨r, List.mem_cons_self, hk, h⟩
          · exact .inr ⟨s, List.mem_cons_of_mem _ hs, h⟩
        · rintro (h | ⟨s, hs, hk', h⟩)
          · exact .inl (.inl h)
          · rcases List.mem_cons.1 hs with rfl | hs
            · exact .inl (.inr h)
            · exact .inr ⟨s, hs, hk', h⟩
      | false =>
        rw [ldOf_calm hk]
        constructor
        · rintro (h | ⟨s, hs, h⟩)
          · exact .inl h
          · exact .inr ⟨s, List.mem_cons_of_mem _ hs, h⟩
        · rintro (h | ⟨s, hs, hk', h⟩)
          · exact .inl h
          · rcases List.mem_cons.1 hs with rfl | hs
            · rw [hk] at hk'; cases hk'
            · exact .inr ⟨s, hs, hk', h⟩

/-- The frame of a run. -/
theorem RunD.frame {dn ld : Nat} {fr : Fr} {st : St} {rs : List Rec} {fr' : Fr} {st' : St} {dn' ld' : Nat} (h : RunD E f all dn ld fr st rs fr' st' dn' ld') :
    fr'.n = fr.n ∧ fr'.ds = fr.ds ∧ (∀ r ∈ rs, ∀ d, r.it.o.dst = some d → d < fr.n) ∧
    ∀ t u, fr'.t.get t = some u → (∃ r ∈ rs, r.it.o.dst = some t ∧ u = r.val) ∨ (fr.t.get t = some u ∧ ∀ r ∈ rs, r.it.o.dst ≠ some t) := by
  induction h with
  | nil => exact ⟨rfl, rfl, (fun r hr => by cases hr), fun t u hu => .inr ⟨hu, fun r hr => by cases hr⟩⟩
  | @cons dn ld r fr1 st1 rs fr' st' dn' ld' hm hs hr ih =>
    obtain ⟨h1, h1', h2, h3⟩ := ih
    obtain ⟨p1, p2, p3⟩ := Fr.put_get hs.put
    refine ⟨h1.trans p1, h1'.trans (Fr.put_rd hs.put).2, fun s hs' d hd => ?_, fun t u hu => ?_⟩
    · rcases List.mem_cons.1 hs' with rfl | hs'
      · exact p2 d hd
      · rw [← p1]; exact h2 s hs' d hd
    · rcases h3 t u hu with ⟨s, hs', hd, hv⟩ | ⟨hg, hn⟩
      · exact .inl ⟨s, List.mem_cons_of_mem _ hs', hd, hv⟩
      · rw [p3] at hg
        split at hg
        · rename_i hd
          cases hg
          exact .inl ⟨r, List.mem_cons_self, hd, rfl⟩
        · rename_i hd
          refine .inr ⟨hg, fun s hs' => ?_⟩
          rcases List.mem_cons.1 hs' with rfl | hs'
          · exact hd
          · exact hn s hs'

theorem recsOk_spec {mems : List (Nat × Nat × St)} : ∀ (l : List Rec), recsOk E all mems l = true → ∀ r ∈ l, wantedX all r.it.o r.fr = some true →
    (r.it.kind = 0 → stateFree r.it.o.op = true ∨ window (sameAt E r) r.it.i r.it.bef mems = true) ∧ (r.it.kind = 1 → window (keptAt E r) r.it.i r.it.bef mems = true)
  | [], _, r, hr => by cases hr
  | x :: l, h, r, hr => by
    intro hw
    simp only [recsOk, Bool.and_eq_true] at h
    rcases List.mem_cons.1 hr with rfl | hr
    · have h := h.1
      rw [hw] at h
      simp only at h
      constructor
      · intro hk
        rw [hk] at h
        simp only at h
        rw [cond_eq_ite] at h
        split at h
        · rename_i hf; exact .inl hf
        · exact .inr h
      · intro hk
        rw [hk] at h
        exact h
    · exact recsOk_spec l h.2 r hr hw

/-- The memory, by what has been carried out. -/
def memAt (S : Nat → Bool) : List Rec → St → St
  | [], last => last
  | r :: rs, last => if loudK r.it.kind = true ∧ S r.it.i = false then r.st else memAt S rs last

theorem window_memAt {g : St → Bool} {i bef : Nat} {S : Nat → Bool} {last : St} : ∀ (rs : List Rec), window g i bef (memsOf rs last) = true → (∀ j, bit bef j = true → S j = true) → S i = false →
    (∀ r ∈ rs, S r.it.i = true → ∀ j, bit r.it.bef j = true → S j = true) → g (memAt S rs last) = true
  | [], h, _, _, _ => h
  | r :: rs, h, hb, hi, hc => by
    have ih := fun h => window_memAt (g := g) (i := i) (bef := bef) (S := S) (last := last) rs h hb hi (fun s hs => hc s (List.mem_cons_of_mem _ hs))
    simp only [memsOf] at h
    have hcalm : loudK r.it.kind = false → window g i bef (memsOf rs last) = true → g (memAt S (r :: rs) last) = true := by
      intro hk hw
      simp only [memAt]
      rw [if_neg (by rw [hk]; simp)]
      exact ih hw
    split at h
    · rename_i hk; exact hcalm (by rw [hk]; rfl) h
    · rename_i hk; exact hcalm (by rw [hk]; rfl) h
    · rename_i hk0 hk1
      have hk : loudK r.it.kind = true := by
        unfold loudK
        split
        · rename_i hh; exact absurd hh hk0
        · rename_i hh; exact absurd hh hk1
        · rfl
      simp only [window] at h
      simp only [memAt]
      rw [cond_eq_ite] at h
      split at h
      · rename_i hbit
        rw [if_neg (by rw [hb _ hbit]; simp)]
        exact ih h
      · rw [Bool.and_eq_true] at h
        by_cases hs : S r.it.i = true
        · rw [if_neg (by rw [hs]; simp)]
          have : bit r.it.bef i = false := by
            cases hbi : bit r.it.bef i with
            | false => rfl
            | true => have := hc r List.mem_cons_self hs i hbi; rw [hi] at this; cases this
          rw [this] at h
          exact ih h.2
        · rw [if_pos ⟨hk, by simpa using hs⟩]
          exact h.1

theorem memAt_congr {S S' : Nat → Bool} {last : St} : ∀ (rs : List Rec), (∀ r ∈ rs, loudK r.it.kind = true → S r.it.i = S' r.it.i) → memAt S rs last = memAt S' rs last
  | [], _ => rfl
  | r :: rs, h => by
    simp only [memAt]
    have ih := memAt_congr (S := S) (S' := S') (last := last) rs (fun s hs => h s (List.mem_cons_of_mem _ hs))
    rw [ih]
    by_cases hk : loudK r.it.kind = true
    · rw [h r List.mem_cons_self hk]
    · rw [if_neg (fun e => hk e.1), if_neg (fun e => hk e.1)]

theorem memAt_skip {S : Nat → Bool} {last : St} (rs : List Rec) : ∀ (l : List Rec), (∀ r ∈ l, loudK r.it.kind = true → S r.it.i = true) → memAt S (l ++ rs) last = memAt S rs last
  | [], _ => rfl
  | r :: l, h => by
    simp only [List.cons_append, memAt]
    rw [if_neg, memAt_skip rs l (fun s hs => h s (List.mem_cons_of_mem _ hs))]
    rintro ⟨hk, hs⟩
    rw [h r List.mem_cons_self hk] at hs; cases hs

variable {G : Glob} {B : Nat} {φ : PM} {st : St} {w : World}

/-- A new object that stands for no block. -/
theorem HR.add (h : HR G B φ st w) (ob : AO) : HR G B φ (fresh st ob) w := by
  have hn := h.fresh_none (Nat.le_refl st.nxt)
  refine ⟨h.base, fun b p e => ⟨Nat.lt_succ_of_lt (h.dom b p e).1, (h.dom b p e).2⟩, fun b o p e e' => ?_, fun b b' p p' o o' hne e e' g g' => ?_, h.glob⟩
  · simp only [fresh, Tr.get_set] at e
    split at e
    · rename_i hb; subst hb; rw [hn] at e'; cases e'
    · exact h.objs b o p e e'
  · simp only [fresh, Tr.get_set] at g g'
    split at g
    · rename_i hb; subst hb; rw [hn] at e; cases e
    · split at g'
      · rename_i hb; subst hb; rw [hn] at e'; cases e'
      · exact h.sep b b' p p' o o' hne e e' g g'

theorem StepD.calm {t : It} {fr : Fr} {st : St} {v : AV} {n : Nat} {fr' : Fr} {st' : St} (h : StepD E f all t fr st v n fr' st') (hk : loudK t.kind = false) : st' = st ∨ ∃ ob, st' = fresh st ob := by
  cases h with
  | skip hw hp => exact .inl rfl
  | sil hw hk' hs hp => exact .inl rfl
  | flt hw hk' hs hp => exact .inr ⟨_, rfl⟩
  | val hw hk' hs hp => rw [hk] at hk'; cases hk'
  | call hw hk' hs hf hx hp => rw [hk] at hk'; cases hk'

/-- On with what makes objects of its own alone. -/
theorem RunD.calm {S : Nat → Bool} {dn ld : Nat} {fr : Fr} {rs : List Rec} {fr' : Fr} {st' : St} {dn' ld' : Nat} (h : RunD E f all dn ld fr st rs fr' st' dn' ld') (hS : ∀ r ∈ rs, loudK r.it.kind = true → S r.it.i = false)
    (hr : HR G B φ st w) : HR G B φ (memAt S rs st') w := by
  induction h with
  | nil => exact hr
  | @cons dn ld r fr1 st1 rs fr' st' dn' ld' hm hs _ ih =>
    simp only [memAt]
    split
    · exact hr
    · rename_i hk
      have hk : loudK r.it.kind = false := by
        cases hkk : loudK r.it.kind with
        | false => rfl
        | true => exact absurd ⟨hkk, hS r List.mem_cons_self hkk⟩ hk
      have ih := ih (fun s hs => hS s (List.mem_cons_of_mem _ hs))
      rcases hs.calm hk with rfl | ⟨ob, rfl⟩
      · exact ih hr
      · exact ih (hr.add _)

/-- An object that stood for no block gets one. -/
theorem HR.map {w' : World} (h : HR G B φ st w) {b : Nat} {ob : AO} {p : PB} (hb : φ b = none) (hlt : b < st.nxt) (hg : st.hp.get b = some ob) (hp : p.blk = w.heap.size)
    (hs : w'.heap.size = w.heap.size + 1) (hh : ∀ k, k < w.heap.size → w'.heap[k]? = w.heap[k]?) (ho : ObR (φ.put b p) ob p w') : HR G B (φ.put b p) st w' := by
  have hle := PM.put_le p hb
  refine ⟨by have := h.base; omega, ?_, ?_, ?_, ?_⟩
  · intro b' q e
    unfold PM.put at e
    split at e
    · rename_i hbb; cases e; subst hbb; exact ⟨hlt, by have := h.base; omega, by omega⟩
    · have := h.dom b' q e; exact ⟨this.1, this.2.1, by omega⟩
  · intro b' o' q e e'
    unfold PM.put at e'
    split at e'
    · rename_i hbb; subst hbb; cases e'; rw [hg] at e; cases e; exact ho
    · exact ((h.objs b' o' q e e').mono hle).heap (hh _ (h.dom b' q e').2.2)
  · intro b1 b2 q1 q2 o1 o2 hne e1 e2 g1 g2 l1 l2 hblk
    unfold PM.put at e1 e2
    split at e1
    · rename_i hb1; subst hb1; cases e1
      rw [if_neg (fun e => hne e.symm)] at e2
      have := (h.dom b2 q2 e2).2.2; omega
    · split at e2
      · rename_i hb2; subst hb2; cases e2
        have := (h.dom b1 q1 e1).2.2; omega
      · exact h.sep b1 b2 q1 q2 o1 o2 hne e1 e2 g1 g2 l1 l2 hblk
  · intro g l e
    obtain ⟨h1, h2⟩ := h.glob g l e
    refine ⟨h1, fun i v hv => ?_⟩
    obtain ⟨y, h3, h4⟩ := h2 i v hv
    refine ⟨y, ?_, h4⟩
    rw [← h3]
    exact World.cell?_of_block (hh g (by have := h.base; omega))

/-- An operation whose value does not hang on the memory. -/
theorem stateFree_sil {P : Program} {G : Glob} {ev : Operand → Option AV} {st st' : St} {op : Op} (h : stateFree op = true) : sil P G ev st op = sil P G ev st' op := by
  cases op with
  | call c =>
    obtain ⟨callee, args, ts⟩ := c
    cases callee with
    | builtin b =>
      simp only [sil]
      generalize args.toList = al
      generalize ts.toList = tl
      cases b <;> simp [stateFree] at h <;> rcases al with _ | ⟨x, _ | ⟨y, l⟩⟩ <;> rcases tl with _ | ⟨t, _ | ⟨u, m⟩⟩ <;> rfl
    | _ => simp [stateFree] at h
  | makeFunc fn i c => cases fn <;> rfl
  | _ => first | rfl | simp [stateFree] at h

end
end Go.Ax

/-
  AxS24: regions that draw their order: any order does what the executor's own order does. The executor is sound.
-/
namespace Go.Ax
open Go Go.RowKit

section
variable {E : Env} {f : Nat} {all : List Oper}

theorem RunD.keep {dn ld : Nat} {fr : Fr} {st : St} {rs : List Rec} {fr' : Fr} {st' : St} {dn' ld' : Nat} (h : RunD E f all dn ld fr st rs fr' st' dn' ld') {i : Nat} :
    (bit dn i = true → bit dn' i = true) ∧ (bit ld i = true → bit ld' i = true) :=
  ⟨fun hi => (h.masks.1 i).2 (.inl hi), fun hi => (h.masks.2 i).2 (.inl hi)⟩

theorem RunD.before {dn ld : Nat} {fr : Fr} {st : St} {rs : List Rec} {fr' : Fr} {st' : St} {dn' ld' : Nat} (h : RunD E f all dn ld fr st rs fr' st' dn' ld') {i : Nat} (hi : bit dn' i = false) :
    ∀ r ∈ rs, bit r.it.bef i = false := by
  intro r hr
  obtain ⟨l1, l2, rfl⟩ := List.append_of_mem hr
  obtain ⟨dn1, ld1, fr1, st1, a1, a2, a3, a4⟩ := h.split
  obtain ⟨m1, m2, m3⟩ := maySt_spec a2
  cases hb : bit r.it.bef i with
  | false => rfl
  | true =>
    have := m1 i hb
    have := a4.keep.1 ((bit_orBit dn1 r.it.i i).2 (.inl this))
    rw [hi] at this; cases this

theorem RunD.after {dn ld : Nat} {fr : Fr} {st : St} {rs : List Rec} {fr' : Fr} {st' : St} {dn' ld' : Nat} (h : RunD E f all dn ld fr st rs fr' st' dn' ld') {i : Nat} (hi : bit ld i = true) :
    ∀ r ∈ rs, loudK r.it.kind = true → bit r.it.bef i = true := by
  intro r hr hk
  obtain ⟨l1, l2, rfl⟩ := List.append_of_mem hr
  obtain ⟨dn1, ld1, fr1, st1, a1, a2, a3, a4⟩ := h.split
  obtain ⟨m1, m2, m3⟩ := maySt_spec a2
  exact m3 hk i (a1.keep.2 hi)

theorem RunD.new {dn ld : Nat} {fr : Fr} {st : St} {rs : List Rec} {fr' : Fr} {st' : St} {dn' ld' : Nat} (h : RunD E f all dn ld fr st rs fr' st' dn' ld') :
    ∀ r ∈ rs, bit dn r.it.i = false := by
  intro r hr
  obtain ⟨l1, l2, rfl⟩ := List.append_of_mem hr
  obtain ⟨dn1, ld1, fr1, st1, a1, a2, a3, a4⟩ := h.split
  obtain ⟨m1, m2, m3⟩ := maySt_spec a2
  cases hb : bit dn r.it.i with
  | false => rfl
  | true => rw [a1.keep.1 hb] at m2; cases m2

theorem StepD.fltInv {t : It} {fr : Fr} {st : St} {v : AV} {n : Nat} {fr' : Fr} {st' : St} (h : StepD E f all t fr st v n fr' st') (hk : t.kind = 1) (hw : wantedX all t.o fr = some true) :
    n = st.nxt ∧ ∃ ob k, Ax.flt E.P (ev fr) t.o.op = some (ob, k) ∧ v = k.at st.nxt ∧ st' = fresh st ob := by
  cases h with
  | skip hw' hp => rw [hw] at hw'; cases hw'
  | sil hw' hk' hs hp => rw [hk] at hk'; cases hk'
  | flt hw' hk' hs hp => exact ⟨rfl, _, _, hs, rfl, rfl⟩
  | val hw' hk' hs hp => rw [hk] at hk'; cases hk'
  | call hw' hk' hs hf hx hp => rw [hk] at hk'; cases hk'

/-- The numbers of new objects, ahead of a record and behind it. -/
theorem RunD.objs (hE : E.SOK) {dn ld : Nat} {fr : Fr} {st : St} {rs : List Rec} {fr' : Fr} {st' : St} {dn' ld' : Nat} (h : RunD E f all dn ld fr st rs fr' st' dn' ld') :
    ∀ r ∈ rs, r.it.kind = 1 → wantedX all r.it.o r.fr = some true → r.obj = r.st.nxt ∧ st.nxt ≤ r.obj ∧ r.obj < st'.nxt := by
  intro r hr hk hw
  have h0 := (h.nxt hE).2 r hr
  obtain ⟨l1, l2, rfl⟩ := List.append_of_mem hr
  obtain ⟨dn1, ld1, fr1, st1, a1, a2, a3, a4⟩ := h.split
  obtain ⟨b1, ob, k, b2, b3, b4⟩ := a3.fltInv hk hw
  have h2 := (a4.nxt hE).1
  rw [b4] at h2
  simp only [fresh] at h2
  exact ⟨b1, by omega, by omega⟩

/-- What stands fast of a region's run. -/
structure Ctx (E : Env) (f : Nat) (ops : Array Oper) (its : List It) (fr0 : Fr) (st0 : St) (frN : Fr) (stN : St) (rs : List Rec) : Prop where
  run : ∃ dn ld, RunD E f ops.toList 0 0 fr0 st0 rs frN stN dn ld
  itsOk : ItsOK E.P ops.toList its
  dsts : ∀ (i j : Nat) (r s : It) (d : Tmp), its[i]? = some r → its[j]? = some s → r.o.dst = some d → s.o.dst = some d → i = j
  looks : ∀ s ∈ its, ∀ t ∈ looksL ops.toList s.o, ∀ r ∈ its, r.o.dst = some t → bit s.bef r.i = true ∨ bit r.bef s.i = true
  recs : ∀ r ∈ rs, wantedX ops.toList r.it.o r.fr = some true →
    (r.it.kind = 0 → stateFree r.it.o.op = true ∨ window (sameAt E r) r.it.i r.it.bef (memsOf rs stN) = true) ∧ (r.it.kind = 1 → window (keptAt E r) r.it.i r.it.bef (memsOf rs stN) = true)
  item : ∀ r ∈ rs, its[r.it.i]? = some r.it
  every : ∀ i, i < ops.size → ∃ r ∈ rs, r.it.i = i

variable {ops : Array Oper} {its : List It} {fr0 frN : Fr} {st0 stN : St} {rs : List Rec}

theorem Ctx.uniq (c : Ctx E f ops its fr0 st0 frN stN rs) {r r' : Rec} (hr : r ∈ rs) (hr' : r' ∈ rs) (h : r.it.i = r'.it.i) : r = r' := by
  obtain ⟨dn, ld, run⟩ := c.run
  obtain ⟨l1, l2, rfl⟩ := List.append_of_mem hr
  obtain ⟨dn1, ld1, fr1, st1, a1, a2, a3, a4⟩ := run.split
  obtain ⟨m1, m2, m3⟩ := maySt_spec a2
  rcases List.mem_append.1 hr' with h' | h'
  · have := (a1.masks.1 r.it.i).2 (.inr ⟨r', h', h.symm⟩)
    rw [m2] at this; cases this
  · rcases List.mem_cons.1 h' with rfl | h'
    · rfl
    · have := a4.new r' h'
      rw [← h, (bit_orBit dn1 r.it.i r.it.i).2 (.inr rfl)] at this; cases this

theorem Ctx.dst (c : Ctx E f ops its fr0 st0 frN stN rs) {r r' : Rec} (hr : r ∈ rs) (hr' : r' ∈ rs) {d : Tmp} (h : r.it.o.dst = some d) (h' : r'.it.o.dst = some d) : r = r' :=
  c.uniq hr hr' (c.dsts _ _ _ _ d (c.item r hr) (c.item r' hr') h h')

/-- What holds when the operations of S have been carried out. -/
structure Inv (E : Env) (B : Nat) (φ0 : PM) (st0 stN : St) (w0 : World) (a0 : Act) (fr0 : Fr) (all : List Oper) (rs : List Rec) (S : Nat → Bool) (φ : PM) (a : Act) (w : World) : Prop where
  closed : ∀ r ∈ rs, S r.it.i = true → ∀ j, bit r.it.bef j = true → S j = true
  hr : HR E.G B φ (memAt S rs stN) w
  ext : PM.ext st0.nxt φ0 φ
  below : Below B w0 w
  size : a.tmps.size = fr0.n
  done : ∀ r ∈ rs, S r.it.i = true → ∀ d, r.it.o.dst = some d → ∃ y, a.tmps[d]? = some y ∧ VR φ r.val y
  old : ∀ t v, fr0.t.get t = some v → (∀ r ∈ rs, r.it.o.dst = some t → S r.it.i = false) → ∃ y, a.tmps[t]? = some y ∧ VR φ v y
  objs : ∀ r ∈ rs, wantedX all r.it.o r.fr = some true → r.it.kind = 1 → ((∃ p, φ r.obj = some p) ↔ S r.it.i = true)
  defers : a.defers = a0.defers

variable {B : Nat} {φ0 φ : PM} {w0 w : World} {a0 a : Act} {S S' : Nat → Bool}

/-- One more is done. -/
theorem Inv.put (c : Ctx E f ops its fr0 st0 frN stN rs) (h : Inv E B φ0 st0 stN w0 a0 fr0 ops.toList rs S φ a w) {r : Rec} (hr : r ∈ rs) (hS : S r.it.i = false) (hS' : ∀ j, S' j = true ↔ j = r.it.i ∨ S j = true)
    (hbef : ∀ j, bit r.it.bef j = true → S j = true) {φ' : PM} {w' : World} {y : Value} (hle : PM.le φ φ') (hext : PM.ext st0.nxt φ0 φ') (hb : Below B w w') (hh : HR E.G B φ' (memAt S' rs stN) w') (hv : VR φ' r.val y)
    (ho : ∀ r' ∈ rs, wantedX ops.toList r'.it.o r'.fr = some true → r'.it.kind = 1 → ((∃ p, φ' r'.obj = some p) ↔ S' r'.it.i = true)) :
    Inv E B φ0 st0 stN w0 a0 fr0 ops.toList rs S' φ' (a.put r.it.o.dst y) w' := by
  obtain ⟨dn, ld, run⟩ := c.run
  have hlt := run.frame.2.2.1
  refine ⟨fun s hs h1 j hj => ?_, hh, hext, h.below.trans hb, ?_, fun s hs h1 d hd => ?_, fun t v ht hn => ?_, ho, ?_⟩
  · rcases (hS' _).1 h1 with h1 | h1
    · have := c.uniq hs hr h1
      subst this
      exact (hS' _).2 (.inr (hbef j hj))
    · exact (hS' _).2 (.inr (h.closed s hs h1 j hj))
  · rw [← h.size]; unfold Act.put; split <;> simp
  · rcases (hS' _).1 h1 with h1 | h1
    · have := c.uniq hs hr h1
      subst this
      refine ⟨y, ?_, hv⟩
      rw [hd]
      simp only [Act.put]
      exact Array.getElem?_setIfInBounds_self_of_lt (by rw [h.size]; exact hlt s hs d hd)
    · obtain ⟨z, h2, h3⟩ := h.done s hs h1 d hd
      refine ⟨z, ?_, VR.mono hle _ _ h3⟩
      unfold Act.put
      split
      · rename_i d' hd'
        by_cases hdd : d' = d
        · subst hdd
          have := c.dst hs hr hd hd'
          subst this
          rw [hS] at h1; cases h1
        · simp only; rw [Array.getElem?_setIfInBounds_ne hdd]; exact h2
      · exact h2
  · have hn' : ∀ s ∈ rs, s.it.o.dst = some t → S s.it.i = false := by
      intro s hs hd
      have := hn s hs hd
      cases hss : S s.it.i with
      | false => rfl
      | true => rw [(hS' _).2 (.inr hss)] at this; cases this
    obtain ⟨z, h2, h3⟩ := h.old t v ht hn'
    refine ⟨z, ?_, VR.mono hle _ _ h3⟩
    unfold Act.put
    split
    · rename_i d' hd'
      by_cases hdd : d' = t
      · subst hdd
        have := hn r hr hd'
        rw [(hS' _).2 (.inl rfl)] at this; cases this
      · simp only; rw [Array.getElem?_setIfInBounds_ne hdd]; exact h2
    · exact h2
  · rw [← h.defers]; unfold Act.put; split <;> rfl

/-- What an operation looks at lies in the frame. -/
theorem Inv.looks (c : Ctx E f ops its fr0 st0 frN stN rs) (h : Inv E B φ0 st0 stN w0 a0 fr0 ops.toList rs S φ a w) {r : Rec} (hr : r ∈ rs) (hS : S r.it.i = false)
    (hbef : ∀ j, bit r.it.bef j = true → S j = true) {t : Tmp} (ht : t ∈ looksL ops.toList r.it.o) {u : AV} (hu : r.fr.t.get t = some u) : ∃ y, a.tmps[t]? = some y ∧ VR φ u y := by
  obtain ⟨dn, ld, run⟩ := c.run
  have hmem : ∀ s ∈ rs, s.it ∈ its := fun s hs => List.mem_of_getElem? (c.item s hs)
  have hlook : ∀ s ∈ rs, s.it.o.dst = some t → bit r.it.bef s.it.i = true ∨ bit s.it.bef r.it.i = true := fun s hs hd => c.looks r.it (hmem r hr) t ht s.it (hmem s hs) hd
  obtain ⟨l1, l2, rfl⟩ := List.append_of_mem hr
  obtain ⟨dn1, ld1, fr1, st1, a1, a2, a3, a4⟩ := run.split
  obtain ⟨m1, m2, m3⟩ := maySt_spec a2
  have hb := a1.before m2
  rcases a1.frame.2.2.2 t u hu with ⟨s, hs, hd, rfl⟩ | ⟨hg, hn⟩
  · have hs' : s ∈ l1 ++ r :: l2 := List.mem_append_left _ hs
    refine h.done s hs' ?_ t hd
    rcases hlook s hs' hd with h1 | h1
    · exact hbef _ h1
    · rw [hb s hs] at h1; cases h1
  · refine h.old t u hg fun s hs hd => ?_
    cases hss : S s.it.i with
    | false => rfl
    | true =>
      exfalso
      rcases hlook s hs hd with h1 | h1
      · have := m1 _ h1
        rw [a1.masks.1] at this
        rcases this with h2 | ⟨s', hs', he⟩
        · rw [bit_zero] at h2; cases h2
        · have := c.uniq (List.mem_append_left _ hs') hs he
          subst this
          exact hn s' hs' hd
      · have := h.closed s hs hss _ h1
        rw [hS] at this; cases this

theorem Inv.evals (c : Ctx E f ops its fr0 st0 frN stN rs) (h : Inv E B φ0 st0 stN w0 a0 fr0 ops.toList rs S φ a w) {r : Rec} (hr : r ∈ rs) (hS : S r.it.i = false)
    (hbef : ∀ j, bit r.it.bef j = true → S j = true) : ∀ x ∈ r.it.o.op.operands.toList, ∀ u, ev r.fr x = some u → VR φ u (a.eval x) := by
  intro x hx u hu
  cases x with
  | tmp t =>
    have ht : t ∈ looksL ops.toList r.it.o := by
      unfold looksL
      refine List.mem_append_left _ (List.mem_filterMap.2 ⟨.tmp t, hx, rfl⟩)
    obtain ⟨y, h1, h2⟩ := h.looks c hr hS hbef ht hu
    have : a.eval (.tmp t) = y := by simp [Act.eval, h1]
    rw [this]; exact h2
  | const v => simp only [Ax.ev, Option.some.injEq] at hu; subst hu; exact VR.of v
  | global g => simp only [Ax.ev, Option.some.injEq] at hu; subst hu; simp [VR, Act.eval]
  | func g => simp only [Ax.ev, Option.some.injEq] at hu; subst hu; simp [VR, VRs, Act.eval]

theorem Inv.wanted (c : Ctx E f ops its fr0 st0 frN stN rs) (h : Inv E B φ0 st0 stN w0 a0 fr0 ops.toList rs S φ a w) {r : Rec} (hr : r ∈ rs) (hS : S r.it.i = false)
    (hbef : ∀ j, bit r.it.bef j = true → S j = true) {b : Bool} (hw : wantedX ops.toList r.it.o r.fr = some b) : Region.wanted r.it.o (yielded ops a.tmps) = b := by
  refine wanted_of (φ := φ) hw fun j want g d v hg hj hd hv => ?_
  refine h.looks c hr hS hbef ?_ hv
  unfold looksL
  refine List.mem_append_right _ ?_
  rw [hg]
  simp only [nthO_eq, Array.getElem?_toList, hj, hd]
  simp

/-- The memory behind a loud operation. -/
theorem Inv.loud (hE : E.SOK) (c : Ctx E f ops its fr0 st0 frN stN rs) (h : Inv E B φ0 st0 stN w0 a0 fr0 ops.toList rs S φ a w) {r : Rec} (hr : r ∈ rs) (hS : S r.it.i = false) (hS' : ∀ j, S' j = true ↔ j = r.it.i ∨ S j = true)
    (hbef : ∀ j, bit r.it.bef j = true → S j = true) (hk : loudK r.it.kind = true) : memAt S rs stN = r.st ∧
    ∃ fr1 st1, StepD E f ops.toList r.it r.fr r.st r.val r.obj fr1 st1 ∧ (∀ φ' w', HR E.G B φ' st1 w' → HR E.G B φ' (memAt S' rs stN) w') ∧
      (∀ r' ∈ rs, r'.it.kind = 1 → wantedX ops.toList r'.it.o r'.fr = some true → r'.obj < r.st.nxt ∨ (st1.nxt ≤ r'.obj ∧ r' ≠ r)) := by
  obtain ⟨dn, ld, run⟩ := c.run
  obtain ⟨l1, l2, hsplit⟩ := List.append_of_mem hr
  have hr0 := hr
  subst hsplit
  obtain ⟨dn1, ld1, fr1, st1, a1, a2, a3, a4⟩ := run.split
  obtain ⟨m1, m2, m3⟩ := maySt_spec a2
  have hl1 : ∀ s ∈ l1, loudK s.it.kind = true → S s.it.i = true := fun s hs hks => hbef _ (m3 hk _ ((a1.masks.2 _).2 (.inr ⟨s, hs, hks, rfl⟩)))
  have hl2 : ∀ s ∈ l2, loudK s.it.kind = true → S' s.it.i = false := by
    intro s hs hks
    have h1 := a4.after (i := r.it.i) (by rw [ldOf_loud hk]; exact (bit_orBit _ _ _).2 (.inr rfl)) s hs hks
    cases hss : S' s.it.i with
    | false => rfl
    | true =>
      exfalso
      rcases (hS' _).1 hss with h2 | h2
      · have := a4.new s hs
        rw [h2, (bit_orBit dn1 r.it.i r.it.i).2 (.inr rfl)] at this; cases this
      · have := h.closed s (List.mem_append_right _ (List.mem_cons_of_mem _ hs)) h2 _ h1
        rw [hS] at this; cases this
  refine ⟨?_, fr1, st1, a3, fun φ' w' hh => ?_, fun r' hr' hk' hw' => ?_⟩
  · rw [memAt_skip _ _ hl1]
    simp only [memAt]
    rw [if_pos ⟨hk, hS⟩]
  · rw [memAt_skip _ _ fun s hs hks => (hS' _).2 (.inr (hl1 s hs hks))]
    simp only [memAt]
    rw [if_neg (by rw [(hS' r.it.i).2 (.inl rfl)]; simp)]
    exact a4.calm hl2 hh
  · rcases List.mem_append.1 hr' with h' | h'
    · exact .inl (a1.objs hE r' h' hk' hw').2.2
    · rcases List.mem_cons.1 h' with rfl | h''
      · rw [hk'] at hk; cases hk
      · refine .inr ⟨(a4.objs hE r' h'' hk' hw').2.1, ?_⟩
        rintro rfl
        have := a4.new r' h''
        rw [(bit_orBit dn1 r'.it.i r'.it.i).2 (.inr rfl)] at this; cases this

variable {ro : Option Nat} {Q : Exit → Act → World → Prop}

theorem StepD.inv {t : It} {fr : Fr} {st : St} {v : AV} {n : Nat} {fr' : Fr} {st' : St} (h : StepD E f all t fr st v n fr' st') :
    (wantedX all t.o fr = some false ∧ v = U ∧ st' = st) ∨
    (wantedX all t.o fr = some true ∧ t.kind = 0 ∧ Ax.sil E.P E.G (ev fr) st t.o.op = some v ∧ st' = st) ∨
    (wantedX all t.o fr = some true ∧ t.kind = 1 ∧ ∃ ob k, Ax.flt E.P (ev fr) t.o.op = some (ob, k) ∧ v = k.at st.nxt ∧ n = st.nxt ∧ st' = fresh st ob) ∨
    (wantedX all t.o fr = some true ∧ loudK t.kind = true ∧ loud E.P (ev fr) st t.o.op = .val v st') ∨
    (wantedX all t.o fr = some true ∧ loudK t.kind = true ∧ ∃ g args f', loud E.P (ev fr) st t.o.op = .call g args ∧ f' < f ∧ X E f' (.call g args) fr st = .ret v st') := by
  cases h with
  | skip hw hp => exact .inl ⟨hw, rfl, rfl⟩
  | sil hw hk hs hp => exact .inr (.inl ⟨hw, hk, hs, rfl⟩)
  | flt hw hk hs hp => exact .inr (.inr (.inl ⟨hw, hk, _, _, hs, rfl, rfl, rfl⟩))
  | val hw hk hs hp => exact .inr (.inr (.inr (.inl ⟨hw, hk, hs⟩)))
  | call hw hk hs hf hx hp => exact .inr (.inr (.inr (.inr ⟨hw, hk, _, _, _, hs, hf, hx⟩)))

theorem Ctx.stepD (c : Ctx E f ops its fr0 st0 frN stN rs) {r : Rec} (hr : r ∈ rs) : ∃ fr1 st1, StepD E f ops.toList r.it r.fr r.st r.val r.obj fr1 st1 := by
  obtain ⟨dn, ld, run⟩ := c.run
  obtain ⟨l1, l2, rfl⟩ := List.append_of_mem hr
  obtain ⟨dn1, ld1, fr1, st1, a1, a2, a3, a4⟩ := run.split
  exact ⟨fr1, st1, a3⟩

theorem Ctx.objs_ne (hE : E.SOK) (c : Ctx E f ops its fr0 st0 frN stN rs) {r r' : Rec} (hr : r ∈ rs) (hr' : r' ∈ rs) (hw : wantedX ops.toList r.it.o r.fr = some true) (hk : r.it.kind = 1)
    (hw' : wantedX ops.toList r'.it.o r'.fr = some true) (hk' : r'.it.kind = 1) (h : r.obj = r'.obj) : r = r' := by
  obtain ⟨dn, ld, run⟩ := c.run
  obtain ⟨l1, l2, rfl⟩ := List.append_of_mem hr
  obtain ⟨dn1, ld1, fr1, st1, a1, a2, a3, a4⟩ := run.split
  obtain ⟨b1, ob, k, b2, b3, b4⟩ := a3.fltInv hk hw
  rcases List.mem_append.1 hr' with h' | h'
  · have := (a1.objs hE r' h' hk' hw').2.2
    omega
  · rcases List.mem_cons.1 h' with rfl | h''
    · rfl
    · have := (a4.objs hE r' h'' hk' hw').2.1
      rw [b4] at this
      simp only [fresh] at this
      omega

theorem Ctx.obj_ge (hE : E.SOK) (c : Ctx E f ops its fr0 st0 frN stN rs) {r : Rec} (hr : r ∈ rs) (hw : wantedX ops.toList r.it.o r.fr = some true) (hk : r.it.kind = 1) : st0.nxt ≤ r.obj := by
  obtain ⟨dn, ld, run⟩ := c.run
  exact (run.objs hE r hr hk hw).2.1

theorem sem_at {o : Oper} {a : Act} (h : ∀ c, o.op ≠ .defer c) : o.semAt ro a.eval = execOp a.eval o := Oper.semAt_eq ro _ o h

/-- One operation, whenever it may be carried out. -/
theorem Inv.step (hE : E.SOK) (hcall : ∀ f', f' < f → CallAt E f') (c : Ctx E f ops its fr0 st0 frN stN rs) (h : Inv E B φ0 st0 stN w0 a0 fr0 ops.toList rs S φ a w) {r : Rec} (hr : r ∈ rs) (hS : S r.it.i = false)
    (hS' : ∀ j, S' j = true ↔ j = r.it.i ∨ S j = true) (hbef : ∀ j, bit r.it.bef j = true → S j = true) :
    wpOpIn (FR ro) 0 E.P ops Q r.it.i (fun a' w' => ∃ φ', Inv E B φ0 st0 stN w0 a0 fr0 ops.toList rs S' φ' a' w') a w := by
  have hit := c.itsOk.item _ _ (c.item r hr)
  obtain ⟨_, hget, hkind, _, _⟩ := hit
  have hget : ops[r.it.i]? = some r.it.o := by simpa using hget
  have hev := h.evals c hr hS hbef
  have hst0 : st0.nxt ≤ (memAt S rs stN).nxt := by
    have : ∀ (l : List Rec), (∀ r ∈ l, r ∈ rs) → st0.nxt ≤ (memAt S l stN).nxt := by
      obtain ⟨dn, ld, run⟩ := c.run
      have hn := run.nxt hE
      intro l
      induction l with
      | nil => intro _; exact hn.1
      | cons x l ih =>
        intro hl
        simp only [memAt]
        split
        · exact hn.2 x (hl x List.mem_cons_self)
        · exact ih fun r hr => hl r (List.mem_cons_of_mem _ hr)
    exact this rs fun _ h => h
  unfold wpOpIn
  simp only [hget]
  -- a calm operation leaves the memory's place alone
  have hmem : loudK r.it.kind = false → memAt S' rs stN = memAt S rs stN := by
    intro hk
    refine memAt_congr rs fun s hs hks => ?_
    cases hss : S s.it.i with
    | true => exact (hS' _).2 (.inr hss)
    | false =>
      cases hss' : S' s.it.i with
      | false => rfl
      | true =>
        rcases (hS' _).1 hss' with h1 | h1
        · have := c.uniq hs hr h1
          subst this
          rw [hk] at hks; cases hks
        · rw [hss] at h1; cases h1
  -- the objects, where none is new
  have hobj : ∀ (φ' : PM), (∀ r' ∈ rs, wantedX ops.toList r'.it.o r'.fr = some true → r'.it.kind = 1 → φ' r'.obj = φ r'.obj) → (¬ (wantedX ops.toList r.it.o r.fr = some true ∧ r.it.kind = 1)) →
      ∀ r' ∈ rs, wantedX ops.toList r'.it.o r'.fr = some true → r'.it.kind = 1 → ((∃ p, φ' r'.obj = some p) ↔ S' r'.it.i = true) := by
    intro φ' hφ hno r' hr' hw' hk'
    rw [hφ r' hr' hw' hk', h.objs r' hr' hw' hk', hS']
    constructor
    · exact .inr
    · rintro (h1 | h1)
      · have := c.uniq hr' hr h1
        subst this
        exact absurd ⟨hw', hk'⟩ hno
      · exact h1
  obtain ⟨fr1, st1, hstep⟩ := c.stepD hr
  cases hk : loudK r.it.kind with
  | false =>
    rcases hstep.inv with ⟨hw, hv, hst⟩ | ⟨hw, hk0, hs, hst⟩ | ⟨hw, hk1, ob, k, hs, hv, ho, hst⟩ | ⟨hw, hk2, hs⟩ | ⟨hw, hk2, hs⟩
    · rw [h.wanted c hr hS hbef hw]
      simp only [Bool.false_eq_true, if_false]
      refine ⟨fun f _ => FR_fn ro f, φ, h.put c hr hS hS' hbef (PM.le_refl _) h.ext (Below.refl _ _) (by rw [hmem hk]; exact h.hr) (by rw [hv]; simp [U, VR]) (hobj φ (fun _ _ _ _ => rfl) (by rw [hw]; simp))⟩
    · rw [h.wanted c hr hS hbef hw]
      simp only [if_true]
      have hs' : Ax.sil E.P E.G (ev r.fr) (memAt S rs stN) r.it.o.op = some r.val := by
        rcases (c.recs r hr hw).1 hk0 with hf | hwin
        · rw [stateFree_sil (st' := r.st) hf]; exact hs
        · have := window_memAt (S := S) rs hwin hbef hS h.closed
          unfold sameAt at this
          split at this
          · rename_i v hv
            rw [hv, avEq_eq _ _ this]
          · cases this
      obtain ⟨y, h1, h2⟩ := sil_sound r.it.o hs' h.hr hev
      refine wpOp_value (sem_at (kindOf_defer (P := E.P) (.inl (by rw [← hkind]; exact hk0)))) (.inl h1) ?_
      exact ⟨φ, h.put c hr hS hS' hbef (PM.le_refl _) h.ext (Below.refl _ _) (by rw [hmem hk]; exact h.hr) h2 (hobj φ (fun _ _ _ _ => rfl) (by rw [hk0]; simp))⟩
    · rw [h.wanted c hr hS hbef hw]
      simp only [if_true]
      have hwin := window_memAt (S := S) rs ((c.recs r hr hw).2 hk1) hbef hS h.closed
      unfold keptAt at hwin
      rw [hs] at hwin
      split at hwin
      · rename_i ob' k' o' h3 h4
        cases h3
        simp only [Bool.and_eq_true, Nat.blt_eq] at hwin
        have := aoEq_eq _ _ hwin.2
        subst this
        obtain ⟨y, w', sz, m1, m2, m3, m4⟩ := flt_sound (w := w) r.it.o hs hev
        have hnone : φ r.obj = none := by
          cases hφ : φ r.obj with
          | none => rfl
          | some p =>
            have := (h.objs r hr hw hk1).1 ⟨p, hφ⟩
            rw [hS] at this; cases this
        have hle := PM.put_le ⟨w.heap.size, 0, sz⟩ hnone
        obtain ⟨g1, g2⟩ := m4 (φ.put r.obj ⟨w.heap.size, 0, sz⟩) r.obj hle (PM.put_same _ _ _)
        refine wpOp_value (sem_at (kindOf_defer (P := E.P) (.inr (by rw [← hkind]; exact hk1)))) (.inl m1) ?_
        refine ⟨φ.put r.obj ⟨w.heap.size, 0, sz⟩, h.put c hr hS hS' hbef hle ⟨PM.le_trans h.ext.1 hle, fun b hb => ?_⟩ (m2.mono h.hr.base) ?_ (by rw [hv, ← ho]; exact g2) ?_⟩
        · have := c.obj_ge hE hr hw hk1
          rw [← h.ext.2 b hb]
          unfold PM.put; rw [if_neg (by omega)]
        · rw [hmem hk]
          exact h.hr.map hnone hwin.1 h4 rfl m3 (fun k hk => m2.block k hk) g1
        · intro r' hr' hw' hk'
          by_cases he : r' = r
          · subst he
            exact ⟨fun _ => (hS' _).2 (.inl rfl), fun _ => ⟨_, PM.put_same _ _ _⟩⟩
          · have hne : r'.obj ≠ r.obj := fun e => he (c.objs_ne hE hr' hr hw' hk' hw hk1 e)
            have hp : φ.put r.obj ⟨w.heap.size, 0, sz⟩ r'.obj = φ r'.obj := by unfold PM.put; rw [if_neg hne]
            rw [hp, h.objs r' hr' hw' hk', hS']
            exact ⟨.inr, fun hh => hh.resolve_left fun e => he (c.uniq hr' hr e)⟩
      · cases hwin
    · rw [hk] at hk2; cases hk2
    · rw [hk] at hk2; cases hk2
  | true =>
    obtain ⟨hm, fr2, st2, hstep2, hgo, hpos⟩ := h.loud hE c hr hS hS' hbef hk
    have hno : ¬ (wantedX ops.toList r.it.o r.fr = some true ∧ r.it.kind = 1) := fun e => by rw [e.2] at hk; cases hk
    have hrr := h.hr
    rw [hm] at hrr
    -- behind it
    have next : ∀ (φ' : PM) (w' : World) (y : Value), PM.ext r.st.nxt φ φ' → VR φ' r.val y → HR E.G B φ' st2 w' → Below B w w' →
        ∃ φ', Inv E B φ0 st0 stN w0 a0 fr0 ops.toList rs S' φ' (a.put r.it.o.dst y) w' := by
      intro φ' w' y h1 h2 h3 h4
      refine ⟨φ', h.put c hr hS hS' hbef h1.1 (PM.ext_trans h.ext h1 (by rw [← hm]; exact hst0)) h4 (hgo φ' w' h3) h2 (hobj φ' (fun r' hr' hw' hk' => ?_) hno)⟩
      rcases hpos r' hr' hk' hw' with h5 | ⟨h5, h6⟩
      · exact h1.2 _ h5
      · rw [h3.fresh_none h5]
        exact (hrr.fresh_none (Nat.le_trans (hstep2.nxt hE) h5)).symm
    rcases hstep2.inv with ⟨hw, hv, hst⟩ | ⟨hw, hk0, hs, hst⟩ | ⟨hw, hk1, ob, k, hs, hv, ho, hst⟩ | ⟨hw, hk2, hs⟩ | ⟨hw, hk2, g, args, f', hs, hf', hx⟩
    · rw [h.wanted c hr hS hbef hw]
      simp only [Bool.false_eq_true, if_false]
      refine ⟨fun f _ => FR_fn ro f, next φ w undef (PM.ext_refl _ _) (by rw [hv]; simp [U, VR]) (by rw [hst]; exact hrr) (Below.refl _ _)⟩
    · rw [hk0] at hk; cases hk
    · rw [hk1] at hk; cases hk
    · rw [h.wanted c hr hS hbef hw]
      simp only [if_true]
      obtain ⟨y, w', φ', h1, h2, h3, h4, h5⟩ := loud_sound r.it.o hs hrr hev
      exact wpOp_value (sem_at (loud_defer' (P := E.P) (st := r.st) (ev := ev r.fr) (by rw [hs]; simp) (by rw [hs]; simp))) h1 (next φ' w' y h2 h3 h4 h5)
    · rw [h.wanted c hr hS hbef hw]
      simp only [if_true]
      obtain ⟨vs, hv, hrun⟩ := loud_call (w := w) r.it.o hs hev
      refine wpOp_call (sem_at (loud_defer' (P := E.P) (st := r.st) (ev := ev r.fr) (by rw [hs]; simp) (by rw [hs]; simp))) hrun (hcall f' hf' _ _ _ _ _ _ hx B φ w vs hrr hv) ?_
      rintro y w' ⟨φ', h2, h3, h4, h5⟩
      exact next φ' w' y h2 h3 h4 h5

end
end Go.Ax

/-
  AxS25: regions that draw their order; the executor is sound.
-/
namespace Go.Ax
open Go Go.RowKit

section
variable {E : Env} {f : Nat} {ops : Array Oper} {its : List It} {fr0 frN : Fr} {st0 stN : St} {rs : List Rec} {B : Nat} {φ0 φ : PM} {w0 w : World} {a0 a : Act} {S : Nat → Bool}

theorem getD_true {l : Array Bool} {i : Nat} (h : l.getD i true = false) : i < l.size ∧ l.getD i false = false := by
  rcases Nat.lt_or_ge i l.size with h' | h'
  · simp [h'] at h ⊢; exact h
  · simp [Array.getElem?_eq_none h'] at h

/-- Something may be carried out, or all is done. -/
theorem Ctx.ready (c : Ctx E f ops its fr0 st0 frN stN rs) {listed : Array Bool} (hsz : listed.size = ops.size) (h : Region.ready .any ops listed = []) : ∀ r ∈ rs, listed.getD r.it.i false = true := by
  have key : ∀ (l1 l2 : List Rec), rs = l1 ++ l2 → (∀ r ∈ l1, listed.getD r.it.i false = true) → ∀ r ∈ l2, listed.getD r.it.i false = true := by
    intro l1 l2
    induction l2 generalizing l1 with
    | nil => intro _ _ r hr; cases hr
    | cons x l2 ih =>
      intro hs h1
      have hx : listed.getD x.it.i false = true := by
        cases hx : listed.getD x.it.i false with
        | true => rfl
        | false =>
          exfalso
          obtain ⟨dn, ld, run⟩ := c.run
          rw [hs] at run
          obtain ⟨dn1, ld1, fr1, st1, a1, a2, a3, a4⟩ := run.split
          obtain ⟨m1, m2, m3⟩ := maySt_spec a2
          have hxm : x ∈ rs := by rw [hs]; exact List.mem_append_right _ List.mem_cons_self
          obtain ⟨_, hget, _, hed, _⟩ := c.itsOk.item _ _ (c.item x hxm)
          have hget : ops[x.it.i]? = some x.it.o := by simpa using hget
          have hlt : x.it.i < listed.size := by rw [hsz]; exact (Array.getElem?_eq_some_iff.1 hget).1
          have : x.it.i ∈ Region.ready .any ops listed := by
            refine mem_ready.2 ⟨?_, x.it.o, hget, fun e he hb => ?_⟩
            · simp [hlt] at hx ⊢; exact hx
            · have := m1 _ (hed e (by simpa using he) hb)
              rw [a1.masks.1] at this
              rcases this with h2 | ⟨s, hs', he'⟩
              · rw [bit_zero] at h2; cases h2
              · rw [← he']; exact h1 s hs'
          rw [h] at this; cases this
      intro r hr
      rcases List.mem_cons.1 hr with rfl | hr
      · exact hx
      · exact ih (l1 ++ [x]) (by simp [hs]) (fun s hs' => by
          rcases List.mem_append.1 hs' with h' | h'
          · exact h1 s h'
          · simp at h'; subst h'; exact hx) r hr
  exact key [] rs rfl (fun r hr => by cases hr)

theorem Inv.fin (c : Ctx E f ops its fr0 st0 frN stN rs) (hA : AR φ0 fr0 a0) (h : Inv E B φ0 st0 stN w0 a0 fr0 ops.toList rs S φ a w) (hall : ∀ r ∈ rs, S r.it.i = true) :
    Post E.G B φ0 st0.nxt w0 .normal frN stN .normal a w := by
  obtain ⟨dn, ld, run⟩ := c.run
  obtain ⟨r1, r2, r3, r4⟩ := run.frame
  refine ⟨rfl, φ, h.ext, ⟨⟨by rw [r1, h.size], fun t u hu => ?_⟩, ?_⟩, ?_, h.below⟩
  · rcases r4 t u hu with ⟨r, hr, hd, rfl⟩ | ⟨hg, hn⟩
    · exact h.done r hr (hall r hr) t hd
    · exact h.old t u hg fun r hr hd => absurd hd (hn r hr)
  · rw [r2, h.defers]; exact hA.2.mono h.ext.1
  · have := h.hr
    have e := memAt_skip (S := S) (last := stN) [] rs (fun r hr _ => hall r hr)
    rw [List.append_nil] at e
    rw [e] at this
    exact this

theorem count_set {l : Array Bool} {i : Nat} (h : i < l.size) (hf : l.getD i false = false) : (l.setIfInBounds i true).toList.count false + 1 = l.toList.count false := by
  have hl : i < l.toList.length := by simpa using h
  have hi : l.toList[i] = false := by simp [h] at hf ⊢; exact hf
  rw [Array.toList_setIfInBounds]
  have key : ∀ (m : List Bool) (j : Nat) (hj : j < m.length), m[j] = false → (m.set j true).count false + 1 = m.count false := by
    intro m
    induction m with
    | nil => intro j hj; simp at hj
    | cons x m ih =>
      intro j hj hm
      cases j with
      | zero =>
        simp only [List.getElem_cons_zero] at hm
        subst hm
        simp
      | succ j =>
        simp only [List.getElem_cons_succ] at hm
        simp only [List.set_cons_succ, List.count_cons]
        have := ih j (by simpa using hj) hm
        omega
  exact key _ _ hl hi

theorem reg_sound (hE : E.SOK) (hP : POK E.P) (hcall : ∀ f', f' < f → CallAt E f') : RegAt E f := by
  intro id ops its fr0 st0 e frN stN hits htext hx ro B φ0 a0 w0 hr0 hA0
  obtain ⟨rfl, rs, dnN, ldN, hrun, hmap, hfull, hrecs⟩ := draw_run f _ [] 0 0 fr0 st0 e frN stN hx
  simp only [List.reverse_nil, List.nil_append, List.append_nil] at hrecs
  have hok := mkIts_ok hits
  unfold textOk at htext
  rw [Bool.and_eq_true] at htext
  have hmem : ∀ r ∈ rs, r.it ∈ its := fun r hr => order_mem (by rw [← hmap]; exact List.mem_map_of_mem hr)
  have hitem : ∀ r ∈ rs, its[r.it.i]? = some r.it := by
    intro r hr
    obtain ⟨k, hk⟩ := List.getElem?_of_mem (hmem r hr)
    have := (hok.item k _ hk).1
    rw [this]; exact hk
  have c : Ctx E f ops its fr0 st0 frN stN rs := by
    refine ⟨⟨dnN, ldN, hrun⟩, hok, dstsOk_spec its htext.1, looksOk_spec ops.toList its its htext.2, fun r hr => recsOk_spec rs.reverse hrecs r (by simpa using hr), hitem, fun i hi => ?_⟩
    have := bit_all (n := ops.toList.length) hfull (i := i) (by simpa using hi)
    rw [hrun.masks.1] at this
    rcases this with h | h
    · rw [bit_zero] at h; cases h
    · exact h
  refine wpIn_region_any hP.mixed ?_
  have main : ∀ (fuel : Nat) (listed : Array Bool) (φ : PM) (a : Act) (w : World), listed.size = ops.size → listed.toList.count false = fuel →
      Inv E B φ0 st0 stN w0 a0 fr0 ops.toList rs (fun j => listed.getD j false) φ a w → wpAnyIn (FR ro) 0 E.P .any ops (Post E.G B φ0 st0.nxt w0 .normal frN stN) fuel listed a w := by
    intro fuel
    induction fuel with
    | zero =>
      intro listed φ a w hsz hcnt hi
      have hnil : Region.ready .any ops listed = [] := by
        rw [List.eq_nil_iff_forall_not_mem]
        intro i hi
        obtain ⟨h1, _⟩ := mem_ready.1 hi
        obtain ⟨h2, h3⟩ := getD_true h1
        have := count_set h2 h3
        omega
      exact ⟨hnil, hi.fin c hA0 (c.ready hsz hnil)⟩
    | succ fuel ih =>
      intro listed φ a w hsz hcnt hi
      refine ⟨fun hnil => hi.fin c hA0 (c.ready hsz hnil), fun i hmem => ?_⟩
      obtain ⟨h1, o, ho, hed⟩ := mem_ready.1 hmem
      obtain ⟨h2, h3⟩ := getD_true h1
      obtain ⟨r, hr, rfl⟩ := c.every i (by rw [← hsz]; exact h2)
      obtain ⟨_, hget, _, _, hb2⟩ := c.itsOk.item _ _ (c.item r hr)
      have hget : ops[r.it.i]? = some r.it.o := by simpa using hget
      rw [ho] at hget
      cases hget
      have hbef : ∀ j, bit r.it.bef j = true → listed.getD j false = true := by
        intro j hj
        obtain ⟨e, he, hb, hh⟩ := hb2 j hj
        have hon := hed e (by simpa using he) hb
        rcases hh with rfl | ⟨t', ht', hj'⟩
        · exact hon
        · have hlt : e.on < listed.size := by
            rcases Nat.lt_or_ge e.on listed.size with h' | h'
            · exact h'
            · simp [Array.getElem?_eq_none h'] at hon
          obtain ⟨r2, hr2, he2⟩ := c.every e.on (by rw [← hsz]; exact hlt)
          have := c.item r2 hr2
          rw [he2, ht'] at this
          cases this
          exact hi.closed r2 hr2 (by rw [he2]; exact hon) j hj'
      have hS' : ∀ j, (fun j => (listed.setIfInBounds r.it.i true).getD j false) j = true ↔ j = r.it.i ∨ (fun j => listed.getD j false) j = true := by
        intro j
        by_cases hj : j = r.it.i
        · subst hj; simp [h2]
        · simp only [hj, false_or]
          rw [getD_set_ne false (Ne.symm hj)]
      refine wpOpIn_mono ?_ (hi.step hE hcall c hr h3 (S' := fun j => (listed.setIfInBounds r.it.i true).getD j false) hS' hbef)
      rintro a' w' ⟨φ', hi'⟩
      exact ih _ φ' a' w' (by simp [hsz]) (by have := count_set h2 h3; omega) hi'
  refine main _ _ φ0 a0 _ (by simp) (by simp) ?_
  have hS : ∀ j, (Array.replicate ops.size false).getD j false = false := by
    intro j
    rcases Nat.lt_or_ge j ops.size with h' | h'
    · simp [h']
    · simp [h']
  have hmem0 : HR E.G B φ0 (memAt (fun j => (Array.replicate ops.size false).getD j false) rs stN) w0 := by
    exact hrun.calm (fun r _ _ => hS _) hr0
  refine ⟨(fun r hr h => by cases (hS _).symm.trans h), hmem0.drew rfl, PM.ext_refl _ _, ⟨rfl, rfl, rfl, Nat.le_refl _, fun _ _ => rfl⟩, hA0.1.1.symm, (fun r hr h => by cases (hS _).symm.trans h), fun t v ht _ => hA0.1.2 t v ht, fun r hr hw hk => ?_, rfl⟩
  constructor
  · rintro ⟨p, hp⟩
    have := (hr0.dom _ p hp).1
    have := c.obj_ge hE hr hw hk
    omega
  · intro h; cases (hS _).symm.trans h

/-- THE EXECUTOR IS SOUND. -/
theorem sound (hE : E.SOK) (hP : POK E.P) (f : Nat) : SoundAt E f := sound_of hE hP (fun _ hc => reg_sound hE hP hc) f

end
end Go.Ax

/-
  AxS26: functions without a body.
-/
namespace Go.Ax
open Go Go.RowKit

theorem ofNat_beq {x b : Nat} (hb : b < 256) : (UInt8.ofNat x == UInt8.ofNat b) = Nat.beq (x % 256) b := by
  rw [Bool.eq_iff_iff, beq_iff_eq, Nat.beq_eq]
  constructor
  · intro h
    have := congrArg UInt8.toNat h
    simp only [UInt8.toNat_ofNat'] at this
    rw [show (2 : Nat) ^ 8 = 256 from rfl] at this
    rw [this]; exact Nat.mod_eq_of_lt hb
  · intro h
    apply UInt8.toNat_inj.1
    simp only [UInt8.toNat_ofNat']
    rw [show (2 : Nat) ^ 8 = 256 from rfl, h]; exact (Nat.mod_eq_of_lt hb).symm

theorem findByte_ge (c b : Nat) : ∀ (n i j : Nat), findByte c b n i = some j → i ≤ j
  | 0, i, j, h => by simp [findByte] at h
  | n + 1, i, j, h => by
    simp only [findByte] at h
    rw [cond_eq_ite] at h
    split at h
    · cases h; exact Nat.le_refl _
    · have := findByte_ge c b n (i + 1) j h; omega

theorem findByte_eq (c b : Nat) (hb : b < 256) : ∀ (n i : Nat), Lib.indexByte (bl n (c / 256 ^ i)) (UInt8.ofNat b) = match findByte c b n i with | some j => ((j - i : Nat) : Int) | none => -1
  | 0, i => by simp [findByte, bl, Lib.indexByte]
  | n + 1, i => by
    simp only [findByte, bl, Lib.indexByte]
    rw [ofNat_beq hb, Nat.div_div_eq_div_mul, show 256 ^ i * 256 = 256 ^ (i + 1) from (Nat.pow_succ ..).symm, findByte_eq c b hb n (i + 1)]
    have hs : strAt c i = c / 256 ^ i % 256 := rfl
    rw [hs]
    cases hc : Nat.beq (c / 256 ^ i % 256) b with
    | true => simp
    | false =>
      simp only [Bool.false_eq_true, if_false, cond_false]
      cases hf : findByte c b n (i + 1) with
      | none => simp
      | some j =>
        have := findByte_ge c b n (i + 1) j hf
        simp only
        have hne : ((((j - (i + 1) : Nat) : Int)) == -1) = false := by
          rw [beq_eq_false_iff_ne]
          omega
        rw [hne]
        simp only [Bool.false_eq_true, if_false]
        omega

theorem countB_eq (b : Nat) (hb : b < 256) : ∀ (n c : Nat), Lib.countByte (bl n c) (UInt8.ofNat b) = countB b n c
  | 0, c => by simp [Lib.countByte, bl, countB]
  | n + 1, c => by
    have ih := countB_eq b hb n (c / 256)
    unfold Lib.countByte at ih ⊢
    simp only [bl, countB, List.count_cons, ofNat_beq hb]
    rw [ih, show Nat.div c 256 = c / 256 from rfl, show Nat.mod c 256 = c % 256 from rfl]
    cases Nat.beq (c % 256) b <;> simp

/-- What a function without a body does. -/
def ExtOK (P : Program) (g : FuncId) : Ext → Prop
  | .noEscape => ∀ (v : Value) (w : World), (callFunc g #[v]).run P w = .ok (.value v) w
  | .indexByteString => ∀ (s : ByteArray) (c : Int) (w : World), (callFunc g #[.string s, .int .u8 c]).run P w = .ok (.value (.int .i64 (Lib.indexByte s.data.toList c.toNat.toUInt8))) w
  | .countString => ∀ (s : ByteArray) (c : Int) (w : World), (callFunc g #[.string s, .int .u8 c]).run P w = .ok (.value (.int .i64 (Lib.countByte s.data.toList c.toNat.toUInt8))) w
  | .makeNoZero el => ∀ (n : Nat) (w : World), n ≤ 281474976710656 →
      ∃ cs : Array Value, (callFunc g #[.int .i64 n]).run P w = .ok (.value (.slice (some ⟨w.heap.size, 0, none⟩) n cs.size)) (w.drew.drew.alloc (.cells cs el)) ∧ n ≤ cs.size

section
variable {P : Program} {G : Glob} {B : Nat} {φ : PM} {st : St} {w : World}

theorem extX_sound {g : Nat} {x : Ext} (hx : ExtOK P g x) {args : List AV} {v : AV} {st' : St} (h : extX x args st = some (v, st')) : st.nxt ≤ st'.nxt ∧
    ∀ B φ w (vs : Array Value), HR G B φ st w → VRs φ args vs.toList → CallOK P g vs w (RetP G B φ st.nxt w v st') := by
  unfold extX at h
  split at h
  · rename_i a
    cases h
    refine ⟨Nat.le_refl _, fun B φ w vs hr hv => .inl ?_⟩
    simp only [VRs] at hv
    obtain ⟨y, m, h1, h2, rfl⟩ := hv
    have : vs = #[y] := by apply Array.toList_inj.1; simpa using h1
    subst this
    exact ⟨y, w, hx y w, φ, PM.ext_refl _ _, h2, hr, Below.refl _ _⟩
  · rename_i n c b
    rw [cond_eq_ite] at h
    split at h
    · rename_i hb
      rw [Nat.blt_eq] at hb
      cases h
      refine ⟨Nat.le_refl _, fun B φ w vs hr hv => .inl ?_⟩
      simp only [VRs, VR] at hv
      obtain ⟨y, m, h1, rfl, z, m', rfl, rfl, rfl⟩ := hv
      have : vs = #[.string (mkB n c), .int .u8 (Int.ofNat b)] := by apply Array.toList_inj.1; simpa using h1
      subst this
      refine ⟨_, w, hx _ _ w, φ, PM.ext_refl _ _, ?_, hr, Below.refl _ _⟩
      rw [mkB_data, show (Int.ofNat b).toNat.toUInt8 = UInt8.ofNat b from rfl]
      have := findByte_eq c b hb n 0
      simp only [Nat.pow_zero, Nat.div_one, Nat.sub_zero] at this
      rw [this]
      cases findByte c b n 0 with
      | none => simp [optI, VR]
      | some j => simp only [optI]; rw [mkN_eq]; simp [VR]
    · cases h
  · rename_i n c b
    rw [cond_eq_ite] at h
    split at h
    · rename_i hb
      rw [Nat.blt_eq] at hb
      cases h
      refine ⟨Nat.le_refl _, fun B φ w vs hr hv => .inl ?_⟩
      simp only [VRs, VR] at hv
      obtain ⟨y, m, h1, rfl, z, m', rfl, rfl, rfl⟩ := hv
      have : vs = #[.string (mkB n c), .int .u8 (Int.ofNat b)] := by apply Array.toList_inj.1; simpa using h1
      subst this
      refine ⟨_, w, hx _ _ w, φ, PM.ext_refl _ _, ?_, hr, Below.refl _ _⟩
      rw [mkB_data, show (Int.ofNat b).toNat.toUInt8 = UInt8.ofNat b from rfl, countB_eq b hb, mkN_eq]
      simp [VR]
    · cases h
  · rename_i el n
    rw [cond_eq_ite] at h
    split at h
    · rename_i hn
      rw [Nat.ble_eq] at hn
      split at h
      · cases h
      · rename_i j hj
        split at h
        · rename_i st1 hst
          have := strict_st hst
          subst this
          cases h
          refine ⟨by simp [fresh], fun B φ w vs hr hv => .inl ?_⟩
          simp only [VRs, VR] at hv
          obtain ⟨y, m, h1, rfl, rfl⟩ := hv
          have : vs = #[.int .i64 (n : Int)] := by apply Array.toList_inj.1; simpa using h1
          subst this
          obtain ⟨cs, hrun, hcs⟩ := hx n w (by omega)
          have hfr := hr.fresh_none (Nat.le_refl st.nxt)
          have hb : Below B w (w.drew.drew.alloc (.cells cs el)) := (Below.refl B w).drew.drew.alloc hr.base _
          refine ⟨_, _, hrun, φ.put st.nxt ⟨w.heap.size, 0, cs.size⟩, PM.put_ext _ hfr, ?_, ?_, hb⟩
          · simp only [VR]
            refine ⟨_, cs.size, by rw [show Nat.succ j = st.nxt from hj.symm]; exact PM.put_same _ _ _, by simp, hcs, (fun e => by cases e), Nat.le_refl _, by simp⟩
          · refine hr.new _ ⟨w.heap.size, 0, cs.size⟩ rfl (by simp) (fun k hk => Below.heap_alloc _ _ _ (by simpa using hk)) ?_
            refine ⟨cs, 0, 0, alloc_new w.drew.drew _, rfl, by simpa using hcs, (fun e => by cases e), rfl, fun i u hu => by simp [Tr.get] at hu⟩
        · cases h
    · cases h
  · cases h

theorem extS_sound : ∀ (t : List (Nat × Ext)), (∀ x ∈ t, ExtOK P x.1 x.2) → ∀ g args st v st', extS t g args st = some (v, st') → st.nxt ≤ st'.nxt ∧
    ∀ B φ w (vs : Array Value), HR G B φ st w → VRs φ args vs.toList → CallOK P g vs w (RetP G B φ st.nxt w v st')
  | [], _, g, args, st, v, st', h => by simp [extS] at h
  | (k, x) :: t, ht, g, args, st, v, st', h => by
    simp only [extS] at h
    rw [cond_eq_ite] at h
    split at h
    · rename_i hk
      rw [Nat.beq_eq] at hk
      subst hk
      exact extX_sound (ht _ List.mem_cons_self) h
    · exact extS_sound t (fun y hy => ht y (List.mem_cons_of_mem _ hy)) g args st v st' h

end
end Go.Ax
