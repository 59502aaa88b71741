/- A configuration, as plain numbers; what odographref13.Wrong says of it. No condition. -/
import GoSem.Claim
namespace Go.Proofs.Ytfaabjohlimnlaa

structure Cfg where
  pulses : Int
  circLo : Int
  circHi : Int
  radBase : Int
  radPart : Int
  accErr : Int
  maxSpeed : Int
  maxAccel : Int
  antenna : Int
  still : Int
  stillSpeed : Int
  roll : Int
  timeout : Int
  brake : Int

abbrev Cfg.val (c : Cfg) : Value := .agg #[.int .i64 c.pulses, .int .i64 c.circLo, .int .i64 c.circHi, .int .i64 c.radBase, .int .i64 c.radPart, .int .i64 c.accErr, .int .i64 c.maxSpeed, .int .i64 c.maxAccel, .int .i64 c.antenna, .int .i64 c.still, .int .i64 c.stillSpeed, .int .i64 c.roll, .int .i64 c.timeout, .int .i64 c.brake]

/-- a number above 0 divided, rounded up -/
def upOf (a b : Int) : Int := (a + b - 1) / b

def Cfg.r1 (c : Cfg) : Prop := 1 ≤ c.pulses ∧ c.pulses ≤ 1024
def Cfg.r2 (c : Cfg) : Prop := 131072 ≤ c.circLo ∧ c.circLo ≤ 8388608 ∧ c.circLo ≤ c.circHi ∧ c.circHi ≤ 8388608
def Cfg.r3 (c : Cfg) : Prop := (c.circHi - c.circLo) * 16 ≤ c.circLo
def Cfg.r4 (c : Cfg) : Prop := 0 ≤ c.radBase ∧ c.radBase ≤ 1048576 ∧ 0 ≤ c.radPart ∧ c.radPart ≤ 65536
def Cfg.r5 (c : Cfg) : Prop := 0 ≤ c.accErr ∧ c.accErr ≤ 1048576
def Cfg.r6 (c : Cfg) : Prop := 1 ≤ c.maxSpeed ∧ c.maxSpeed ≤ 16777216 ∧ 1 ≤ c.maxAccel ∧ c.maxAccel ≤ 1048576
def Cfg.r7 (c : Cfg) : Prop := c.maxSpeed * c.pulses ≤ 32000 * c.circLo
def Cfg.r8 (c : Cfg) : Prop := 0 ≤ c.antenna ∧ c.antenna ≤ 1048576
def Cfg.r9 (c : Cfg) : Prop := 1 ≤ c.still ∧ c.still ≤ 1000 ∧ 1 ≤ c.timeout ∧ c.timeout ≤ 1000
def Cfg.r10 (c : Cfg) : Prop := upOf c.circHi c.pulses ≤ c.stillSpeed ∧ 3 * c.radBase ≤ c.stillSpeed ∧ c.stillSpeed ≤ 16777216
def Cfg.r11 (c : Cfg) : Prop := 0 ≤ c.roll ∧ c.roll ≤ 1073741824
def Cfg.r12 (c : Cfg) : Prop := 1 ≤ c.brake ∧ c.brake ≤ 1048576
/-- a configuration that may be -/
def Cfg.ok (c : Cfg) : Prop := c.r1 ∧ c.r2 ∧ c.r3 ∧ c.r4 ∧ c.r5 ∧ c.r6 ∧ c.r7 ∧ c.r8 ∧ c.r9 ∧ c.r10 ∧ c.r11 ∧ c.r12

end Go.Proofs.Ytfaabjohlimnlaa
