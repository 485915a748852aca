/- What the seat lays, by name; it proves nothing. -/
import Derived.Test.YtppefinpekhbeaaProg
import Derived.Lib.Join
