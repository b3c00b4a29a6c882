/- What the law RelocateTrips says of the plain data: it is shown in the text that is imported. No condition. -/
import Derived.Test.YthbeknnkokooiaaCD
